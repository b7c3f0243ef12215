/-
  Parts of a turn: mirrored, turned (place.laid); the function over the parts (turn.units$1).
-/
import Derived.Test.YtdmdaoginojalaaGreatDoorTurU
import Derived.Test.YtdmdaoginojalaaGreatDoorSpnP
namespace Go.Proofs.YtdmdaoginojalaaGreatDoor
open Go.RowKit

def swF (mir : Bool) (z : Nat × Nat) : Nat × Nat := if mir then (z.2, z.1) else z
def laidF (mir : Bool) (n : Nat) (z : Nat × Nat) : Nat × Nat := (pz (turnF (swF mir z) n).1, pz (turnF (swF mir z) n).2)
theorem turnF_fin {z : Nat × Nat} (h1 : Flt.Fin z.1) (h2 : Flt.Fin z.2) : ∀ k, Flt.Fin (turnF z k).1 ∧ Flt.Fin (turnF z k).2
  | 0 => ⟨h1, h2⟩
  | k + 1 => ⟨Flt.fin_opp.2 (turnF_fin h1 h2 k).2, (turnF_fin h1 h2 k).1⟩
set_option maxRecDepth 100000 in
set_option maxHeartbeats 1600000 in
theorem laid_any (q l : Int) (mir : Bool) (a b n : Nat) (ha : a < 2 ^ 64) (hb : b < 2 ^ 64) (fa : Flt.Fin a) (fb : Flt.Fin b) (hq : Hid (bits .and .i64 q 3 = (n : Int))) (hn : n < 4) (w : World) :
    Calls Tryz.prog 54 #[.agg #[.int .i64 q, .int .i64 l, .bool mir], .complex .f64 a b] w fun e w' => e = .returned (.complex .f64 (laidF mir n (a, b)).1 (laidF mir n (a, b)).2) ∧ Below w.heap.size w w' := by
  cases mir with
  | true =>
    obtain ⟨t, ht⟩ : ∃ t, turnF (b, a) n = t := ⟨_, rfl⟩
    have l1 := turnF_lt (z := (b, a)) hb ha n
    have f1 := turnF_fin (z := (b, a)) fb fa n
    rw [ht] at l1 f1
    have HL : Hid (laidF true n (a, b) = (pz t.1, pz t.2)) := Lib.hid (by unfold laidF swF; rw [if_pos rfl]; show (pz (turnF (b, a) n).1, pz (turnF (b, a) n).2) = _; rw [ht])
    have HT := Lib.hid ht
    have K1 : Hid (∀ x, IsOp Ieee.double.add t.1 0 x → x = pz t.1) := Lib.hid (fun x => isOp_nought l1.1 f1.1)
    have K2 : Hid (∀ x, IsOp Ieee.double.add t.2 0 x → x = pz t.2) := Lib.hid (fun x => isOp_nought l1.2 f1.2)
    clear ht l1 f1 fa fb
    rw [HL.out]
    obtain ⟨t1, t2⟩ := t
    go_enter Tryz.func54, Tryz.ntmps54
    go_wp2_with fail
    refine (cturn_any b a q n hb ha hq hn _).mono ?_
    rintro e1 w1 ⟨rfl, rfl⟩
    rw [HT.out]
    go_wp2_with (first
      | (refine wpList_fadd _ rfl rfl ?_; intro x1 d1 h1; have e1 := K1.out _ h1; clear h1 K1)
      | (refine wpList_fadd _ rfl rfl ?_; intro x2 d2 h2; have e2 := K2.out _ h2; clear h2 K2))
    go_ret
    exact ⟨rfl, below_drewN ((Below.refl _ _).alloc (Nat.le_refl _) _) _⟩
  | false =>
    obtain ⟨t, ht⟩ : ∃ t, turnF (a, b) n = t := ⟨_, rfl⟩
    have l1 := turnF_lt (z := (a, b)) ha hb n
    have f1 := turnF_fin (z := (a, b)) fa fb n
    rw [ht] at l1 f1
    have HL : Hid (laidF false n (a, b) = (pz t.1, pz t.2)) := Lib.hid (by unfold laidF swF; rw [if_neg (by simp)]; show (pz (turnF (a, b) n).1, pz (turnF (a, b) n).2) = _; rw [ht])
    have HT := Lib.hid ht
    have K1 : Hid (∀ x, IsOp Ieee.double.add t.1 0 x → x = pz t.1) := Lib.hid (fun x => isOp_nought l1.1 f1.1)
    have K2 : Hid (∀ x, IsOp Ieee.double.add t.2 0 x → x = pz t.2) := Lib.hid (fun x => isOp_nought l1.2 f1.2)
    clear ht l1 f1 fa fb
    rw [HL.out]
    obtain ⟨t1, t2⟩ := t
    go_enter Tryz.func54, Tryz.ntmps54
    go_wp2_with fail
    refine (cturn_any a b q n ha hb hq hn _).mono ?_
    rintro e1 w1 ⟨rfl, rfl⟩
    rw [HT.out]
    go_wp2_with (first
      | (refine wpList_fadd _ rfl rfl ?_; intro x1 d1 h1; have e1 := K1.out _ h1; clear h1 K1)
      | (refine wpList_fadd _ rfl rfl ?_; intro x2 d2 h2; have e2 := K2.out _ h2; clear h2 K2))
    go_ret
    exact ⟨rfl, below_drewN ((Below.refl _ _).alloc (Nat.le_refl _) _) _⟩

/-! ### products of parts stay small -/
theorem near_le {num den r R : Nat} (hd : 0 < den) (h : Flt.Near num den r) (hR : num ≤ Flt.val R * den) : r ≤ R := by
  rcases Nat.lt_or_ge R r with hlt | hge
  · exfalso
    have h2 := (h.2.2 (by omega)).1
    have v1 := Flt.val_le (show R ≤ r - 1 by omega)
    have v2 := Flt.val_lt hlt
    have h3 : (Flt.val R + Flt.val R) * den < (Flt.val (r - 1) + Flt.val r) * den := Nat.mul_lt_mul_of_pos_right (by omega) hd
    rw [Nat.add_mul] at h3
    omega
  · exact hge
/-- The float is finite, of at most m. -/
def Bd (m x : Nat) : Prop := x < 2 ^ 64 ∧ Flt.Fin x ∧ Flt.val (Flt.rg x) ≤ m * 2 ^ Flt.K74
theorem bd_word {m r : Nat} (s : Bool) (hm : m < 2 ^ 53) (h : r ≤ Flt.whole m) : Bd m (Flt.word s r) := by
  have h1 := Flt.whole_lt hm
  have hil := Flt.inf_lt
  have e : Flt.rg (Flt.word s r) = r := Flt.rg_word _ _ (by omega)
  refine ⟨Flt.word_lt _ (by omega), by unfold Flt.Fin; rw [e]; omega, ?_⟩
  rw [e, ← Flt.val_whole hm]
  exact Flt.val_le h
theorem bd_mul {m x y : Nat} (hm : m < 2 ^ 53) (hx : Bd m x) (hy : Bd 1 y) : (Ieee.double.mul x y).isSome = true ∧ Bd m (fop Ieee.double.mul x y) := by
  obtain ⟨r, h1, h2⟩ := Flt.mul_fin hx.2.1 hy.2.1
  have h3 : r ≤ Flt.whole m := near_le (Nat.two_pow_pos _) h2 (by
    rw [Flt.val_whole hm]
    have := hy.2.2
    rw [Nat.one_mul] at this
    exact Nat.mul_le_mul hx.2.2 this)
  unfold fop
  rw [h1]
  exact ⟨rfl, bd_word _ hm h3⟩
theorem bd_add {m x y : Nat} (hm : m + m < 2 ^ 53) (hx : Bd m x) (hy : Bd m y) : (Ieee.double.add x y).isSome = true ∧ Bd (m + m) (fop Ieee.double.add x y) := by
  obtain ⟨z, h1, r, hw, h2⟩ := Flt.add_fin hx.2.1 hy.2.1
  have h3 : r ≤ Flt.whole (m + m) := near_le (by omega) h2 (by
    rw [Flt.val_whole hm, Nat.mul_one, Nat.add_mul]
    have a := hx.2.2
    have b := hy.2.2
    have ha : (Flt.sv x).natAbs = Flt.val (Flt.rg x) := sv_abs x
    have hb : (Flt.sv y).natAbs = Flt.val (Flt.rg y) := sv_abs y
    omega)
  unfold fop
  rw [h1, hw]
  exact ⟨rfl, bd_word _ hm h3⟩
theorem bd_opp {m x : Nat} (hx : Bd m x) : Bd m (Flt.opp x) := ⟨Flt.opp_lt _, Flt.fin_opp.2 hx.2.1, by rw [Flt.rg_opp]; exact hx.2.2⟩
theorem bd_sub {m x y : Nat} (hm : m + m < 2 ^ 53) (hx : Bd m x) (hy : Bd m y) : (Ieee.double.sub x y).isSome = true ∧ Bd (m + m) (fop Ieee.double.sub x y) := by
  have := bd_add hm hx (bd_opp hy)
  unfold fop at this ⊢
  rw [Flt.sub_eq]
  exact this
def cmulF (a b : Nat × Nat) : Nat × Nat :=
  (fop Ieee.double.sub (fop Ieee.double.mul a.1 b.1) (fop Ieee.double.mul a.2 b.2), fop Ieee.double.add (fop Ieee.double.mul a.1 b.2) (fop Ieee.double.mul a.2 b.1))
theorem cmul_det {m : Nat} {a b : Nat × Nat} {x y : Nat} (hm : m + m < 2 ^ 53) (a1 : Bd m a.1) (a2 : Bd m a.2) (b1 : Bd 1 b.1) (b2 : Bd 1 b.2) (h : MulR a b x y) :
    (x, y) = cmulF a b ∧ Bd (m + m) (cmulF a b).1 ∧ Bd (m + m) (cmulF a b).2 := by
  have hm' : m < 2 ^ 53 := by omega
  obtain ⟨⟨p, q, hp, hq, hz⟩, ⟨p', q', hp', hq', hz'⟩⟩ := h
  obtain ⟨o1, k1⟩ := bd_mul hm' a1 b1
  obtain ⟨o2, k2⟩ := bd_mul hm' a2 b2
  obtain ⟨o3, k3⟩ := bd_mul hm' a1 b2
  obtain ⟨o4, k4⟩ := bd_mul hm' a2 b1
  have e1 := isOp_det o1 hp
  have e2 := isOp_det o2 hq
  have e3 := isOp_det o3 hp'
  have e4 := isOp_det o4 hq'
  subst e1 e2 e3 e4
  obtain ⟨o5, k5⟩ := bd_sub hm k1 k2
  obtain ⟨o6, k6⟩ := bd_add hm k3 k4
  have e5 := isOp_det o5 hz
  have e6 := isOp_det o6 hz'
  subst e5 e6
  exact ⟨rfl, k5, k6⟩
theorem bd_more {m n x : Nat} (h : Bd m x) (hmn : m ≤ n) : Bd n x := ⟨h.1, h.2.1, Nat.le_trans h.2.2 (Nat.mul_le_mul_right _ hmn)⟩
theorem bd_small {x : Nat} (h : x ≤ one) : Bd 1 x := by
  have e : Flt.whole 1 = one := by decide +kernel
  have hi := Flt.inf_eq
  have h1 : one < 2 ^ 63 := by decide
  have := bd_word (m := 1) false (by decide) (r := x) (by rw [e]; exact h)
  exact this
theorem part_bd {k : Nat} (hk : k < 14) : Bd 1 (cT (k + 1)) ∧ Bd 1 (sT (k + 1)) := by
  obtain ⟨_, _, _, _, _, h1, h2⟩ := okT_parts hk
  exact ⟨bd_small h1, bd_small h2⟩
/-- The product of the parts whose bits stand in r, j bits looked at. -/
def zF (r : Nat) : Nat → (Nat × Nat) × Bool
  | 0 => ((one, 0), true)
  | j + 1 => if r.testBit (13 - j) then (if (zF r j).2 then ((cT (j + 1), sT (j + 1)), false) else (cmulF (zF r j).1 (cT (j + 1), sT (j + 1)), false)) else zF r j
theorem zF_bd (r : Nat) : ∀ j, j ≤ 14 → Bd (2 ^ j) (zF r j).1.1 ∧ Bd (2 ^ j) (zF r j).1.2
  | 0, _ => ⟨bd_small (Nat.le_refl _), bd_small (show (0 : Nat) ≤ one by decide)⟩
  | j + 1, hj => by
    obtain ⟨h1, h2⟩ := zF_bd r j (by omega)
    obtain ⟨p1, p2⟩ := part_bd (k := j) (by omega)
    have e : (2 : Nat) ^ (j + 1) = 2 ^ j + 2 ^ j := by rw [Nat.pow_succ]; omega
    have hb : (2 : Nat) ^ (j + 1) ≤ 2 ^ 14 := Nat.pow_le_pow_right (by decide) hj
    have h0 : 0 < (2 : Nat) ^ j := Nat.two_pow_pos _
    have hm : 2 ^ j + 2 ^ j < 2 ^ 53 := by omega
    unfold zF
    rw [e]
    split
    · split
      · exact ⟨bd_more p1 (by omega), bd_more p2 (by omega)⟩
      · obtain ⟨o1, k1⟩ := bd_mul (m := 2 ^ j) (by omega) h1 p1
        obtain ⟨o2, k2⟩ := bd_mul (m := 2 ^ j) (by omega) h2 p2
        obtain ⟨o3, k3⟩ := bd_mul (m := 2 ^ j) (by omega) h1 p2
        obtain ⟨o4, k4⟩ := bd_mul (m := 2 ^ j) (by omega) h2 p1
        exact ⟨(bd_sub hm k1 k2).2, (bd_add hm k3 k4).2⟩
    · exact ⟨bd_more h1 (by omega), bd_more h2 (by omega)⟩
end Go.Proofs.YtdmdaoginojalaaGreatDoor
