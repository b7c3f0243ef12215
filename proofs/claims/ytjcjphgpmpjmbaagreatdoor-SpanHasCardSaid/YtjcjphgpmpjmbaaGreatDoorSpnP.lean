/-
  The floats beside any fraction, or the refusal (round.Frac, polestarref04.Frac).
  Floats stored into memory: the laws that the kit has for integers, Booleans, slices.
  Spans, plainly: the least and the greatest of two floats, noughts without a sign.
-/
import Derived.Test.YtjcjphgpmpjmbaaGreatDoorExY
import Derived.Test.YtjcjphgpmpjmbaaGreatDoorCom
import Derived.Test.YtjcjphgpmpjmbaaGreatDoorZero
namespace Go.Proofs.YtjcjphgpmpjmbaaGreatDoor
open Go.RowKit

def RetFe (W : World) (neg : Bool) (l : List Nat) (neg' : Bool) (l' : List Nat) (e : Ending) (w' : World) : Prop :=
  ∃ d u, e = .returned (.tuple #[.float .f64 d, .float .f64 u, .int .i64 (chkFr neg l neg' l')]) ∧ (okFr neg l neg' l' → Brk (decide (sgnd neg (Lm.lv l) < 0)) (Lm.lv l * 2 ^ Flt.K74) (Lm.lv l') d u) ∧ (¬ okFr neg l neg' l' → d = 0 ∧ u = 0) ∧ Below W.heap.size W w'
theorem okFr_den {neg : Bool} {l : List Nat} {neg' : Bool} {l' : List Nat} (h : okFr neg l neg' l') : sgnd neg' (Lm.lv l') = (Lm.lv l' : Int) ∧ 0 < Lm.lv l' := by
  have h3 := h.2.2.1
  unfold sgnd at h3 ⊢
  split at h3
  · omega
  · rename_i k
    rw [if_neg k]
    exact ⟨rfl, by omega⟩
set_option maxRecDepth 100000 in
set_option maxHeartbeats 1600000 in
theorem round_frac (neg neg' : Bool) (A A' : Option Addr) (n c n' c' : Nat) (l l' : List Nat) (w : World) (ha : Sl w A n c l) (hb : Sl w A' n' c' l') (hn : n ≤ 1000000000) (hn' : n' ≤ 1000000000) :
    Calls Tryz.prog 30 #[.agg #[.bool neg, .slice A n c, .bool neg', .slice A' n' c']] w (RetFe w neg l neg' l') := by
  by_cases hok : okFr neg l neg' l'
  · have HC : Hid (chkFr neg l neg' l' = 0) := Lib.hid (chkFr_ok hok)
    obtain ⟨hd1, hd2⟩ := okFr_den hok
    have hI1 : IsInt w neg A n c (sgnd neg (Lm.lv l)) := ⟨l, ha, hok.1.2.1, hok.1.2.2, rfl⟩
    have hI2 : IsInt w neg' A' n' c' (Lm.lv l' : Int) := by rw [← hd1]; exact ⟨l', hb, hok.2.1.2.1, hok.2.1.2.2, rfl⟩
    have hl1 : n ≤ 2048 := by have := hok.1.1; have := ha.len; omega
    have hl2 : n' ≤ 2048 := by have := hok.2.1.1; have := hb.len; omega
    have K0 := (((Mm.nil w).int hI1).int hI2).var (g := w.heap.size) rfl [.bool neg, .slice A n c, .bool neg', .slice A' n' c'] 29
    have ha0 := ha.below K0.1
    have hb0 := hb.below K0.1
    obtain ⟨z, hz⟩ : ∃ z, sgnd neg (Lm.lv l) = z := ⟨_, rfl⟩
    rw [hz] at K0
    obtain ⟨D, hD⟩ : ∃ D, Lm.lv l' = D := ⟨_, rfl⟩
    rw [hD] at K0 hd2
    have HZ := Lib.hid hz
    have HD := Lib.hid hD
    have HOK := Lib.hid hok
    clear hok hd1 hI1 hI2 ha hb hz hD
    go_enter Tryz.func30, Tryz.ntmps30
    go_wp2_with fail
    refine (ratio_check neg neg' A A' n c n' c' l l' _ ha0 hb0 hn hn').mono ?_
    rintro e1 w1 ⟨rfl, hb1⟩
    rw [HC.out]
    have K1 := K0.next hb1
    clear K0 ha0 hb0 hb1
    obtain ⟨⟨qa1, qb1, qc1, qd1⟩, ⟨qe1, qf1, qg1, qh1⟩, qi1⟩ := (K1.blk (g := w.heap.size) (vs := [.bool neg, .slice A n c, .bool neg', .slice A' n' c']) (by simp)).four
    go_wp2_with fail
    refine (edge_at_any neg neg' A A' n c n' c' z D _ (K1.at_ (by simp)) (K1.at_ (by simp)) (by omega) (by omega) hd2).mono ?_
    rintro e2 w2 ⟨d, u, rfl, hB, hb2⟩
    have HB := Lib.hid hB
    have K2 := K1.next hb2
    clear hB hb2 K1
    go_wp2_with fail
    go_ret3
    refine ⟨d, u, by rw [HC.out]; rfl, fun _ => ?_, fun h => absurd HOK.out h, K2.1⟩
    have h := HB.out
    rw [HZ.out, HD.out, show Lm.lv l = z.natAbs by rw [← HZ.out, sgnd_abs]]
    exact h
  · have HC : Hid (chkFr neg l neg' l' = 1) := Lib.hid (chkFr_no hok)
    have HOK := Lib.hid hok
    have K0 := (Mm.nil w).var (g := w.heap.size) rfl [.bool neg, .slice A n c, .bool neg', .slice A' n' c'] 29
    have ha0 := ha.below K0.1
    have hb0 := hb.below K0.1
    clear hok ha hb
    go_enter Tryz.func30, Tryz.ntmps30
    go_wp2_with fail
    refine (ratio_check neg neg' A A' n c n' c' l l' _ ha0 hb0 hn hn').mono ?_
    rintro e1 w1 ⟨rfl, hb1⟩
    rw [HC.out]
    have K1 := K0.next hb1
    clear K0 ha0 hb0 hb1
    go_wp2_with fail
    go_ret3
    exact ⟨0, 0, by rw [HC.out]; rfl, fun h => absurd h HOK.out, fun _ => ⟨rfl, rfl⟩, K1.1⟩
end Go.Proofs.YtjcjphgpmpjmbaaGreatDoor

namespace Go.Proofs.YtjcjphgpmpjmbaaGreatDoor
open Go.RowKit

@[go_sem] theorem run_store_float {P : Program} {w : World} {a : Addr} {m : Mode} (k : FloatKind) (x : Nat) : (store a (.float k x) m).run P w = stored P w a (.float k x) m := run_store P w a _ m rfl
end Go.Proofs.YtjcjphgpmpjmbaaGreatDoor

namespace Go.Proofs.YtjcjphgpmpjmbaaGreatDoor
open Go.RowKit

def mn (x y : Nat) : Nat := if Flt.sv x < Flt.sv y then x else if Flt.sv y < Flt.sv x then y else if Flt.sgn x then x else y
section
variable {P : Program} (w : World)
end

theorem fin_zero : Flt.Fin 0 := by unfold Flt.Fin Flt.rg; rw [Flt.inf_eq]; decide
/-- A float without a nought's sign. -/
def pz (v : Nat) : Nat := if Flt.rg v = 0 then 0 else v
theorem sv_pz (v : Nat) : Flt.sv (pz v) = Flt.sv v := by
  unfold pz
  split
  · rename_i h; rw [sv_zero, Flt.sv_zero_iff.2 h]
  · rfl
theorem fin_pz {v : Nat} (h : Flt.Fin v) : Flt.Fin (pz v) := by
  unfold pz; split
  · exact fin_zero
  · exact h
theorem add_nought {v : Nat} (hv : v < 2 ^ 64) (h : Flt.Fin v) : Ieee.double.add v 0 = some (pz v) := by
  have h1 : Flt.rg v < Flt.inf := h
  have e := Flt.add_exact (x := v) (y := 0) (r := Flt.rg v) h fin_zero h1 (by rw [sv_zero, Int.add_zero, sv_abs])
  rw [sv_zero, Int.add_zero] at e
  rw [e]
  unfold pz
  by_cases h0 : Flt.rg v = 0
  · rw [if_pos h0, if_pos (Flt.sv_zero_iff.2 h0), h0]
    have : Flt.sgn 0 = false := by decide
    rw [this, Bool.and_false]
    rfl
  · rw [if_neg h0, if_neg (fun k => h0 (Flt.sv_zero_iff.1 k)), sv_neg h0, Flt.word_eq v hv]
theorem isOp_nought {v t : Nat} (hv : v < 2 ^ 64) (h : Flt.Fin v) (ht : IsOp Ieee.double.add v 0 t) : t = pz v := by
  have := ht.2
  rw [add_nought hv h] at this
  exact this
/-- v - v == 0 asks whether v is finite. -/
theorem sub_self {v t : Nat} (ht : IsOp Ieee.double.sub v v t) : (Ieee.double.order t 0 == some .eq) = Flt.finB v := by
  obtain ⟨_, h⟩ := ht
  rw [Flt.sub_eq] at h
  by_cases hf : Flt.Fin v
  · have e := Flt.add_exact (x := v) (y := Flt.opp v) (r := 0) hf (Flt.fin_opp.2 hf) (by rw [Flt.inf_eq]; omega) (by rw [Flt.sv_opp, Int.add_right_neg, Flt.val_zero]; rfl)
    rw [Flt.sv_opp, Int.add_right_neg, if_pos rfl, Flt.sgn_opp] at e
    rw [e] at h
    have h0 : t = 0 := by rw [show t = _ from h]; cases Flt.sgn v <;> rfl
    rw [h0, Flt.finB_iff.2 hf, Flt.eq_spec nan_zero nan_zero]
    simp
  · rw [Flt.finB_false.2 hf]
    have hn : Flt.Nan t := by
      by_cases hi : Flt.rg v = Flt.inf
      · rw [Flt.add_inf_both hi (by rw [Flt.rg_opp]; exact hi), Flt.sgn_opp, if_neg (by cases Flt.sgn v <;> simp)] at h
        exact h
      · rw [Flt.add_nan_left (by unfold Flt.Fin at hf; unfold Flt.Nan; omega)] at h
        exact h
    rw [Flt.order_nan_left hn]
    rfl

/-- May a span be? -/
def okS (lo hi : Nat) : Bool := Flt.finB lo && Flt.finB hi && !(Ieee.double.order lo hi == some .gt)
theorem okS_iff {lo hi : Nat} : okS lo hi = true ↔ Flt.Fin lo ∧ Flt.Fin hi ∧ Flt.sv lo ≤ Flt.sv hi := by
  unfold okS
  constructor
  · intro h
    rw [Bool.and_eq_true, Bool.and_eq_true] at h
    obtain ⟨⟨h1, h2⟩, h3⟩ := h
    have f1 := Flt.finB_iff.1 h1
    have f2 := Flt.finB_iff.1 h2
    rw [Flt.gt_spec (fun k => Flt.not_fin_nan k f1) (fun k => Flt.not_fin_nan k f2), Bool.not_eq_true', decide_eq_false_iff_not] at h3
    exact ⟨f1, f2, by omega⟩
  · rintro ⟨f1, f2, h3⟩
    rw [Flt.finB_iff.2 f1, Flt.finB_iff.2 f2, Flt.gt_spec (fun k => Flt.not_fin_nan k f1) (fun k => Flt.not_fin_nan k f2), decide_eq_false (by omega)]
    rfl
/-- Is the one float not above the other? -/
def leB (x y : Nat) : Bool := Ieee.double.order x y == some .lt || Ieee.double.order x y == some .eq
theorem leB_iff {x y : Nat} (hx : Flt.Fin x) (hy : Flt.Fin y) : leB x y = decide (Flt.sv x ≤ Flt.sv y) := by
  unfold leB
  rw [Flt.lt_spec (fun k => Flt.not_fin_nan k hx) (fun k => Flt.not_fin_nan k hy), Flt.eq_spec (fun k => Flt.not_fin_nan k hx) (fun k => Flt.not_fin_nan k hy)]
  by_cases h : Flt.sv x < Flt.sv y
  · rw [decide_eq_true h, decide_eq_true (show Flt.sv x ≤ Flt.sv y by omega)]; rfl
  · by_cases h2 : Flt.sv x = Flt.sv y
    · rw [decide_eq_true h2, decide_eq_true (show Flt.sv x ≤ Flt.sv y by omega)]; simp
    · rw [decide_eq_false h, decide_eq_false h2, decide_eq_false (by omega)]; rfl
/-- What is told of the ends. -/
def endsF (lo hi : Nat) : Nat × Nat × Int := if Flt.finB lo && Flt.finB hi then (pz lo, pz hi, 0) else (0, 0, 6)
end Go.Proofs.YtjcjphgpmpjmbaaGreatDoor
