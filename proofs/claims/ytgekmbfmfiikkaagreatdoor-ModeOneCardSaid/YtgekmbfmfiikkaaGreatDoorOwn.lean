/-
  The references' roots: of whole numbers (polestarref01), of floats (polestarref04).
  The references' whole numbers (polestarref01): the greatest number that goes into both, by halving.
  The program's whole numbers (package exact): limbs without noughts at the end, a sign, numbers of 64 bits, may a number be.
  Whole numbers in memory of their own: where an answer's limbs lie; a walk's memory that tells it.
-/
import Derived.Test.YtgekmbfmfiikkaaGreatDoorRootW
import Derived.Deep.LoopGhost
import Derived.Test.YtgekmbfmfiikkaaGreatDoorRefW
set_option maxHeartbeats 800000
set_option maxRecDepth 100000
namespace Go.Proofs.YtgekmbfmfiikkaaGreatDoor
open Go.RowKit
/-! ### plain -/
def IsRt (X k : Nat) : Prop := k * k ≤ X ∧ X < (k + 1) * (k + 1)
theorem four_mul (a b : Nat) : 4 * (a * b) ≤ (a + b) * (a + b) := by
 rcases Nat.le_total a b with h | h
 ·obtain ⟨d, rfl⟩ := Nat.exists_eq_add_of_le h
  simp only [Nat.mul_add, Nat.add_mul, Nat.mul_comm d a]
  omega
 ·obtain ⟨d, rfl⟩ := Nat.exists_eq_add_of_le h
  simp only [Nat.mul_add, Nat.add_mul, Nat.mul_comm d b]
  omega
theorem rt_step {X k : Nat} (hX : 0 < X) (hk : 0 < k) : 0 < (k + X / k) / 2 ∧ X < ((k + X / k) / 2 + 1) * ((k + X / k) / 2 + 1) := by
 have h1 : X < k * (X / k + 1) := Nat.lt_mul_div_succ X hk
 obtain ⟨q, hq⟩ : ∃ q, X / k = q := ⟨_, rfl⟩
 rw [hq] at h1 ⊢
 obtain ⟨m, hm⟩ : ∃ m, (k + q) / 2 = m := ⟨_, rfl⟩
 rw [hm]
 have h2 : k + (q + 1) ≤ 2 * (m + 1) := by omega
 have h3 := Nat.mul_le_mul h2 h2
 have h4 := four_mul k (q + 1)
 rw [Nat.mul_mul_mul_comm] at h3
 have h5 : X < (m + 1) * (m + 1) := by
  generalize k * (q + 1) = a at *
  generalize (k + (q + 1)) * (k + (q + 1)) = b at *
  generalize (m + 1) * (m + 1) = c at *
  omega
 refine ⟨?_, h5⟩
 rcases Nat.eq_zero_or_pos m with h | h
 ·subst h; simp at h5; omega
 ·exact h
theorem rt_stop {X k : Nat} (hk : 0 < k) (h : k ≤ (k + X / k) / 2) : k * k ≤ X := by
 have h1 : k ≤ X / k := by omega
 exact (Nat.le_div_iff_mul_le hk).1 h1
theorem rt_start {X L H : Nat} (hX : X ≠ 0) (hL : L = bitLen X) (hH : H = (L + 1) / 2) : X < (2 ^ H + 1) * (2 ^ H + 1) := by
 obtain ⟨_, _, h⟩ := bitLen_spec hX
 rw [← hL] at h
 have h1 : 2 ^ L ≤ 2 ^ (H + H) := Nat.pow_le_pow_right (by decide) (by omega)
 rw [Nat.pow_add] at h1
 have h2 : 2 ^ H * 2 ^ H ≤ (2 ^ H + 1) * (2 ^ H + 1) := Nat.mul_le_mul (by omega) (by omega)
 omega
/-! ### half, Root -/
end Go.Proofs.YtgekmbfmfiikkaaGreatDoor
namespace Go.Proofs.YtgekmbfmfiikkaaGreatDoor
open Go.RowKit
def Lv (w : World) (A : Option Addr) (n c X : Nat) : Prop := ∃ l, Sl w A n c l ∧ Lm.canon l ∧ Lm.lv l = X
theorem Lv.lt {w : World} {A : Option Addr} {n c X : Nat} (h : Lv w A n c X) : X < 2 ^ (32 * n) := by
 obtain ⟨l, h1, h2, rfl⟩ := h
 have := Lm.lv_lt h1.ok
 rw [h1.len] at this
 rw [Nat.pow_mul]
 exact this
theorem lv_of_int {w : World} {neg : Bool} {A : Option Addr} {n c : Nat} {z : Int} (h : IsInt w neg A n c z) : Lv w A n c z.natAbs := by
 obtain ⟨l, h1, h2, _, rfl⟩ := h
 refine ⟨l, h1, h2, ?_⟩
 unfold sgnd
 split <;> omega
end Go.Proofs.YtgekmbfmfiikkaaGreatDoor
namespace Go.Proofs.YtgekmbfmfiikkaaGreatDoor
open Go.RowKit
theorem ex_trim_any (A : Option Addr) (n c : Nat) (l : List Nat) (w : World) (h : Sl w A n c l) (hn : n ≤ 4000000000) :
  Calls Tryz.prog 278 #[.slice A n c] w fun e w' => e = .returned (.slice A (Lm.trim l).length c) ∧ w = w' := by
 have hlen := h.len
 have hcap := h.cap
 go_enter Tryz.func278, Tryz.ntmps278
 go_wp2
 go_loop [0] (fun v => ∃ k : Nat, k ≤ n ∧ v = .slice A k c ∧ Hid (Lm.trim (l.take k) = Lm.trim l)) (fun v => lenOf v)
 case atStart => exact ⟨n, Nat.le_refl _, rfl, by rw [← hlen, List.take_length]; exact rfl⟩
 case round =>
  obtain ⟨k, hk, rfl, hrel⟩ := hrel
  by_cases h0 : k = 0
  ·subst h0
   have e : Lm.trim l = [] := by rw [← hrel.out]; rfl
   have E : Hid (Lm.trim l = []) := e
   clear e
   go_wp2
   go_ret
   exact ⟨by rw [E.out]; rfl, rfl⟩
  ·obtain ⟨ad, rfl, hb, hl, hc, hx⟩ := h.at_ (k := k - 1) (by omega)
   have hk1 : 1 ≤ k := by omega
   clear h0 
   have hd : decide ((0 : Int) < (k : Int)) = true := by simp; omega
   go_wp2
   ·have hz : ((l[k - 1] : Nat) : Int) == 0 := by assumption
    have hz' : l[k - 1] = 0 := by have := beq_iff_eq.1 hz; omega
    refine ⟨⟨k - 1, by omega, rfl, ?_⟩, by simp [lenOf]; omega⟩
    have e : l.take k = l.take (k - 1) ++ [0] := by
     conv => lhs; rw [show k = k - 1 + 1 by omega]
     rw [List.take_succ_eq_append_getElem hl, hz']
    have e2 : Lm.trim (l.take (k - 1)) = Lm.trim l := by rw [← hrel.out, e, Lm.trim_snoc_zero]
    exact e2
   ·have hz : (((l[k - 1] : Nat) : Int) == 0) = false := by assumption
    have hz' : l[k - 1] ≠ 0 := by intro e; rw [e] at hz; simp at hz
    have e : l.take k = l.take (k - 1) ++ [l[k - 1]] := by
     conv => lhs; rw [show k = k - 1 + 1 by omega]
     rw [List.take_succ_eq_append_getElem hl]
    have e2 : (Lm.trim l).length = k := by
     rw [← hrel.out, e, Lm.trim_snoc _ _ hz', ← e, List.length_take]; omega
    go_ret
    exact ⟨by rw [e2]; rfl, rfl⟩
theorem ex_signed_any (neg : Bool) (A : Option Addr) (n c : Nat) (l : List Nat) (w : World) (h : Sl w A n c l) (hn : n ≤ 4000000000) :
  Calls Tryz.prog 267 #[.bool neg, .slice A n c] w (RetInt w (sgnd neg (Lm.lv l))) := by
 have hlen := h.len
 have hcap := h.cap
 have htl := trim_len l
 by_cases h0 : Lm.trim l = []
 ·have hlv : Lm.lv l = 0 := by rw [← Lm.trim_lv, h0]; rfl
  have hl0 : ((Lm.trim l).length : Int) = 0 := by rw [h0]; rfl
  have H : Hid (Lm.lv l = 0) := hlv
  clear hlv h0
  go_enter Tryz.func267, Tryz.ntmps267
  go_wp2_with (go_at_call 278; refine (ex_trim_any _ _ _ _ _ (h.alloc _) hn).mono ?_; rintro e w' ⟨rfl, rfl⟩)
  exact bodyPost_ret (v := .agg #[.bool false, .slice none 0 0]) (by simp [results, Tryz.results267, go_sem]) rfl
   ⟨false, none, 0, 0, rfl, by rw [H.out, show sgnd neg 0 = 0 by unfold sgnd; split <;> rfl]; exact isInt_nought, (Below.refl _ _).alloc (Nat.le_refl _) _⟩
 ·have h1 : (((Lm.trim l).length : Int) == 0) = false := by
   have : (Lm.trim l).length ≠ 0 := fun e => h0 (List.eq_nil_of_length_eq_zero e)
   rw [beq_eq_false_iff_ne]; omega
  go_enter Tryz.func267, Tryz.ntmps267
  go_wp2_with (go_at_call 278; refine (ex_trim_any _ _ _ _ _ (h.alloc _) hn).mono ?_; rintro e w' ⟨rfl, rfl⟩)
  exact bodyPost_ret (v := .agg #[.bool neg, .slice A (Lm.trim l).length c]) (by simp [results, Tryz.results267, go_sem]) rfl
   ⟨neg, A, (Lm.trim l).length, c, rfl, (isInt_signed h h0).below ((Below.refl _ _).alloc (Nat.le_refl _) _), (Below.refl _ _).alloc (Nat.le_refl _) _⟩
theorem ex_of_pos (m : Nat) (w : World) (h : m ≤ 9223372036854775807) :
  Calls Tryz.prog 215 #[.int .i64 (m : Int)] w (RetInt w (m : Int)) := by
 have e1 : (m : Int) % 4294967296 = ((m % 4294967296 : Nat) : Int) := by omega
 have e2 : (m : Int) / 4294967296 = ((m / 4294967296 : Nat) : Int) := by omega
 have E1 := Lib.hid e1
 have E2 := Lib.hid e2
 clear e1 e2
 go_enter Tryz.func215, Tryz.ntmps215
 go_wp2_with fail
 rw [E1.out, E2.out]
 refine (ex_signed_any _ _ _ _ _ _ (sl_new2_box _ _ _ _ _ (by omega) (by omega)) (by omega)).mono ?_
 rintro e w2 ⟨neg2, A2, n2, c2, rfl, hI2, hb2⟩
 obtain ⟨hc2, hf2⟩ := bcell hb2
 have r5 := hc2 (w.heap.size) 0 (by simp <;> omega)
 have r6 := hc2 (w.heap.size) 1 (by simp <;> omega)
 have r7 := hf2 (w.heap.size) 0 (by simp <;> omega)
 have r8 := hf2 (w.heap.size) 1 (by simp <;> omega)
 have hz1 : w.heap.size < w2.heap.size := (by have := hb2.size; simp at this; omega)
 rw [of_limbs] at hI2
 go_wp2_with fail
 exact bodyPost_ret (v := .agg #[.bool neg2, .slice A2 n2 c2]) (by simp [results, Tryz.results215, go_sem, r5, r6]) rfl
  ⟨neg2, A2, n2, c2, rfl, isInt_result (b0 := false) (a0 := none) (n0 := 0) (c0 := 0) hI2 (r5.trans (by simp [go_sem])) (r6.trans (by simp [go_sem])) _ _, below_result (below_box (below_box hb2)) (by omega) _ _⟩
theorem ex_of_neg (m : Nat) (w : World) (h : m ≤ 9223372036854775808) (h0 : 0 < m) :
  Calls Tryz.prog 215 #[.int .i64 (-(m : Int))] w (RetInt w (-(m : Int))) := by
 have e1 : (m : Int) % 4294967296 = ((m % 4294967296 : Nat) : Int) := by omega
 have e2 : (m : Int) / 4294967296 = ((m / 4294967296 : Nat) : Int) := by omega
 have E1 := Lib.hid e1
 have E2 := Lib.hid e2
 clear e1 e2
 have ew : IntKind.u64.wrap (-IntKind.u64.wrap (-(m : Int))) = (m : Int) := by
  simp only [IntKind.wrap, IntKind.bits, IntKind.signed]; simp; omega
 have hneg : -(m : Int) < 0 := by omega
 have hb1 : (m : Int) ≤ 18446744073709551615 := by omega
 go_enter Tryz.func215, Tryz.ntmps215
 go_wp2_with fail
 rw [E1.out, E2.out]
 refine (ex_signed_any _ _ _ _ _ _ (sl_new2_box _ _ _ _ _ (by omega) (by omega)) (by omega)).mono ?_
 rintro e w2 ⟨neg2, A2, n2, c2, rfl, hI2, hb2⟩
 obtain ⟨hc2, hf2⟩ := bcell hb2
 have r5 := hc2 (w.heap.size) 0 (by simp <;> omega)
 have r6 := hc2 (w.heap.size) 1 (by simp <;> omega)
 have r7 := hf2 (w.heap.size) 0 (by simp <;> omega)
 have r8 := hf2 (w.heap.size) 1 (by simp <;> omega)
 have hz1 : w.heap.size < w2.heap.size := (by have := hb2.size; simp at this; omega)
 rw [of_limbs] at hI2
 go_wp2_with fail
 exact bodyPost_ret (v := .agg #[.bool neg2, .slice A2 n2 c2]) (by simp [results, Tryz.results215, go_sem, r5, r6]) rfl
  ⟨neg2, A2, n2, c2, rfl, isInt_result (b0 := false) (a0 := none) (n0 := 0) (c0 := 0) hI2 (r5.trans (by simp [go_sem])) (r6.trans (by simp [go_sem])) _ _, below_result (below_box (below_box hb2)) (by omega) _ _⟩
theorem ex_of_any (z : Int) (w : World) (h : -9223372036854775808 ≤ z ∧ z ≤ 9223372036854775807) :
  Calls Tryz.prog 215 #[.int .i64 z] w (RetInt w z) := by
 by_cases hz : z < 0
 ·have e : z = -(z.natAbs : Int) := by omega
  rw [e]
  exact ex_of_neg _ w (by omega) (by omega)
 ·have e : z = (z.natAbs : Int) := by omega
  rw [e]
  exact ex_of_pos _ w (by omega)
theorem ex_sign_any (neg : Bool) (A : Option Addr) (n c : Nat) (z : Int) (w : World) (h : IsInt w neg A n c z) :
  Calls Tryz.prog 174 #[.agg #[.bool neg, .slice A n c]] w (RetV w (.int .i64 z.sign)) := by
 have hz := isInt_zero h
 have hn := isInt_neg h
 by_cases h0 : n = 0
 ·have E : Hid (z.sign = 0) := by rw [hz.1 h0]; exact rfl
  subst h0
  clear hz hn
  go_enter Tryz.func174, Tryz.ntmps174
  go_wp2
  go_ret
  exact ⟨by rw [E.out]; rfl, (Below.refl _ _).alloc (Nat.le_refl _) _⟩
 ·have hz' : z ≠ 0 := fun e => h0 (hz.2 e)
  have h1 : ((n : Int) == 0) = false := by rw [beq_eq_false_iff_ne]; omega
  cases neg
  ·have E : Hid (z.sign = 1) := Int.sign_eq_one_of_pos (by have := of_decide_eq_false hn.symm; omega)
   clear hz hn hz'
   go_enter Tryz.func174, Tryz.ntmps174
   go_wp2
   go_ret
   exact ⟨by rw [E.out]; rfl, (Below.refl _ _).alloc (Nat.le_refl _) _⟩
  ·have E : Hid (z.sign = -1) := Int.sign_eq_neg_one_of_neg (of_decide_eq_true hn.symm)
   clear hz hn hz'
   go_enter Tryz.func174, Tryz.ntmps174
   go_wp2
   go_ret
   exact ⟨by rw [E.out]; rfl, (Below.refl _ _).alloc (Nat.le_refl _) _⟩
theorem ex_check_sl (neg : Bool) (A : Option Addr) (n c : Nat) (l : List Nat) (w : World) (h : Sl w A n c l) (hn : n ≤ 1000000000) :
  Calls Tryz.prog 330 #[.agg #[.bool neg, .slice A n c]] w (RetV w (.int .i64 (chk neg l))) := by
 have hlen := h.len
 have HL := Lib.hid hlen
 clear hlen
 by_cases h1 : 2048 < n
 ·have E : Hid (chk neg l = 1) := chk_no (fun hh => by have := hh.1; have := HL.out; omega)
  go_enter Tryz.func330, Tryz.ntmps330
  go_wp2
  go_ret
  exact ⟨by rw [E.out]; rfl, (Below.refl _ _).alloc (Nat.le_refl _) _⟩
 ·by_cases h0 : n = 0
  ·subst h0
   have hl0 : l = [] := List.eq_nil_of_length_eq_zero HL.out
   cases neg
   ·have E : Hid (chk false l = 0) := chk_ok ⟨by rw [HL.out]; omega, by rw [hl0]; exact Lm.canon_nil, fun _ => rfl⟩
    clear hl0
    go_enter Tryz.func330, Tryz.ntmps330
    go_wp2
    go_ret
    exact ⟨by rw [E.out]; rfl, (Below.refl _ _).alloc (Nat.le_refl _) _⟩
   ·have E : Hid (chk true l = 1) := chk_no (fun hh => by have := hh.2.2 hl0; cases this)
    clear hl0
    go_enter Tryz.func330, Tryz.ntmps330
    go_wp2
    go_ret
    exact ⟨by rw [E.out]; rfl, (Below.refl _ _).alloc (Nat.le_refl _) _⟩
  ·obtain ⟨ad, rfl, hb, hl, hc, hx⟩ := (h.alloc (.cells #[.bool neg, .slice A n c] 24)).at_ (k := n - 1) (by omega)
   have hn1 : 1 ≤ n := by omega
   have hne : ((n : Int) == 0) = false := by rw [beq_eq_false_iff_ne]; omega
   clear h0
   by_cases hz : l[n - 1] = 0
   ·have E : Hid (chk neg l = 1) := chk_no (fun hh => by
     have := (canon_last (by rw [HL.out]; omega)).1 hh.2.1
     apply this
     have e : l.length - 1 = n - 1 := by rw [HL.out]
     simp only [e]; exact hz)
    have hz' : (((l[n - 1] : Nat) : Int) == 0) = true := by rw [hz]; rfl
    clear hz
    go_enter Tryz.func330, Tryz.ntmps330
    go_wp2
    go_ret
    exact ⟨by rw [E.out]; rfl, (Below.refl _ _).alloc (Nat.le_refl _) _⟩
   ·have E : Hid (chk neg l = 0) := chk_ok ⟨by rw [HL.out]; omega, (canon_last (by rw [HL.out]; omega)).2 (by
     have e : l.length - 1 = n - 1 := by rw [HL.out]
     simp only [e]; exact hz), fun e => by have := HL.out; rw [e] at this; simp at this; omega⟩
    have hz' : (((l[n - 1] : Nat) : Int) == 0) = false := by rw [beq_eq_false_iff_ne]; omega
    clear hz
    go_enter Tryz.func330, Tryz.ntmps330
    go_wp2
    go_ret
    exact ⟨by rw [E.out]; rfl, (Below.refl _ _).alloc (Nat.le_refl _) _⟩
end Go.Proofs.YtgekmbfmfiikkaaGreatDoor
namespace Go.Proofs.YtgekmbfmfiikkaaGreatDoor
open Go.RowKit
abbrev OwnAt := Option Addr × Nat × Nat
abbrev OwnAt.v (q : OwnAt) : Value := .slice q.1 q.2.1 q.2.2
def OwnR (B : Nat) (w : World) (q : OwnAt) : Prop := ∃ xs, w.ownsRow B 164 1 q.v q.2.1 xs
theorem OwnR.below {B : Nat} {w w' : World} {q : OwnAt} (h : OwnR B w q) (hb : Below w.heap.size w w') : OwnR B w' q := by
 obtain ⟨xs, h⟩ := h
 refine ⟨xs, h.1, ?_⟩
 rcases h.2 with h2 | ⟨g, cap, cur, e1, hbg, hg, hr⟩
 ·exact .inl h2
 ·exact .inr ⟨g, cap, cur, e1, hbg, (hb.block g (Array.getElem?_eq_some_iff.1 hg).1).trans hg, hr⟩
theorem OwnR.base {B B' : Nat} {w : World} {q : OwnAt} (h : OwnR B w q) (hB : ∀ g, q.v.ownBlock = some g → B' ≤ g) : OwnR B' w q := by
 obtain ⟨xs, h⟩ := h
 refine ⟨xs, h.1, ?_⟩
 rcases h.2 with h2 | ⟨g, cap, cur, e1, hbg, hr⟩
 ·exact .inl h2
 ·exact .inr ⟨g, cap, cur, e1, hB g (by rw [e1]; rfl), hr⟩
theorem OwnR.lt {B : Nat} {w : World} {q : OwnAt} (h : OwnR B w q) {g : Nat} (hg : q.v.ownBlock = some g) : B ≤ g ∧ g < w.heap.size := by
 obtain ⟨xs, h⟩ := h
 exact h.lt g hg
theorem OwnR.set {B : Nat} {w : World} {q : OwnAt} (h : OwnR B w q) {p : Addr} (hp : q.v.ownBlock ≠ some p.block) (u : Value) : OwnR B (w.setCell p u) q := by
 obtain ⟨xs, h⟩ := h
 refine ⟨xs, h.1, ?_⟩
 rcases h.2 with h2 | ⟨g, cap, cur, e1, hbg, hg, hr⟩
 ·exact .inl h2
 ·refine .inr ⟨g, cap, cur, e1, hbg, ?_, hr⟩
  rw [heap_setCell_other w p g u (fun e => hp (by rw [e1, e]; rfl))]
  exact hg
theorem OwnR.nil (B : Nat) (w : World) : OwnR B w (none, 0, 0) := ⟨[], World.ownsRow_nil _ _ _ _⟩
def CutOf (q q' : OwnAt) : Prop := q' = (none, 0, 0) ∨ (q'.1 = q.1 ∧ q'.2.2 = q.2.2 ∧ q'.2.1 ≤ q.2.1)
theorem CutOf.blk {q q' : OwnAt} (h : CutOf q q') {g : Nat} (hg : q'.v.ownBlock = some g) : q.v.ownBlock = some g := by
 rcases h with rfl | ⟨h1, _, _⟩
 ·cases hg
 ·obtain ⟨A, n, c⟩ := q
  obtain ⟨A', n', c'⟩ := q'
  simp only at h1
  subst h1
  cases A' with
  | none => cases hg
  | some a => exact hg
theorem OwnR.cut {B : Nat} {w : World} {q q' : OwnAt} (h : OwnR B w q) (hc : CutOf q q') : OwnR B w q' := by
 rcases hc with rfl | ⟨h1, h2, h3⟩
 ·exact OwnR.nil B w
 ·obtain ⟨A, n, c⟩ := q
  obtain ⟨A', n', c'⟩ := q'
  simp only at h1 h2 h3
  subst h1 h2
  obtain ⟨xs, h⟩ := h
  rcases h.2 with ⟨h4, h5⟩ | ⟨g, cap, cur, e1, hbg, hg, hr1, hr2, hr3, hr4⟩
  ·simp only at h5
   subst h5
   obtain rfl : n' = 0 := by omega
   exact ⟨xs, h⟩
  ·simp only [OwnAt.v] at e1
   injection e1 with e1 _ e3
   subst e1 e3
   refine ⟨cur.toList.take (n' * 1), ?_, .inr ⟨g, c', cur, rfl, hbg, hg, by simp only at hr1 ⊢; omega, hr2, hr3, rfl⟩⟩
   rw [List.length_take, Array.length_toList, hr3]
   simp only at hr1 ⊢
   omega
def FarQ (q q' : OwnAt) : Prop := ∀ g, q.v.ownBlock = some g → q'.v.ownBlock ≠ some g
theorem FarQ.symm {q q' : OwnAt} (h : FarQ q q') : FarQ q' q := fun g h1 h2 => h g h2 h1
def Owns (B : Nat) (w : World) (o : List OwnAt) : Prop := (∀ q ∈ o, OwnR B w q) ∧ o.Pairwise FarQ
theorem Owns.nil (B : Nat) (w : World) : Owns B w [] := ⟨fun _ h => absurd h (by simp), List.Pairwise.nil⟩
theorem Owns.one {B : Nat} {w : World} {q : OwnAt} (h : OwnR B w q) : Owns B w [q] := ⟨fun p hp => by rw [List.mem_singleton] at hp; subst hp; exact h, List.pairwise_singleton _ _⟩
theorem Owns.two {B : Nat} {w : World} {q q' : OwnAt} (h : OwnR B w q) (h' : OwnR B w q') (hf : FarQ q q') : Owns B w [q, q'] :=
 ⟨fun p hp => by
  simp only [List.mem_cons, List.not_mem_nil, or_false] at hp
  rcases hp with rfl | rfl
  ·exact h
  ·exact h', by simp [hf]⟩
theorem Owns.below {B : Nat} {w w' : World} {o : List OwnAt} (h : Owns B w o) (hb : Below w.heap.size w w') : Owns B w' o := ⟨fun q hq => (h.1 q hq).below hb, h.2⟩
theorem Owns.head {B : Nat} {w : World} {q : OwnAt} {o : List OwnAt} (h : Owns B w (q :: o)) : OwnR B w q := h.1 q (by simp)
theorem Owns.app {B B' : Nat} {w : World} {o o' : List OwnAt} (h : Owns B w o) (h' : Owns B' w o') (hB : B ≤ B') (hlt : ∀ q ∈ o, ∀ g, q.v.ownBlock = some g → g < B') : Owns B w (o' ++ o) := by
 refine ⟨fun q hq => ?_, List.pairwise_append.2 ⟨h'.2, h.2, fun a ha b hb g h1 h2 => ?_⟩⟩
 ·rcases List.mem_append.1 hq with k | k
  ·exact (h'.1 q k).base fun g hg => Nat.le_trans hB ((h'.1 q k).lt hg).1
  ·exact h.1 q k
 ·have := ((h'.1 a ha).lt h1).1
  have := hlt b hb g h2
  omega
def Mo (B : Nat) (w : World) (L : List (Nat × List Value)) (l : List IntAt) (o : List OwnAt) (wr : World) : Prop :=
 Below w.heap.size w wr ∧ (∀ b ∈ L, w.heap.size ≤ b.1 ∧ Blk wr b.1 b.2) ∧ (∀ p ∈ l, IsAt wr p) ∧ Owns B wr o ∧ (∀ q ∈ o, ∀ b ∈ L, q.v.ownBlock ≠ some b.1) ∧ B ≤ w.heap.size
section
variable {B : Nat} {w wr w' : World} {L L' : List (Nat × List Value)} {l l' : List IntAt} {o : List OwnAt}
theorem Mo.mm (h : Mo B w L l o wr) : Mm w L l wr := ⟨h.1, h.2.1, h.2.2.1⟩
theorem Mo.nil (w : World) : Mo w.heap.size w [] [] [] w := ⟨Below.refl _ _, fun b hb => absurd hb (by simp), fun b hb => absurd hb (by simp), Owns.nil _ _, fun _ h => absurd h (by simp), Nat.le_refl _⟩
theorem Mo.args (hB : B ≤ w.heap.size) (hO : Owns B w o) : Mo B w [] [] o w := ⟨Below.refl _ _, fun b hb => absurd hb (by simp), fun b hb => absurd hb (by simp), hO, fun _ _ _ h => absurd h (by simp), hB⟩
theorem Mo.int (h : Mo B w L l o wr) {neg : Bool} {A : Option Addr} {n c : Nat} {z : Int} (hI : IsInt wr neg A n c z) : Mo B w L ((neg, A, n, c, z) :: l) o wr :=
 ⟨h.1, h.2.1, (h.mm.int hI).2.2, h.2.2.2⟩
theorem Mo.next (h : Mo B w L l o wr) (hb : Below wr.heap.size wr w') : Mo B w L l o w' :=
 ⟨(h.mm.next hb).1, (h.mm.next hb).2.1, (h.mm.next hb).2.2, h.2.2.2.1.below hb, h.2.2.2.2⟩
theorem Mo.calln {o' : List OwnAt} (h : Mo B w L l o wr) (hb : Below wr.heap.size wr w') (hO : Owns wr.heap.size w' o') : Mo B w L l (o' ++ o) w' := by
 have k := h.next hb
 refine ⟨k.1, k.2.1, k.2.2.1, k.2.2.2.1.app hO (Nat.le_trans h.2.2.2.2.2 h.1.size) (fun q hq g hg => ((h.2.2.2.1.1 q hq).lt hg).2), fun q hq b hb' e => ?_, h.2.2.2.2.2⟩
 rcases List.mem_append.1 hq with m | m
 ·have h1 := ((hO.1 q m).lt e).1
  have h2 := (h.2.1 b hb').2.1
  omega
 ·exact h.2.2.2.2.1 q m b hb' e
theorem Mo.call1 {q : OwnAt} (h : Mo B w L l o wr) (hb : Below wr.heap.size wr w') (hO : Owns wr.heap.size w' [q]) : Mo B w L l (q :: o) w' := h.calln hb hO
theorem Mo.call2 {q q' : OwnAt} (h : Mo B w L l o wr) (hb : Below wr.heap.size wr w') (hO : Owns wr.heap.size w' [q, q']) : Mo B w L l (q :: q' :: o) w' := h.calln hb hO
theorem Mo.call4 {q q' q'' q''' : OwnAt} (h : Mo B w L l o wr) (hb : Below wr.heap.size wr w') (hO : Owns wr.heap.size w' [q, q', q'', q''']) : Mo B w L l (q :: q' :: q'' :: q''' :: o) w' := h.calln hb hO
theorem Mo.cut {q q' : OwnAt} (h : Mo B w L l (q :: o) wr) (hc : CutOf q q') : Mo B w L l (q' :: o) wr := by
 obtain ⟨h1, h2, h3, ⟨h4, h5⟩, h6, h7⟩ := h
 rw [List.pairwise_cons] at h5
 refine ⟨h1, h2, h3, ⟨fun p hp => ?_, List.pairwise_cons.2 ⟨fun p hp g hg => h5.1 p hp g (hc.blk hg), h5.2⟩⟩, fun p hp b hb e => ?_, h7⟩
 ·rw [List.mem_cons] at hp
  rcases hp with rfl | hp
  ·exact (h4 q (by simp)).cut hc
  ·exact h4 p (by simp [hp])
 ·rw [List.mem_cons] at hp
  rcases hp with rfl | hp
  ·exact h6 q (by simp) b hb (hc.blk e)
  ·exact h6 p (by simp [hp]) b hb e
theorem Mo.swap {q q' : OwnAt} (h : Mo B w L l (q :: q' :: o) wr) : Mo B w L l (q' :: q :: o) wr := by
 obtain ⟨h1, h2, h3, ⟨h4, h5⟩, h6, h7⟩ := h
 rw [List.pairwise_cons, List.pairwise_cons] at h5
 refine ⟨h1, h2, h3, ⟨fun p hp => h4 p ?_, List.pairwise_cons.2 ⟨fun p hp => ?_, List.pairwise_cons.2 ⟨fun p hp => h5.1 p (by simp [hp]), h5.2.2⟩⟩⟩, fun p hp => h6 p ?_, h7⟩
 ·simp only [List.mem_cons] at hp ⊢; rcases hp with k | k | k <;> simp [k]
 ·rw [List.mem_cons] at hp
  rcases hp with rfl | hp
  ·exact (h5.1 _ (by simp)).symm
  ·exact h5.2.1 p hp
 ·simp only [List.mem_cons] at hp ⊢; rcases hp with k | k | k <;> simp [k]
theorem Mo.box (h : Mo B w L l o wr) (ob : Obj) : Mo B w L l o (wr.alloc ob) := h.next ((Below.refl _ _).alloc (Nat.le_refl _) ob)
theorem Mo.drewN (h : Mo B w L l o wr) (n : Nat) : Mo B w L l o (wr.drewN n) := h.next (below_drewN (Below.refl _ _) n)
theorem Mo.drew (h : Mo B w L l o wr) : Mo B w L l o wr.drew := h.next ⟨rfl, rfl, rfl, Nat.le_refl _, fun _ _ => rfl⟩
theorem Mo.var (h : Mo B w L l o wr) {g : Nat} (hg : wr.heap.size = g) (vs : List Value) (t : TypeId) : Mo B w ((g, vs) :: L) l o (wr.alloc (.cells vs.toArray t)) := by
 have k := h.box (.cells vs.toArray t)
 have m := h.mm.var hg vs t
 refine ⟨m.1, m.2.1, m.2.2, k.2.2.2.1, fun q hq b hb e => ?_, h.2.2.2.2.2⟩
 rw [List.mem_cons] at hb
 rcases hb with rfl | hb
 ·have := ((h.2.2.2.1.1 q hq).lt e).2
  simp only at this
  omega
 ·exact h.2.2.2.2.1 q hq b hb e
theorem Mo.pick (h : Mo B w L l o wr) (hL : ∀ b ∈ L', b ∈ L) (hl : ∀ p ∈ l', p ∈ l) : Mo B w L' l' o wr :=
 ⟨h.1, fun b hb => h.2.1 b (hL b hb), fun p hp => h.2.2.1 p (hl p hp), h.2.2.2.1, fun q hq b hb => h.2.2.2.2.1 q hq b (hL b hb), h.2.2.2.2.2⟩
theorem Mo.tail {q : OwnAt} (h : Mo B w L l (q :: o) wr) : Mo B w L l o wr :=
 ⟨h.1, h.2.1, h.2.2.1, ⟨fun p hp => h.2.2.2.1.1 p (by simp [hp]), (List.pairwise_cons.1 h.2.2.2.1.2).2⟩, fun p hp => h.2.2.2.2.1 p (by simp [hp]), h.2.2.2.2.2⟩
theorem Mo.set {g : Nat} {vs : List Value} (h : Mo B w ((g, vs) :: L) l o wr) (hne : ∀ b ∈ L, g ≠ b.1) {j : Nat} (u0 u : Value) (hj : vs[j]? = some u0) (hu : ∀ x, u0 ≠ .int .u32 x) :
  Mo B w ((g, vs.set j u) :: L) l o (wr.setCell ⟨g, j, none⟩ u) := by
 have m := h.mm.set hne u0 u hj hu
 refine ⟨m.1, m.2.1, m.2.2, ⟨fun q hq => (h.2.2.2.1.1 q hq).set (p := ⟨g, j, none⟩) (fun e => h.2.2.2.2.1 q hq (g, vs) (by simp) e) u, h.2.2.2.1.2⟩, fun q hq b hb e => ?_, h.2.2.2.2.2⟩
 rw [List.mem_cons] at hb
 rcases hb with rfl | hb
 ·exact h.2.2.2.2.1 q hq (g, vs) (by simp) e
 ·exact h.2.2.2.2.1 q hq b (by simp [hb]) e
theorem Mo.at_ (h : Mo B w L l o wr) {neg : Bool} {A : Option Addr} {n c : Nat} {z : Int} (hp : (neg, A, n, c, z) ∈ l) : IsInt wr neg A n c z := h.2.2.1 _ hp
theorem Mo.blk (h : Mo B w L l o wr) {g : Nat} {vs : List Value} (hp : (g, vs) ∈ L) : Blk wr g vs := (h.2.1 _ hp).2
theorem Mo.set2 {g : Nat} {b0 : Bool} {a0 : Option Addr} {n0 c0 : Nat} (h : Mo B w ((g, [.bool b0, .slice a0 n0 c0]) :: L) l o wr) (hne : ∀ b ∈ L, g ≠ b.1) (neg : Bool) (A : Option Addr) (n c : Nat) :
  Mo B w ((g, [.bool neg, .slice A n c]) :: L) l o ((wr.setCell ⟨g, 0, none⟩ (.bool neg)).setCell ⟨g, 1, none⟩ (.slice A n c)) :=
 (h.set hne (.bool b0) (.bool neg) rfl (by simp)).set hne (.slice a0 n0 c0) (.slice A n c) rfl (by simp)
theorem Mo.set4 {g : Nat} {b0 b1 : Bool} {a0 a1 : Option Addr} {n0 c0 n1 c1 : Nat} (h : Mo B w ((g, [.bool b0, .slice a0 n0 c0, .bool b1, .slice a1 n1 c1]) :: L) l o wr) (hne : ∀ b ∈ L, g ≠ b.1)
  (neg : Bool) (A : Option Addr) (n c : Nat) (neg' : Bool) (A' : Option Addr) (n' c' : Nat) :
  Mo B w ((g, [.bool neg, .slice A n c, .bool neg', .slice A' n' c']) :: L) l o ((((wr.setCell ⟨g, 0, none⟩ (.bool neg)).setCell ⟨g, 1, none⟩ (.slice A n c)).setCell ⟨g, 2, none⟩ (.bool neg')).setCell ⟨g, 3, none⟩ (.slice A' n' c')) :=
 (((h.set hne (.bool b0) (.bool neg) rfl (by simp)).set hne (.slice a0 n0 c0) (.slice A n c) rfl (by simp)).set hne (.bool b1) (.bool neg') rfl (by simp)).set hne (.slice a1 n1 c1) (.slice A' n' c') rfl (by simp)
theorem Mo.own1 (h : Mo B w L l o wr) {q : OwnAt} (i : Nat) (hi : o[i]? = some q) : Owns B wr [q] := Owns.one (h.2.2.2.1.1 q (List.mem_of_getElem? hi))
theorem far_at {o : List OwnAt} (h : o.Pairwise FarQ) {i j : Nat} {q q' : OwnAt} (hi : o[i]? = some q) (hj : o[j]? = some q') (hij : i ≠ j) : FarQ q q' := by
 obtain ⟨h1, rfl⟩ := List.getElem?_eq_some_iff.1 hi
 obtain ⟨h2, rfl⟩ := List.getElem?_eq_some_iff.1 hj
 rw [List.pairwise_iff_getElem] at h
 rcases Nat.lt_or_gt_of_ne hij with k | k
 ·exact h i j h1 h2 k
 ·exact (h j i h2 h1 k).symm
theorem Mo.own2 (h : Mo B w L l o wr) {q q' : OwnAt} (i j : Nat) (hi : o[i]? = some q) (hj : o[j]? = some q') (hij : i ≠ j) : Owns B wr [q, q'] :=
 Owns.two (h.2.2.2.1.1 q (List.mem_of_getElem? hi)) (h.2.2.2.1.1 q' (List.mem_of_getElem? hj)) (far_at h.2.2.2.1.2 hi hj hij)
def OneOf (n0 : Nat) (o o' : List OwnAt) : Prop := ∀ q ∈ o', ∀ g, q.v.ownBlock = some g → (∃ p ∈ o, p.v.ownBlock = some g) ∨ n0 ≤ g
theorem Mo.low {q1 q2 : OwnAt} {o' : List OwnAt} (h : Mo B w L l (q1 :: q2 :: o) wr) (hb : Below wr.heap.size wr w') (hO : Owns B w' o') (hor : OneOf wr.heap.size [q1, q2] o') : Mo B w L l (o' ++ o) w' := by
 have k := h.next hb
 have hlt : ∀ q ∈ o, ∀ g, q.v.ownBlock = some g → g < wr.heap.size := fun q hq g hg => ((h.2.2.2.1.1 q (by simp [hq])).lt hg).2
 refine ⟨k.1, k.2.1, k.2.2.1, ⟨fun q hq => ?_, List.pairwise_append.2 ⟨hO.2, k.tail.tail.2.2.2.1.2, fun a ha b hb' g h1 h2 => ?_⟩⟩, fun q hq b hb' e => ?_, h.2.2.2.2.2⟩
 ·rcases List.mem_append.1 hq with m | m
  ·exact hO.1 q m
  ·exact k.2.2.2.1.1 q (by simp [m])
 ·have h5 := h.2.2.2.1.2
  rw [List.pairwise_cons, List.pairwise_cons] at h5
  rcases hor a ha g h1 with ⟨p, hp, hg⟩ | hg
  ·simp only [List.mem_cons, List.not_mem_nil, or_false] at hp
   rcases hp with rfl | rfl
   ·exact h5.1 b (by simp [hb']) g hg h2
   ·exact h5.2.1 b hb' g hg h2
  ·have := hlt b hb' g h2
   omega
 ·rcases List.mem_append.1 hq with m | m
  ·rcases hor q m b.1 e with ⟨p, hp, hg⟩ | hg
   ·exact h.2.2.2.2.1 p (by simp only [List.mem_cons, List.not_mem_nil, or_false] at hp ⊢; rcases hp with k | k <;> simp [k]) b hb' hg
   ·have := (h.2.1 b hb').2.1
    omega
  ·exact k.2.2.2.2.1 q (by simp [m]) b hb' e
theorem Mo.low2 {q1 q2 q3 q4 : OwnAt} (h : Mo B w L l (q1 :: q2 :: o) wr) (hb : Below wr.heap.size wr w') (hO : Owns B w' [q3, q4]) (hor : OneOf wr.heap.size [q1, q2] [q3, q4]) : Mo B w L l (q3 :: q4 :: o) w' := h.low hb hO hor
end
/-! ### what a call leaves -/
def RetIntO (W : World) (z : Int) (e : Ending) (w' : World) : Prop :=
 ∃ neg A n c, e = .returned (.agg #[.bool neg, .slice A n c]) ∧ IsInt w' neg A n c z ∧ Owns W.heap.size w' [(A, n, c)] ∧ Below W.heap.size W w'
def RetLimbsO (W : World) (P : List Nat → Prop) (e : Ending) (w' : World) : Prop :=
 ∃ A n c l, e = .returned (.slice A n c) ∧ Sl w' A n c l ∧ P l ∧ Owns W.heap.size w' [(A, n, c)] ∧ Below W.heap.size W w'
def RetSg (W : World) (q : OwnAt) (z : Int) (e : Ending) (w' : World) : Prop :=
 ∃ neg A n c, e = .returned (.agg #[.bool neg, .slice A n c]) ∧ IsInt w' neg A n c z ∧ CutOf q (A, n, c) ∧ Below W.heap.size W w'
def RetTwoO (W : World) (x y : Int) (e : Ending) (w' : World) : Prop :=
 ∃ neg A n c neg' A' n' c', e = .returned (.tuple #[.agg #[.bool neg, .slice A n c], .agg #[.bool neg', .slice A' n' c']]) ∧ IsInt w' neg A n c x ∧ IsInt w' neg' A' n' c' y ∧ Owns W.heap.size w' [(A, n, c), (A', n', c')] ∧ Below W.heap.size W w'
def RetFrO (W : World) (x : Rat) (e : Ending) (w' : World) : Prop :=
 ∃ neg A n c neg' A' n' c', e = .returned (.agg #[.bool neg, .slice A n c, .bool neg', .slice A' n' c']) ∧ IsInt w' neg A n c x.num ∧ IsInt w' neg' A' n' c' (x.den : Int) ∧ Owns W.heap.size w' [(A, n, c), (A', n', c')] ∧ Below W.heap.size W w'
def RetLow (B : Nat) (W : World) (q1 q2 : OwnAt) (x : Rat) (e : Ending) (w' : World) : Prop :=
 ∃ neg A n c neg' A' n' c', e = .returned (.agg #[.bool neg, .slice A n c, .bool neg', .slice A' n' c']) ∧ IsInt w' neg A n c x.num ∧ IsInt w' neg' A' n' c' (x.den : Int) ∧ Owns B w' [(A, n, c), (A', n', c')] ∧ OneOf W.heap.size [q1, q2] [(A, n, c), (A', n', c')] ∧ Below W.heap.size W w'
theorem RetIntO.fg {W w' : World} {z : Int} {e : Ending} (h : RetIntO W z e w') : RetInt W z e w' := by
 obtain ⟨neg, A, n, c, h1, h2, _, h3⟩ := h
 exact ⟨neg, A, n, c, h1, h2, h3⟩
theorem RetTwoO.fg {W w' : World} {x y : Int} {e : Ending} (h : RetTwoO W x y e w') : RetTwoInts W x y e w' := by
 obtain ⟨neg, A, n, c, neg', A', n', c', h1, h2, h3, _, h4⟩ := h
 exact ⟨neg, A, n, c, neg', A', n', c', h1, h2, h3, h4⟩
/-! ### the program's whole numbers: a sign; numbers of 64 bits -/
theorem ow_signed_any (neg : Bool) (A : Option Addr) (n c : Nat) (l : List Nat) (w : World) (h : Sl w A n c l) (hn : n ≤ 4000000000) :
  Calls Tryz.prog 267 #[.bool neg, .slice A n c] w (RetSg w (A, n, c) (sgnd neg (Lm.lv l))) := by
 have hlen := h.len
 have hcap := h.cap
 have htl := trim_len l
 by_cases h0 : Lm.trim l = []
 ·have hlv : Lm.lv l = 0 := by rw [← Lm.trim_lv, h0]; rfl
  have hl0 : ((Lm.trim l).length : Int) = 0 := by rw [h0]; rfl
  have H : Hid (Lm.lv l = 0) := hlv
  clear hlv h0
  go_enter Tryz.func267, Tryz.ntmps267
  go_wp2_with (go_at_call 278; refine (ex_trim_any _ _ _ _ _ (h.alloc _) hn).mono ?_; rintro e w' ⟨rfl, rfl⟩)
  exact bodyPost_ret (v := .agg #[.bool false, .slice none 0 0]) (by simp [results, Tryz.results267, go_sem]) rfl
   ⟨false, none, 0, 0, rfl, by rw [H.out, show sgnd neg 0 = 0 by unfold sgnd; split <;> rfl]; exact isInt_nought, .inl rfl, (Below.refl _ _).alloc (Nat.le_refl _) _⟩
 ·have h1 : (((Lm.trim l).length : Int) == 0) = false := by
   have : (Lm.trim l).length ≠ 0 := fun e => h0 (List.eq_nil_of_length_eq_zero e)
   rw [beq_eq_false_iff_ne]; omega
  go_enter Tryz.func267, Tryz.ntmps267
  go_wp2_with (go_at_call 278; refine (ex_trim_any _ _ _ _ _ (h.alloc _) hn).mono ?_; rintro e w' ⟨rfl, rfl⟩)
  exact bodyPost_ret (v := .agg #[.bool neg, .slice A (Lm.trim l).length c]) (by simp [results, Tryz.results267, go_sem]) rfl
   ⟨neg, A, (Lm.trim l).length, c, rfl, (isInt_signed h h0).below ((Below.refl _ _).alloc (Nat.le_refl _) _), .inr ⟨rfl, rfl, by simp only; omega⟩, (Below.refl _ _).alloc (Nat.le_refl _) _⟩
theorem Mo.varz {B : Nat} {w wr : World} {L : List (Nat × List Value)} {l : List IntAt} {o : List OwnAt} (h : Mo B w L l o wr) (vs : List Value) (t : TypeId) : Mo B w ((wr.heap.size, vs) :: L) l o (wr.alloc (.cells vs.toArray t)) := h.var rfl vs t
theorem Calls.withMo {P : Program} {f : FuncId} {args : Array Value} {W : World} {post : Ending → World → Prop} {B : Nat} {w0 : World} {L : List (Nat × List Value)} {l : List IntAt} {o : List OwnAt} (K : Mo B w0 L l o W) (h : Mo B w0 L l o W → Calls P f args W post) : Calls P f args W post := h K
end Go.Proofs.YtgekmbfmfiikkaaGreatDoor
