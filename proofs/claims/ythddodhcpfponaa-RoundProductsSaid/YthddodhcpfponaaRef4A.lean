/-
  The references' floats (polestarref04): what a float is worth.
-/
import Derived.Test.YthddodhcpfponaaRefN
namespace Go.Proofs.Ythddodhcpfponaa
open Go.RowKit

def RetWorth (W : World) (x : Nat) (e : Ending) (w' : World) : Prop :=
  ∃ neg A n c z, ∃ E : Nat, e = .returned (.tuple #[.agg #[.bool neg, .slice A n c], .int .i64 ((E : Int) - 1074)]) ∧ IsInt w' neg A n c z ∧ E ≤ 2046 ∧ z.natAbs < 2 ^ 53 ∧ z * ((2 ^ E : Nat) : Int) = Flt.sv x ∧ Below W.heap.size W w'

/-- The two fields of a float's bits, and its sign, as the walk spells them. -/
theorem frac_bits (x : Nat) (h : x < 2 ^ 64) : bits .and .u64 (x : Int) 4503599627370495 = ((x % 2 ^ 52 : Nat) : Int) := by
  have := u64_and_nat x 4503599627370495 (by omega) (by omega)
  rw [show ((4503599627370495 : Nat) : Int) = 4503599627370495 from rfl] at this
  rw [this]
  congr 1
  exact Nat.and_two_pow_sub_one_eq_mod x 52
theorem expo_bits (x : Nat) (h : x < 2 ^ 64) : bits .and .u64 ((x : Int) / 4503599627370496) 2047 = ((x / 2 ^ 52 % 2048 : Nat) : Int) := by
  have := u64_and_nat (x / 2 ^ 52) 2047 (by omega) (by omega)
  rw [show ((2047 : Nat) : Int) = 2047 from rfl, show ((x / 2 ^ 52 : Nat) : Int) = (x : Int) / 4503599627370496 by omega] at this
  rw [this]
  congr 1
  exact Nat.and_two_pow_sub_one_eq_mod _ 11
theorem worth_sv {x m q : Nat} (hm : m = x % 2 ^ 52) (hq : q = x / 2 ^ 52 % 2048) (s : Bool) (hs : s = Flt.sgn x) {z : Int} (hz : z = (if s then -1 else 1) * (if q = 0 then (m : Int) else 4503599627370496 + m)) :
    z * ((2 ^ (q - 1) : Nat) : Int) = Flt.sv x ∧ z.natAbs < 2 ^ 53 ∧ q - 1 ≤ 2046 := by
  have hr : Flt.rg x = q * 2 ^ 52 + m := by unfold Flt.rg; omega
  have hv := Flt.val_mk q m (by omega)
  refine ⟨?_, ?_, by omega⟩
  · unfold Flt.sv
    rw [hr, hv, ← hs, hz]
    generalize 2 ^ (q - 1) = p
    by_cases h0 : q = 0
    · simp only [h0, if_true]
      cases s
      · simp
      · simp [Int.neg_mul]
    · simp only [h0, if_false]
      cases s
      · simp
      · simp [Int.neg_mul]
  · rw [hz]
    split <;> split <;> omega

set_option maxRecDepth 100000 in
set_option maxHeartbeats 600000 in
theorem ref_worth_0p (x m q : Nat) (hm : Hid (m = x % 2 ^ 52)) (hq : Hid (q = x / 2 ^ 52 % 2048)) (hmb : m < 4503599627370496) (hqb : q < 2048) (hs : Hid (Flt.sgn x = false)) (h0 : q = 0)
    (fb : bits .and .u64 (x : Int) 4503599627370495 = (m : Int)) (eb : bits .and .u64 ((x : Int) / 4503599627370496) 2047 = (q : Int)) (sb : ((x : Int) / 9223372036854775808 == 1) = false) (w : World) :
    Calls Try.prog 38 #[.float .f64 x] w (RetWorth w x) := by
  have hW := worth_sv hm.out hq.out false hs.out.symm (z := (m : Int)) (by subst h0; simp)
  have HW := Lib.hid hW
  clear hW
  subst h0
  go_enter Try.func38, Try.ntmps38
  go_wp2_with (go_at_call 76; refine (ref_of_any _ _ (by omega)).mono ?_; rintro e w1 ⟨neg1, A1, n1, c1, rfl, hI1, hb1⟩; obtain ⟨hc1, hf1⟩ := bcell hb1; have r1 := hc1 w.heap.size 0 (by simp <;> omega); have r2 := hc1 w.heap.size 1 (by simp <;> omega); have r3 := hf1 w.heap.size 0 (by simp <;> omega); have r4 := hf1 w.heap.size 1 (by simp <;> omega); have hz1 : w.heap.size < w1.heap.size := (by have := hb1.size; simp at this; omega))
  have hI2 : IsInt w1 neg1 A1 n1 c1 (m : Int) := by first | exact hI1 | (have e : (m : Int) = _ := (by omega); rw [e]; exact hI1)
  exact bodyPost_ret (v := .tuple #[.agg #[.bool neg1, .slice A1 n1 c1], .int .i64 (((0 - 1 : Nat) : Int) - 1074)]) (by simp [results, Try.results38, go_sem, r1, r2]) rfl
    ⟨neg1, A1, n1, c1, (m : Int), 0 - 1, rfl, isInt_result (b0 := false) (a0 := none) (n0 := 0) (c0 := 0) hI2 (r1.trans (by simp [go_sem])) (r2.trans (by simp [go_sem])) _ _, HW.out.2.2, HW.out.2.1, HW.out.1, below_result (below_box hb1) (by omega) _ _⟩

set_option maxRecDepth 100000 in
set_option maxHeartbeats 600000 in
theorem ref_worth_0n (x m q : Nat) (hm : Hid (m = x % 2 ^ 52)) (hq : Hid (q = x / 2 ^ 52 % 2048)) (hmb : m < 4503599627370496) (hqb : q < 2048) (hs : Hid (Flt.sgn x = true)) (h0 : q = 0)
    (fb : bits .and .u64 (x : Int) 4503599627370495 = (m : Int)) (eb : bits .and .u64 ((x : Int) / 4503599627370496) 2047 = (q : Int)) (sb : ((x : Int) / 9223372036854775808 == 1) = true) (w : World) :
    Calls Try.prog 38 #[.float .f64 x] w (RetWorth w x) := by
  have hW := worth_sv hm.out hq.out true hs.out.symm (z := (-(m : Int))) (by subst h0; simp)
  have HW := Lib.hid hW
  clear hW
  subst h0
  go_enter Try.func38, Try.ntmps38
  go_wp2_with (go_at_call 76; refine (ref_of_any _ _ (by omega)).mono ?_; rintro e w1 ⟨neg1, A1, n1, c1, rfl, hI1, hb1⟩; obtain ⟨hc1, hf1⟩ := bcell hb1; have r1 := hc1 w.heap.size 0 (by simp <;> omega); have r2 := hc1 w.heap.size 1 (by simp <;> omega); have r3 := hf1 w.heap.size 0 (by simp <;> omega); have r4 := hf1 w.heap.size 1 (by simp <;> omega); have hz1 : w.heap.size < w1.heap.size := (by have := hb1.size; simp at this; omega))
  have hI2 : IsInt w1 neg1 A1 n1 c1 (-(m : Int)) := by first | exact hI1 | (have e : (-(m : Int)) = _ := (by omega); rw [e]; exact hI1)
  exact bodyPost_ret (v := .tuple #[.agg #[.bool neg1, .slice A1 n1 c1], .int .i64 (((0 - 1 : Nat) : Int) - 1074)]) (by simp [results, Try.results38, go_sem, r1, r2]) rfl
    ⟨neg1, A1, n1, c1, (-(m : Int)), 0 - 1, rfl, isInt_result (b0 := false) (a0 := none) (n0 := 0) (c0 := 0) hI2 (r1.trans (by simp [go_sem])) (r2.trans (by simp [go_sem])) _ _, HW.out.2.2, HW.out.2.1, HW.out.1, below_result (below_box hb1) (by omega) _ _⟩

set_option maxRecDepth 100000 in
set_option maxHeartbeats 600000 in
theorem ref_worth_1p (x m q : Nat) (hm : Hid (m = x % 2 ^ 52)) (hq : Hid (q = x / 2 ^ 52 % 2048)) (hmb : m < 4503599627370496) (hqb : q < 2048) (hs : Hid (Flt.sgn x = false)) (h0 : 1 ≤ q)
    (fb : bits .and .u64 (x : Int) 4503599627370495 = (m : Int)) (eb : bits .and .u64 ((x : Int) / 4503599627370496) 2047 = (q : Int)) (sb : ((x : Int) / 9223372036854775808 == 1) = false) (w : World) :
    Calls Try.prog 38 #[.float .f64 x] w (RetWorth w x) := by
  have hW := worth_sv hm.out hq.out false hs.out.symm (z := ((m : Int) + 4503599627370496)) (by rw [if_neg (show ¬ q = 0 by omega)]; simp <;> omega)
  have HW := Lib.hid hW
  clear hW
  have h1 : (0 : Int) < (q : Int) := by omega
  go_enter Try.func38, Try.ntmps38
  go_wp2_with (go_at_call 76; refine (ref_of_any _ _ (by omega)).mono ?_; rintro e w1 ⟨neg1, A1, n1, c1, rfl, hI1, hb1⟩; obtain ⟨hc1, hf1⟩ := bcell hb1; have r1 := hc1 w.heap.size 0 (by simp <;> omega); have r2 := hc1 w.heap.size 1 (by simp <;> omega); have r3 := hf1 w.heap.size 0 (by simp <;> omega); have r4 := hf1 w.heap.size 1 (by simp <;> omega); have hz1 : w.heap.size < w1.heap.size := (by have := hb1.size; simp at this; omega))
  have hI2 : IsInt w1 neg1 A1 n1 c1 ((m : Int) + 4503599627370496) := by first | exact hI1 | (have e : ((m : Int) + 4503599627370496) = _ := (by omega); rw [e]; exact hI1)
  exact bodyPost_ret (v := .tuple #[.agg #[.bool neg1, .slice A1 n1 c1], .int .i64 (((q - 1 : Nat) : Int) - 1074)]) (by simp [results, Try.results38, go_sem, r1, r2]; omega) rfl
    ⟨neg1, A1, n1, c1, ((m : Int) + 4503599627370496), q - 1, rfl, isInt_result (b0 := false) (a0 := none) (n0 := 0) (c0 := 0) hI2 (r1.trans (by simp [go_sem])) (r2.trans (by simp [go_sem])) _ _, HW.out.2.2, HW.out.2.1, HW.out.1, below_result (below_box hb1) (by omega) _ _⟩

set_option maxRecDepth 100000 in
set_option maxHeartbeats 600000 in
theorem ref_worth_1n (x m q : Nat) (hm : Hid (m = x % 2 ^ 52)) (hq : Hid (q = x / 2 ^ 52 % 2048)) (hmb : m < 4503599627370496) (hqb : q < 2048) (hs : Hid (Flt.sgn x = true)) (h0 : 1 ≤ q)
    (fb : bits .and .u64 (x : Int) 4503599627370495 = (m : Int)) (eb : bits .and .u64 ((x : Int) / 4503599627370496) 2047 = (q : Int)) (sb : ((x : Int) / 9223372036854775808 == 1) = true) (w : World) :
    Calls Try.prog 38 #[.float .f64 x] w (RetWorth w x) := by
  have hW := worth_sv hm.out hq.out true hs.out.symm (z := (-((m : Int) + 4503599627370496))) (by rw [if_neg (show ¬ q = 0 by omega)]; simp <;> omega)
  have HW := Lib.hid hW
  clear hW
  have h1 : (0 : Int) < (q : Int) := by omega
  go_enter Try.func38, Try.ntmps38
  go_wp2_with (go_at_call 76; refine (ref_of_any _ _ (by omega)).mono ?_; rintro e w1 ⟨neg1, A1, n1, c1, rfl, hI1, hb1⟩; obtain ⟨hc1, hf1⟩ := bcell hb1; have r1 := hc1 w.heap.size 0 (by simp <;> omega); have r2 := hc1 w.heap.size 1 (by simp <;> omega); have r3 := hf1 w.heap.size 0 (by simp <;> omega); have r4 := hf1 w.heap.size 1 (by simp <;> omega); have hz1 : w.heap.size < w1.heap.size := (by have := hb1.size; simp at this; omega))
  have hI2 : IsInt w1 neg1 A1 n1 c1 (-((m : Int) + 4503599627370496)) := by first | exact hI1 | (have e : (-((m : Int) + 4503599627370496)) = _ := (by omega); rw [e]; exact hI1)
  exact bodyPost_ret (v := .tuple #[.agg #[.bool neg1, .slice A1 n1 c1], .int .i64 (((q - 1 : Nat) : Int) - 1074)]) (by simp [results, Try.results38, go_sem, r1, r2]; omega) rfl
    ⟨neg1, A1, n1, c1, (-((m : Int) + 4503599627370496)), q - 1, rfl, isInt_result (b0 := false) (a0 := none) (n0 := 0) (c0 := 0) hI2 (r1.trans (by simp [go_sem])) (r2.trans (by simp [go_sem])) _ _, HW.out.2.2, HW.out.2.1, HW.out.1, below_result (below_box hb1) (by omega) _ _⟩

theorem ref_worth_any (x : Nat) (hx : x < 2 ^ 64) (w : World) : Calls Try.prog 38 #[.float .f64 x] w (RetWorth w x) := by
  have fb := frac_bits x hx
  have eb := expo_bits x hx
  by_cases hs : x / 2 ^ 63 = 1
  · have sb : ((x : Int) / 9223372036854775808 == 1) = true := by rw [beq_iff_eq]; omega
    have hs' : Flt.sgn x = true := by unfold Flt.sgn; rw [beq_iff_eq]; omega
    by_cases hq : x / 2 ^ 52 % 2048 = 0
    · exact ref_worth_0n x _ _ (rfl : _ = _) (rfl : _ = _) (by omega) (by omega) hs' hq fb eb sb w
    · exact ref_worth_1n x _ _ (rfl : _ = _) (rfl : _ = _) (by omega) (by omega) hs' (by omega) fb eb sb w
  · have sb : ((x : Int) / 9223372036854775808 == 1) = false := by rw [beq_eq_false_iff_ne]; omega
    have hs' : Flt.sgn x = false := by unfold Flt.sgn; rw [beq_eq_false_iff_ne]; omega
    by_cases hq : x / 2 ^ 52 % 2048 = 0
    · exact ref_worth_0p x _ _ (rfl : _ = _) (rfl : _ = _) (by omega) (by omega) hs' hq fb eb sb w
    · exact ref_worth_1p x _ _ (rfl : _ = _) (rfl : _ = _) (by omega) (by omega) hs' (by omega) fb eb sb w
end Go.Proofs.Ythddodhcpfponaa
