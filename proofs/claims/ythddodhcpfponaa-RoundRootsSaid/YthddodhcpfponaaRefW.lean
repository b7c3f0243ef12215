/-
  The references floats (polestarref04): worth, the floats beside, Two.
-/
import Derived.Test.YthddodhcpfponaaRefV
import Derived.Test.YthddodhcpfponaaFlt
import Derived.Deep.CutRange
/-! The references' floats (polestarref04): what a float is worth. -/
namespace Go.Proofs.Ythddodhcpfponaa
open Go.RowKit

def RetWorth (W : World) (x : Nat) (e : Ending) (w' : World) : Prop :=
  ∃ neg A n c z, ∃ E : Nat, e = .returned (.tuple #[.agg #[.bool neg, .slice A n c], .int .i64 ((E : Int) - 1074)]) ∧ IsInt w' neg A n c z ∧ E ≤ 2046 ∧ z.natAbs < 2 ^ 53 ∧ z * ((2 ^ E : Nat) : Int) = Flt.sv x ∧ Below W.heap.size W w'

/-- The two fields of a float's bits, and its sign, as the walk spells them. -/
theorem frac_bits (x : Nat) (h : x < 2 ^ 64) : bits .and .u64 (x : Int) 4503599627370495 = ((x % 2 ^ 52 : Nat) : Int) := by
  have := u64_and_nat x 4503599627370495 (by omega) (by omega)
  rw [show ((4503599627370495 : Nat) : Int) = 4503599627370495 from rfl] at this
  rw [this]
  congr 1
  exact Nat.and_two_pow_sub_one_eq_mod x 52
theorem expo_bits (x : Nat) (h : x < 2 ^ 64) : bits .and .u64 ((x : Int) / 4503599627370496) 2047 = ((x / 2 ^ 52 % 2048 : Nat) : Int) := by
  have := u64_and_nat (x / 2 ^ 52) 2047 (by omega) (by omega)
  rw [show ((2047 : Nat) : Int) = 2047 from rfl, show ((x / 2 ^ 52 : Nat) : Int) = (x : Int) / 4503599627370496 by omega] at this
  rw [this]
  congr 1
  exact Nat.and_two_pow_sub_one_eq_mod _ 11
theorem worth_sv {x m q : Nat} (hm : m = x % 2 ^ 52) (hq : q = x / 2 ^ 52 % 2048) (s : Bool) (hs : s = Flt.sgn x) {z : Int} (hz : z = (if s then -1 else 1) * (if q = 0 then (m : Int) else 4503599627370496 + m)) :
    z * ((2 ^ (q - 1) : Nat) : Int) = Flt.sv x ∧ z.natAbs < 2 ^ 53 ∧ q - 1 ≤ 2046 := by
  have hr : Flt.rg x = q * 2 ^ 52 + m := by unfold Flt.rg; omega
  have hv := Flt.val_mk q m (by omega)
  refine ⟨?_, ?_, by omega⟩
  · unfold Flt.sv
    rw [hr, hv, ← hs, hz]
    generalize 2 ^ (q - 1) = p
    by_cases h0 : q = 0
    · simp only [h0, if_true]
      cases s
      · simp
      · simp [Int.neg_mul]
    · simp only [h0, if_false]
      cases s
      · simp
      · simp [Int.neg_mul]
  · rw [hz]
    split <;> split <;> omega

set_option maxRecDepth 100000 in
set_option maxHeartbeats 600000 in
theorem ref_worth_0p (x m q : Nat) (hm : Hid (m = x % 2 ^ 52)) (hq : Hid (q = x / 2 ^ 52 % 2048)) (hmb : m < 4503599627370496) (hqb : q < 2048) (hs : Hid (Flt.sgn x = false)) (h0 : q = 0)
    (fb : bits .and .u64 (x : Int) 4503599627370495 = (m : Int)) (eb : bits .and .u64 ((x : Int) / 4503599627370496) 2047 = (q : Int)) (sb : ((x : Int) / 9223372036854775808 == 1) = false) (w : World) :
    Calls Try.prog 38 #[.float .f64 x] w (RetWorth w x) := by
  have hW := worth_sv hm.out hq.out false hs.out.symm (z := (m : Int)) (by subst h0; simp)
  have HW := Lib.hid hW
  clear hW
  subst h0
  go_enter Try.func38, Try.ntmps38
  go_wp2_with (go_at_call 76; refine (ref_of_any _ _ (by omega)).mono ?_; rintro e w1 ⟨neg1, A1, n1, c1, rfl, hI1, hb1⟩; obtain ⟨hc1, hf1⟩ := bcell hb1; have r1 := hc1 w.heap.size 0 (by simp <;> omega); have r2 := hc1 w.heap.size 1 (by simp <;> omega); have r3 := hf1 w.heap.size 0 (by simp <;> omega); have r4 := hf1 w.heap.size 1 (by simp <;> omega); have hz1 : w.heap.size < w1.heap.size := (by have := hb1.size; simp at this; omega))
  have hI2 : IsInt w1 neg1 A1 n1 c1 (m : Int) := by first | exact hI1 | (have e : (m : Int) = _ := (by omega); rw [e]; exact hI1)
  exact bodyPost_ret (v := .tuple #[.agg #[.bool neg1, .slice A1 n1 c1], .int .i64 (((0 - 1 : Nat) : Int) - 1074)]) (by simp [results, Try.results38, go_sem, r1, r2]) rfl
    ⟨neg1, A1, n1, c1, (m : Int), 0 - 1, rfl, isInt_result (b0 := false) (a0 := none) (n0 := 0) (c0 := 0) hI2 (r1.trans (by simp [go_sem])) (r2.trans (by simp [go_sem])) _ _, HW.out.2.2, HW.out.2.1, HW.out.1, below_result (below_box hb1) (by omega) _ _⟩

set_option maxRecDepth 100000 in
set_option maxHeartbeats 600000 in
theorem ref_worth_0n (x m q : Nat) (hm : Hid (m = x % 2 ^ 52)) (hq : Hid (q = x / 2 ^ 52 % 2048)) (hmb : m < 4503599627370496) (hqb : q < 2048) (hs : Hid (Flt.sgn x = true)) (h0 : q = 0)
    (fb : bits .and .u64 (x : Int) 4503599627370495 = (m : Int)) (eb : bits .and .u64 ((x : Int) / 4503599627370496) 2047 = (q : Int)) (sb : ((x : Int) / 9223372036854775808 == 1) = true) (w : World) :
    Calls Try.prog 38 #[.float .f64 x] w (RetWorth w x) := by
  have hW := worth_sv hm.out hq.out true hs.out.symm (z := (-(m : Int))) (by subst h0; simp)
  have HW := Lib.hid hW
  clear hW
  subst h0
  go_enter Try.func38, Try.ntmps38
  go_wp2_with (go_at_call 76; refine (ref_of_any _ _ (by omega)).mono ?_; rintro e w1 ⟨neg1, A1, n1, c1, rfl, hI1, hb1⟩; obtain ⟨hc1, hf1⟩ := bcell hb1; have r1 := hc1 w.heap.size 0 (by simp <;> omega); have r2 := hc1 w.heap.size 1 (by simp <;> omega); have r3 := hf1 w.heap.size 0 (by simp <;> omega); have r4 := hf1 w.heap.size 1 (by simp <;> omega); have hz1 : w.heap.size < w1.heap.size := (by have := hb1.size; simp at this; omega))
  have hI2 : IsInt w1 neg1 A1 n1 c1 (-(m : Int)) := by first | exact hI1 | (have e : (-(m : Int)) = _ := (by omega); rw [e]; exact hI1)
  exact bodyPost_ret (v := .tuple #[.agg #[.bool neg1, .slice A1 n1 c1], .int .i64 (((0 - 1 : Nat) : Int) - 1074)]) (by simp [results, Try.results38, go_sem, r1, r2]) rfl
    ⟨neg1, A1, n1, c1, (-(m : Int)), 0 - 1, rfl, isInt_result (b0 := false) (a0 := none) (n0 := 0) (c0 := 0) hI2 (r1.trans (by simp [go_sem])) (r2.trans (by simp [go_sem])) _ _, HW.out.2.2, HW.out.2.1, HW.out.1, below_result (below_box hb1) (by omega) _ _⟩

set_option maxRecDepth 100000 in
set_option maxHeartbeats 600000 in
theorem ref_worth_1p (x m q : Nat) (hm : Hid (m = x % 2 ^ 52)) (hq : Hid (q = x / 2 ^ 52 % 2048)) (hmb : m < 4503599627370496) (hqb : q < 2048) (hs : Hid (Flt.sgn x = false)) (h0 : 1 ≤ q)
    (fb : bits .and .u64 (x : Int) 4503599627370495 = (m : Int)) (eb : bits .and .u64 ((x : Int) / 4503599627370496) 2047 = (q : Int)) (sb : ((x : Int) / 9223372036854775808 == 1) = false) (w : World) :
    Calls Try.prog 38 #[.float .f64 x] w (RetWorth w x) := by
  have hW := worth_sv hm.out hq.out false hs.out.symm (z := ((m : Int) + 4503599627370496)) (by rw [if_neg (show ¬ q = 0 by omega)]; simp <;> omega)
  have HW := Lib.hid hW
  clear hW
  have h1 : (0 : Int) < (q : Int) := by omega
  go_enter Try.func38, Try.ntmps38
  go_wp2_with (go_at_call 76; refine (ref_of_any _ _ (by omega)).mono ?_; rintro e w1 ⟨neg1, A1, n1, c1, rfl, hI1, hb1⟩; obtain ⟨hc1, hf1⟩ := bcell hb1; have r1 := hc1 w.heap.size 0 (by simp <;> omega); have r2 := hc1 w.heap.size 1 (by simp <;> omega); have r3 := hf1 w.heap.size 0 (by simp <;> omega); have r4 := hf1 w.heap.size 1 (by simp <;> omega); have hz1 : w.heap.size < w1.heap.size := (by have := hb1.size; simp at this; omega))
  have hI2 : IsInt w1 neg1 A1 n1 c1 ((m : Int) + 4503599627370496) := by first | exact hI1 | (have e : ((m : Int) + 4503599627370496) = _ := (by omega); rw [e]; exact hI1)
  exact bodyPost_ret (v := .tuple #[.agg #[.bool neg1, .slice A1 n1 c1], .int .i64 (((q - 1 : Nat) : Int) - 1074)]) (by simp [results, Try.results38, go_sem, r1, r2]; omega) rfl
    ⟨neg1, A1, n1, c1, ((m : Int) + 4503599627370496), q - 1, rfl, isInt_result (b0 := false) (a0 := none) (n0 := 0) (c0 := 0) hI2 (r1.trans (by simp [go_sem])) (r2.trans (by simp [go_sem])) _ _, HW.out.2.2, HW.out.2.1, HW.out.1, below_result (below_box hb1) (by omega) _ _⟩

set_option maxRecDepth 100000 in
set_option maxHeartbeats 600000 in
theorem ref_worth_1n (x m q : Nat) (hm : Hid (m = x % 2 ^ 52)) (hq : Hid (q = x / 2 ^ 52 % 2048)) (hmb : m < 4503599627370496) (hqb : q < 2048) (hs : Hid (Flt.sgn x = true)) (h0 : 1 ≤ q)
    (fb : bits .and .u64 (x : Int) 4503599627370495 = (m : Int)) (eb : bits .and .u64 ((x : Int) / 4503599627370496) 2047 = (q : Int)) (sb : ((x : Int) / 9223372036854775808 == 1) = true) (w : World) :
    Calls Try.prog 38 #[.float .f64 x] w (RetWorth w x) := by
  have hW := worth_sv hm.out hq.out true hs.out.symm (z := (-((m : Int) + 4503599627370496))) (by rw [if_neg (show ¬ q = 0 by omega)]; simp <;> omega)
  have HW := Lib.hid hW
  clear hW
  have h1 : (0 : Int) < (q : Int) := by omega
  go_enter Try.func38, Try.ntmps38
  go_wp2_with (go_at_call 76; refine (ref_of_any _ _ (by omega)).mono ?_; rintro e w1 ⟨neg1, A1, n1, c1, rfl, hI1, hb1⟩; obtain ⟨hc1, hf1⟩ := bcell hb1; have r1 := hc1 w.heap.size 0 (by simp <;> omega); have r2 := hc1 w.heap.size 1 (by simp <;> omega); have r3 := hf1 w.heap.size 0 (by simp <;> omega); have r4 := hf1 w.heap.size 1 (by simp <;> omega); have hz1 : w.heap.size < w1.heap.size := (by have := hb1.size; simp at this; omega))
  have hI2 : IsInt w1 neg1 A1 n1 c1 (-((m : Int) + 4503599627370496)) := by first | exact hI1 | (have e : (-((m : Int) + 4503599627370496)) = _ := (by omega); rw [e]; exact hI1)
  exact bodyPost_ret (v := .tuple #[.agg #[.bool neg1, .slice A1 n1 c1], .int .i64 (((q - 1 : Nat) : Int) - 1074)]) (by simp [results, Try.results38, go_sem, r1, r2]; omega) rfl
    ⟨neg1, A1, n1, c1, (-((m : Int) + 4503599627370496)), q - 1, rfl, isInt_result (b0 := false) (a0 := none) (n0 := 0) (c0 := 0) hI2 (r1.trans (by simp [go_sem])) (r2.trans (by simp [go_sem])) _ _, HW.out.2.2, HW.out.2.1, HW.out.1, below_result (below_box hb1) (by omega) _ _⟩

theorem ref_worth_any (x : Nat) (hx : x < 2 ^ 64) (w : World) : Calls Try.prog 38 #[.float .f64 x] w (RetWorth w x) := by
  have fb := frac_bits x hx
  have eb := expo_bits x hx
  by_cases hs : x / 2 ^ 63 = 1
  · have sb : ((x : Int) / 9223372036854775808 == 1) = true := by rw [beq_iff_eq]; omega
    have hs' : Flt.sgn x = true := by unfold Flt.sgn; rw [beq_iff_eq]; omega
    by_cases hq : x / 2 ^ 52 % 2048 = 0
    · exact ref_worth_0n x _ _ (rfl : _ = _) (rfl : _ = _) (by omega) (by omega) hs' hq fb eb sb w
    · exact ref_worth_1n x _ _ (rfl : _ = _) (rfl : _ = _) (by omega) (by omega) hs' (by omega) fb eb sb w
  · have sb : ((x : Int) / 9223372036854775808 == 1) = false := by rw [beq_eq_false_iff_ne]; omega
    have hs' : Flt.sgn x = false := by unfold Flt.sgn; rw [beq_eq_false_iff_ne]; omega
    by_cases hq : x / 2 ^ 52 % 2048 = 0
    · exact ref_worth_0p x _ _ (rfl : _ = _) (rfl : _ = _) (by omega) (by omega) hs' hq fb eb sb w
    · exact ref_worth_1p x _ _ (rfl : _ = _) (rfl : _ = _) (by omega) (by omega) hs' (by omega) fb eb sb w
end Go.Proofs.Ythddodhcpfponaa

/-! The references' floats (polestarref04): one; quotients by a power of two. -/
namespace Go.Proofs.Ythddodhcpfponaa
open Go.RowKit

set_option maxHeartbeats 400000 in
theorem ref_one_any (w : World) : Calls Try.prog 45 #[] w (RetInt w 1) := by
  go_enter Try.func45, Try.ntmps45
  go_wp2_with (go_at_call 76; refine (ref_of_any _ _ (by omega)).mono ?_; rintro e w1 ⟨neg1, A1, n1, c1, rfl, hI1, hb1⟩; obtain ⟨hc1, hf1⟩ := bcell hb1; have r1 := hc1 w.heap.size 0 (by simp <;> omega); have r2 := hc1 w.heap.size 1 (by simp <;> omega); have r3 := hf1 w.heap.size 0 (by simp <;> omega); have r4 := hf1 w.heap.size 1 (by simp <;> omega); have hz1 : w.heap.size < w1.heap.size := (by have := hb1.size; simp at this; omega))
  exact bodyPost_ret (v := .agg #[.bool neg1, .slice A1 n1 c1]) (by simp [results, Try.results45, go_sem, r1, r2]) rfl
    ⟨neg1, A1, n1, c1, rfl, isInt_result (b0 := false) (a0 := none) (n0 := 0) (c0 := 0) hI1 (r1.trans (by simp [go_sem])) (r2.trans (by simp [go_sem])) _ _, below_result (below_box hb1) (by omega) _ _⟩

theorem ref_cmp_same (neg neg' : Bool) (A A' : Option Addr) (n c n' c' : Nat) (x y : Int) (w : World) (hx : IsInt w neg A n c x) (hy : IsInt w neg' A' n' c' y) (hn : n ≤ 1000000000) (hn' : n' ≤ 1000000000) (h : x = y) :
    Calls Try.prog 89 #[.agg #[.bool neg, .slice A n c], .agg #[.bool neg', .slice A' n' c']] w (RetV w (.int .i64 0)) :=
  (ref_cmp_int _ _ _ _ _ _ _ _ _ _ _ hx hy hn hn').mono fun _ _ ⟨he, hb⟩ => ⟨by rw [he]; unfold icmp; rw [if_neg (by omega), if_neg (by omega)], hb⟩
theorem isInt_len_mono {w w' : World} {neg neg' : Bool} {A A' : Option Addr} {n c n' c' : Nat} {x y : Int} (h : IsInt w neg A n c x) (k : IsInt w' neg' A' n' c' y) (e : x.natAbs ≤ y.natAbs) : n ≤ n' := by
  refine isInt_len_le h ?_
  obtain ⟨b, hb, cb, _, rfl⟩ := k
  have h1 : ∀ (s : Bool) (m : Nat), (sgnd s m).natAbs = m := by intro s m; unfold sgnd; split <;> omega
  rw [h1] at e
  have := Lm.lv_lt hb.ok
  rw [hb.len] at this
  omega
theorem icmp_zero (x y : Int) : (icmp x y == 0) = decide (x = y) := by
  unfold icmp
  split
  · simp; omega
  · split
    · simp; omega
    · simp; omega

set_option maxRecDepth 100000 in
set_option maxHeartbeats 1200000 in
theorem ref_quotient_neg (negq : Bool) (A Aq : Option Addr) (n c nq cq k P Q : Nat) (b : Bool) (w : World) (hp : IsInt w false A n c (P : Int)) (hq : IsInt w negq Aq nq cq 1) (hn : n ≤ 10000000) (hk0 : 0 < k) (hk : k ≤ 1000000000)
    (hQ : Hid (Q = P / 2 ^ k)) (hQb : Q ≤ 9223372036854775807) (hb : Hid (b = decide (P % 2 ^ k = 0))) :
    Calls Try.prog 90 #[.agg #[.bool false, .slice A n c], .agg #[.bool negq, .slice Aq nq cq], .int .i64 (-(k : Int))] w (RetV w (.tuple #[.int .u64 Q, .bool b])) := by
  have hnq : nq ≤ 1 := isInt_len_le hq (by decide)
  have hneg : -(k : Int) < 0 := by omega
  have hp2 := (hp.alloc (.cells #[.bool false, .slice A n c] 32)).alloc (.cells #[.bool negq, .slice Aq nq cq] 32)
  have hq2 := (hq.alloc (.cells #[.bool false, .slice A n c] 32)).alloc (.cells #[.bool negq, .slice Aq nq cq] 32)
  go_enter Try.func90, Try.ntmps90
  go_wp2
  go_region_held3 (fun w' => w'.cell? ⟨w.heap.size + 1, 0, none⟩ = some (.bool negq) ∧ w'.cell? ⟨w.heap.size + 1, 1, none⟩ = some (.slice Aq nq cq))
    (go_keep)
    (first | (go_at_call 45; refine (ref_one_any _).mono ?_; rintro e w1 ⟨neg1, A1, n1, c1, rfl, hI1, hb1⟩; obtain ⟨hc1, hf1⟩ := bcell hb1; have k1 := hc1 (w.heap.size + 1) 0 (by simp <;> omega); have k2 := hc1 (w.heap.size + 1) 1 (by simp <;> omega); have k3 := hc1 w.heap.size 0 (by simp <;> omega); have k4 := hc1 w.heap.size 1 (by simp <;> omega); have hq3 := (hq2.drewN 1).below hb1; have hp3 := (hp2.drewN 1).below hb1; have hbw : Below w.heap.size w w1 := below_box (below_box (below_of_drew hb1)); have hz1 : w.heap.size + 1 < w1.heap.size := (by have := hb1.size; simp at this; omega); have hn1 : n1 ≤ 1 := isInt_len_le hI1 (by decide)) | (go_at_call 89; refine (ref_cmp_same _ _ _ _ _ _ _ _ _ _ _ hq3 hI1 (by omega) (by omega) rfl).mono ?_; rintro e w2 ⟨rfl, hb2⟩; obtain ⟨hc2, hf2⟩ := bcell hb2; have j1 := hc2 (w.heap.size + 1) 0 (by omega); have j2 := hc2 (w.heap.size + 1) 1 (by omega); have j3 := hc2 w.heap.size 0 (by omega); have j4 := hc2 w.heap.size 1 (by omega); have hz2 : w.heap.size + 1 < w2.heap.size := (by have := hb2.size; omega)))
  have hp4 := hp3.below hb2
  have hbw2 := below_next hbw hb2
  have y3 : w2.cell? ⟨w.heap.size, 0, none⟩ = some (.bool false) := j3.trans (k3.trans (by simp [go_sem]))
  have y4 : w2.cell? ⟨w.heap.size, 1, none⟩ = some (.slice A n c) := j4.trans (k4.trans (by simp [go_sem]))
  clear k1 k2 k3 k4 j1 j2 j3 j4 hc1 hf1 hc2 hf2
  have hdbl : ∀ {w' : World} {neg' : Bool} {A' : Option Addr} {n' c' : Nat}, IsInt w' neg' A' n' c' ((Q : Int) * 2 ^ k) → n' ≤ 1000000000 := by
    intro w' neg' A' n' c' h
    have hle : ((Q : Int) * 2 ^ k).natAbs ≤ (P : Int).natAbs := by
      have h2 : (Q : Int) * 2 ^ k = ((Q * 2 ^ k : Nat) : Int) := by rw [Int.natCast_mul, Int.natCast_pow]; rfl
      rw [h2, Int.natAbs_natCast, Int.natAbs_natCast, hQ.out]
      exact Nat.div_mul_le_self _ _
    have := isInt_len_mono h hp hle
    omega
  have hkk : IntKind.i64.wrap (-(-(k : Int))) = (k : Int) := by rw [Int.neg_neg]; exact IntWalk.i64_in _ (by omega)
  go_wp2_with fail
  refine (ref_halved_any _ _ _ _ _ _ (by exact hp4) hn hk).mono ?_
  rintro e w3 ⟨neg3, A3, n3, c3, rfl, hI3, hb3⟩
  rw [Int.natAbs_natCast, ← hQ.out] at hI3
  obtain ⟨hc3, hf3⟩ := bcell hb3
  have z3 := hc3 w.heap.size 0 (by omega)
  have z4 := hc3 w.heap.size 1 (by omega)
  have hn3 : n3 ≤ 10000000 := by
    have h1 := isInt_len_mono hI3 hp (by rw [Int.natAbs_natCast, Int.natAbs_natCast, hQ.out]; exact Nat.div_le_self _ _)
    omega
  have hneg3 : neg3 = false := by rw [isInt_neg hI3]; exact decide_eq_false (by omega)
  have hp5 := (hp4.below hb3).alloc (.cells #[.bool neg3, .slice A3 n3 c3] 32)
  have hI4 := hI3.alloc (.cells #[.bool neg3, .slice A3 n3 c3] 32)
  have hz3 : w.heap.size + 1 < w3.heap.size := by have := hb3.size; omega
  have x1 : ¬ w3.heap.size = w.heap.size := by omega
  have x2 : ¬ w.heap.size = w3.heap.size := by omega
  have hbw3 := below_next hbw2 hb3
  clear hneg3
  go_wp2
  have hk2 : IntKind.i64.wrap (k : Int) = (k : Int) := IntWalk.i64_in _ (by omega)
  go_region_held3 (fun w' => w'.cell? ⟨w.heap.size, 0, none⟩ = some (.bool false) ∧ w'.cell? ⟨w.heap.size, 1, none⟩ = some (.slice A n c) ∧ w'.cell? ⟨w3.heap.size, 0, none⟩ = some (.bool neg3) ∧ w'.cell? ⟨w3.heap.size, 1, none⟩ = some (.slice A3 n3 c3))
    (go_keep)
    (first | (go_at_call 110; refine (ref_number_any _ _ _ _ _ _ (by exact hI4.drewN 1) (by omega) (by omega)).mono ?_; rintro e w4 ⟨rfl, hb4⟩; obtain ⟨hc4, hf4⟩ := bcell hb4; have a0 := hc4 (w.heap.size) 0 (by simp <;> omega); have a1 := hc4 (w.heap.size) 1 (by simp <;> omega); have a2 := hc4 (w3.heap.size) 0 (by simp <;> omega); have a3 := hc4 (w3.heap.size) 1 (by simp <;> omega); have hI5 := (hI4.drewN 1).below hb4; have hp6 := (hp5.drewN 1).below hb4; have hz4 : w3.heap.size < w4.heap.size := (by have := hb4.size; simp at this; omega); have hbw4 : Below w.heap.size w w4 := below_next hbw3 (below_box (below_of_drew hb4))) | (go_at_call 42; refine (ref_double_any _ _ _ _ _ _ _ (by exact hI5) (by omega) hk).mono ?_; rintro e w5 ⟨neg5, A5, n5, c5, rfl, hI6, hb5⟩; obtain ⟨hc5, hf5⟩ := bcell hb5; have b0 := hc5 (w.heap.size) 0 (by omega); have b1 := hc5 (w.heap.size) 1 (by omega); have b2 := hc5 (w3.heap.size) 0 (by omega); have b3 := hc5 (w3.heap.size) 1 (by omega); have hp7 := hp6.below hb5; have hz5 : w3.heap.size < w5.heap.size := (by have := hb5.size; omega); have hbw5 := below_next hbw4 hb5; have hn5 : n5 ≤ 1000000000 := hdbl hI6) | (go_at_call 89; refine (ref_cmp_int _ _ _ _ _ _ _ _ _ _ _ hI6 hp7 hn5 (by omega)).mono ?_; rintro e w6 ⟨rfl, hb6⟩; obtain ⟨hc6, hf6⟩ := bcell hb6; have d0 := hc6 (w.heap.size) 0 (by omega); have d1 := hc6 (w.heap.size) 1 (by omega); have d2 := hc6 (w3.heap.size) 0 (by omega); have d3 := hc6 (w3.heap.size) 1 (by omega); have hbw6 := below_next hbw5 hb6))
  go_wp2
  go_ret2
  refine ⟨?_, hbw6⟩
  have hbe : (icmp ((Q : Int) * 2 ^ k) (P : Int) == 0) = b := by
    rw [icmp_zero, hb.out, hQ.out]
    have h1 := Nat.div_add_mod P (2 ^ k)
    have h2 : ((P / 2 ^ k : Nat) : Int) * 2 ^ k = ((P / 2 ^ k * 2 ^ k : Nat) : Int) := by rw [Int.natCast_mul, Int.natCast_pow]; rfl
    rw [h2]
    rw [Nat.mul_comm] at h1
    congr 1
    rw [eq_iff_iff]
    omega
  rw [← hbe]
  rfl
end Go.Proofs.Ythddodhcpfponaa

/-! The references' floats (polestarref04): quotients of a number made greater. -/
namespace Go.Proofs.Ythddodhcpfponaa
open Go.RowKit

set_option maxRecDepth 100000 in
set_option maxHeartbeats 1200000 in
theorem ref_quotient_pos (negq : Bool) (A Aq : Option Addr) (n c nq cq k P Q : Nat) (w : World) (hp : IsInt w false A n c (P : Int)) (hq : IsInt w negq Aq nq cq 1) (hn : n ≤ 10000000) (hk : k ≤ 1000000000)
    (hQ : Hid (Q = P * 2 ^ k)) (hQb : Q ≤ 9223372036854775807) :
    Calls Try.prog 90 #[.agg #[.bool false, .slice A n c], .agg #[.bool negq, .slice Aq nq cq], .int .i64 (k : Int)] w (RetV w (.tuple #[.int .u64 Q, .bool true])) := by
  have hnq : nq ≤ 1 := isInt_len_le hq (by decide)
  have hnq0 : nq ≠ 0 := fun e => by have := (isInt_zero hq).1 e; omega
  obtain rfl : nq = 1 := by omega
  clear hnq0 hnq
  have hp2 := (hp.alloc (.cells #[.bool false, .slice A n c] 32)).alloc (.cells #[.bool negq, .slice Aq 1 cq] 32)
  have hq2 := (hq.alloc (.cells #[.bool false, .slice A n c] 32)).alloc (.cells #[.bool negq, .slice Aq 1 cq] 32)
  have hk0 : decide ((k : Int) < 0) = false := decide_eq_false (by omega)
  go_enter Try.func90, Try.ntmps90
  go_wp2
  go_quiet (fail)
  go_wp2_with fail
  refine (ref_double_any _ _ _ _ _ _ _ (by exact hp2.drewN _) (by omega) hk).mono ?_
  rintro e w1 ⟨neg1, A1, n1, c1, rfl, hI1, hb1⟩
  have hPQ : ((P : Int) * 2 ^ k) = (Q : Int) := by rw [hQ.out, Int.natCast_mul, Int.natCast_pow]; rfl
  rw [hPQ] at hI1
  clear hPQ
  obtain ⟨hc1, hf1⟩ := bcell hb1
  have r1 := hc1 w.heap.size 0 (by simp <;> omega)
  have r2 := hc1 w.heap.size 1 (by simp <;> omega)
  have r3 := hf1 w.heap.size 0 (by simp <;> omega)
  have r4 := hf1 w.heap.size 1 (by simp <;> omega)
  have r5 := hc1 (w.heap.size + 1) 0 (by simp <;> omega)
  have r6 := hc1 (w.heap.size + 1) 1 (by simp <;> omega)
  have hz1 : w.heap.size + 1 < w1.heap.size := by have := hb1.size; simp at this; omega
  have hq3 := (hq2.drewN _).below hb1
  have hn1 : n1 ≤ 2 := isInt_len_le hI1 (by show _ < 4294967296 ^ 2; omega)
  have x1 : ¬ w.heap.size + 1 = w.heap.size := by omega
  have x2 : ¬ w.heap.size = w.heap.size + 1 := by omega
  have c0 : w1.cell? ⟨w.heap.size, 0, none⟩ = some (.bool false) := r1.trans (by simp [go_sem])
  have c1' : w1.cell? ⟨w.heap.size, 1, none⟩ = some (.slice A n c) := r2.trans (by simp [go_sem])
  have hI2 := isInt_result hI1 c0 c1' (.bool neg1) (.slice A1 n1 c1)
  have hq4 := isInt_result hq3 c0 c1' (.bool neg1) (.slice A1 n1 c1)
  have hbw1 : Below w.heap.size w ((w1.setCell ⟨w.heap.size, 0, none⟩ (.bool neg1)).setCell ⟨w.heap.size, 1, none⟩ (.slice A1 n1 c1)) := below_result (below_box (below_box (below_of_drewN hb1))) (Nat.le_refl _) _ _
  obtain ⟨W1, hW1⟩ : ∃ W1, W1 = ((w1.setCell ⟨w.heap.size, 0, none⟩ (.bool neg1)).setCell ⟨w.heap.size, 1, none⟩ (.slice A1 n1 c1)) := ⟨_, rfl⟩
  have hzW : w1.heap.size = W1.heap.size := by rw [hW1]; simp [World.setCell]
  clear hb1 hc1 hf1
  go_wp2_with fail
  rw [← hW1]
  rw [← hW1] at hI2 hq4 hbw1
  refine (ref_Divide_one _ _ _ _ _ _ _ _ _ _ (by exact hI2) (by exact hq4) (by omega)).mono ?_
  rintro e w2 ⟨neg2, A2, n2, c2, neg3, A3, n3, c3, rfl, hI3, hI4, hb2⟩
  rw [Int.tdiv_one] at hI3
  rw [Int.tmod_one] at hI4
  have hz2 : w.heap.size + 1 < w2.heap.size := by have := hb2.size; omega
  have hbw2 := below_next hbw1 hb2
  clear hW1 hzW r1 r2 r3 r4 r5 r6 c0 c1' hb2
  have hI5 := (hI3.alloc (.cells #[.bool neg2, .slice A2 n2 c2] 32)).alloc (.cells #[.bool neg3, .slice A3 n3 c3] 32)
  have hI6 := (hI4.alloc (.cells #[.bool neg2, .slice A2 n2 c2] 32)).alloc (.cells #[.bool neg3, .slice A3 n3 c3] 32)
  go_wp2
  go_region_held3 (fun w' => w'.cell? ⟨w2.heap.size, 0, none⟩ = some (.bool neg2) ∧ w'.cell? ⟨w2.heap.size, 1, none⟩ = some (.slice A2 n2 c2) ∧ w'.cell? ⟨w2.heap.size + 1, 0, none⟩ = some (.bool neg3) ∧ w'.cell? ⟨w2.heap.size + 1, 1, none⟩ = some (.slice A3 n3 c3))
    (go_keep)
    (first | (go_at_call 110; refine (ref_number_any _ _ _ _ _ _ (by exact hI5.drewN 1) (by omega) (by omega)).mono ?_; rintro e w4 ⟨rfl, hb4⟩; obtain ⟨hc4, hf4⟩ := bcell hb4; have a0 := hc4 (w2.heap.size) 0 (by simp <;> omega); have a1 := hc4 (w2.heap.size) 1 (by simp <;> omega); have a2 := hc4 (w2.heap.size + 1) 0 (by simp <;> omega); have a3 := hc4 (w2.heap.size + 1) 1 (by simp <;> omega); have hI7 := (hI6.drewN 1).below hb4; have hz4 : w2.heap.size + 1 < w4.heap.size := (by have := hb4.size; simp at this; omega); have hbw4 : Below w.heap.size w w4 := below_next hbw2 (below_box (below_box (below_of_drew hb4)))) | (go_at_call 43; refine (ref_sign_any _ _ _ _ _ _ (by exact hI7)).mono ?_; rintro e w5 ⟨rfl, hb5⟩; obtain ⟨hc5, hf5⟩ := bcell hb5; have b0 := hc5 (w2.heap.size) 0 (by omega); have b1 := hc5 (w2.heap.size) 1 (by omega); have b2 := hc5 (w2.heap.size + 1) 0 (by omega); have b3 := hc5 (w2.heap.size + 1) 1 (by omega); have hbw5 := below_next hbw4 hb5))
  go_wp2
  go_ret2
  exact ⟨rfl, hbw5⟩

/-- Of any number from 0 on, by one: p times 2^s rounded down, and whether it is that. -/
theorem ref_quotient_one (negq : Bool) (A Aq : Option Addr) (n c nq cq P : Nat) (s : Int) (w : World) (hp : IsInt w false A n c (P : Int)) (hq : IsInt w negq Aq nq cq 1) (hn : n ≤ 10000000) (hs : -1000000000 ≤ s ∧ s ≤ 1000000000)
    (Q : Nat) (b : Bool) (h0 : 0 ≤ s → Q = P * 2 ^ s.toNat ∧ b = true) (h1 : s < 0 → Q = P / 2 ^ (-s).toNat ∧ b = decide (P % 2 ^ (-s).toNat = 0)) (hQb : Q ≤ 9223372036854775807) :
    Calls Try.prog 90 #[.agg #[.bool false, .slice A n c], .agg #[.bool negq, .slice Aq nq cq], .int .i64 s] w (RetV w (.tuple #[.int .u64 Q, .bool b])) := by
  by_cases h : 0 ≤ s
  · obtain ⟨e1, rfl⟩ := h0 h
    obtain ⟨k, rfl⟩ := Int.eq_ofNat_of_zero_le h
    exact ref_quotient_pos _ _ _ _ _ _ _ k P Q w hp hq hn (by omega) (by rw [e1]; rfl) hQb
  · obtain ⟨e1, e2⟩ := h1 (by omega)
    have e : s = -(((-s).toNat : Nat) : Int) := by omega
    rw [e]
    exact ref_quotient_neg _ _ _ _ _ _ _ (-s).toNat P Q b w hp hq hn (by omega) (by omega) e1 hQb e2
end Go.Proofs.Ythddodhcpfponaa

/-! The references' floats (polestarref04): the greatest float that is not above a number times a power of two. -/
namespace Go.Proofs.Ythddodhcpfponaa
open Go.RowKit

def RetUnder (W : World) (num den : Nat) (e : Ending) (w' : World) : Prop :=
  ∃ r b, e = .returned (.tuple #[.float .f64 r, .bool b]) ∧ Flt.Dn num den r ∧ b = decide (Flt.val r * den = num) ∧ Below W.heap.size W w'

theorem ref_quotient_fq (negq : Bool) (A Aq : Option Addr) (n c nq cq P : Nat) (s : Int) (w : World) (hp : IsInt w false A n c (P : Int)) (hq : IsInt w negq Aq nq cq 1) (hn : n ≤ 10000000) (hs : -1000000000 ≤ s ∧ s ≤ 1000000000)
    (Q : Nat) (b : Bool) (hQ : Hid (Q = Flt.fq P s)) (hb : Hid (b = Flt.fb P s)) (hQb : Q ≤ 9223372036854775807) :
    Calls Try.prog 90 #[.agg #[.bool false, .slice A n c], .agg #[.bool negq, .slice Aq nq cq], .int .i64 s] w (RetV w (.tuple #[.int .u64 Q, .bool b])) :=
  ref_quotient_one _ _ _ _ _ _ _ P s w hp hq hn hs Q b (fun h => ⟨by rw [hQ.out]; unfold Flt.fq; rw [if_pos h], by rw [hb.out]; unfold Flt.fb; rw [if_pos h]⟩)
    (fun h => ⟨by rw [hQ.out]; unfold Flt.fq; rw [if_neg (by omega)], by rw [hb.out]; unfold Flt.fb; rw [if_neg (by omega)]⟩) hQb
theorem ref_bits_of (neg : Bool) (A : Option Addr) (n c : Nat) (x : Int) (L : Nat) (w : World) (hx : IsInt w neg A n c x) (hn : n ≤ 100000000) (hL : Hid (bitLen x.natAbs = L)) :
    Calls Try.prog 86 #[.agg #[.bool neg, .slice A n c]] w (RetV w (.int .i64 (L : Int))) := by
  have := ref_bits_any neg A n c x w hx hn
  rwa [hL.out] at this

/-- How many bits are taken. -/
theorem fq_bits {P : Nat} (hP : P ≠ 0) {L : Nat} (hL : L = bitLen P) : 2 ^ 53 ≤ Flt.fq P (54 - (L : Int)) ∧ Flt.fq P (54 - (L : Int)) < 2 ^ 54 := by
  have h1 : L = P.log2 + 1 := by rw [hL]; unfold bitLen; rw [if_neg hP]
  have h2 := Nat.log2_self_le hP
  have h3 : P < 2 ^ (P.log2 + 1) := Nat.lt_log2_self
  obtain ⟨f1, f2, _⟩ := Flt.fq_spec P (54 - (L : Int))
  generalize Flt.fq P (54 - (L : Int)) = Q at *
  generalize hl : P.log2 = l at *
  generalize ha : (54 - (L : Int)).toNat = a at *
  generalize hb : (-(54 - (L : Int))).toNat = b at *
  have e1 : l + a = 53 + b := by omega
  have hB : 0 < 2 ^ b := Nat.two_pow_pos _
  have g1 : 2 ^ 53 * 2 ^ b ≤ P * 2 ^ a := by
    have := Nat.mul_le_mul_right (2 ^ a) h2
    rw [← Nat.pow_add, e1, Nat.pow_add] at this
    exact this
  have g2 : P * 2 ^ a < 2 ^ 54 * 2 ^ b := by
    have := Nat.mul_lt_mul_of_pos_right h3 (Nat.two_pow_pos a)
    rw [← Nat.pow_add, show l + 1 + a = 54 + b by omega, Nat.pow_add] at this
    exact this
  constructor
  · have : 2 ^ 53 * 2 ^ b < (Q + 1) * 2 ^ b := Nat.lt_of_le_of_lt g1 f2
    have := Nat.lt_of_mul_lt_mul_right this
    omega
  · exact Nat.lt_of_mul_lt_mul_right (Nat.lt_of_le_of_lt f1 g2)
theorem fq_low {P : Nat} {L : Nat} (hL : L = bitLen P) {s : Int} (hs : (L : Int) + s ≤ 53) : Flt.fq P s < 2 ^ 53 := by
  have hP := (bitLen_spec P).1
  rw [← hL] at hP
  obtain ⟨f1, _, _⟩ := Flt.fq_spec P s
  generalize Flt.fq P s = Q at *
  generalize ha : s.toNat = a at *
  generalize hb : (-s).toNat = b at *
  have g2 : P * 2 ^ a < 2 ^ 53 * 2 ^ b := by
    have h1 := Nat.mul_lt_mul_of_pos_right hP (Nat.two_pow_pos a)
    rw [← Nat.pow_add] at h1
    have h2 : 2 ^ (L + a) ≤ 2 ^ (53 + b) := Nat.pow_le_pow_right (by decide) (by omega)
    rw [Nat.pow_add 2 53] at h2
    omega
  exact Nat.lt_of_mul_lt_mul_right (Nat.lt_of_le_of_lt f1 g2)
theorem dn_zero (den : Nat) (hd : 0 < den) : Flt.Dn 0 den 0 ∧ true = decide (Flt.val 0 * den = 0) := by
  refine ⟨⟨by rw [Flt.inf_eq]; omega, by rw [Flt.val_zero]; omega, fun _ => ?_⟩, by rw [Flt.val_zero]; simp⟩
  have : 0 < Flt.val (0 + 1) := by have := Flt.val_lt (show 0 < 0 + 1 by omega); omega
  exact Nat.mul_pos this hd

set_option maxRecDepth 100000 in
set_option maxHeartbeats 1600000 in
theorem ref_under_one (negq : Bool) (A Aq : Option Addr) (n c nq cq P : Nat) (e : Int) (w : World) (hp : IsInt w false A n c (P : Int)) (hq : IsInt w negq Aq nq cq 1) (hn : n ≤ 1000000) (he : -1000000 ≤ e ∧ e ≤ 1000000) :
    Calls Try.prog 61 #[.agg #[.bool false, .slice A n c], .agg #[.bool negq, .slice Aq nq cq], .int .i64 e] w (RetUnder w (P * 2 ^ (e + 1074).toNat) (2 ^ (-(e + 1074)).toNat)) := by
  obtain ⟨num, hnum⟩ : ∃ num, num = P * 2 ^ (e + 1074).toNat := ⟨_, rfl⟩
  obtain ⟨den, hden⟩ : ∃ den, den = 2 ^ (-(e + 1074)).toNat := ⟨_, rfl⟩
  rw [← hnum, ← hden]
  have HNUM := Lib.hid hnum
  have HDEN := Lib.hid hden
  clear hnum hden
  have hp2 := (hp.alloc (.cells #[.bool false, .slice A n c] 32)).alloc (.cells #[.bool negq, .slice Aq nq cq] 32)
  have hq2 := (hq.alloc (.cells #[.bool false, .slice A n c] 32)).alloc (.cells #[.bool negq, .slice Aq nq cq] 32)
  have hnq : nq ≤ 1 := isInt_len_le hq (by decide)
  by_cases hP0 : P = 0
  · subst hP0
    have hD : Flt.Dn num den 0 ∧ true = decide (Flt.val 0 * den = num) := by rw [show num = 0 by rw [HNUM.out]; omega]; exact dn_zero den (by rw [HDEN.out]; exact Nat.two_pow_pos _)
    have HD := Lib.hid hD
    clear hD
    go_enter Try.func61, Try.ntmps61
    go_wp2_with (go_at_call 43; refine (ref_sign_any _ _ _ _ _ _ (by exact hp2)).mono ?_; rintro e w1 ⟨rfl, hb1⟩)
    go_ret2
    exact ⟨0, true, rfl, HD.out.1, HD.out.2, below_box (below_box hb1)⟩
  · have hs1 : (P : Int).sign = 1 := Int.sign_eq_one_of_pos (by omega)
    have HS := Lib.hid hs1
    obtain ⟨L, hL⟩ : ∃ L, L = bitLen P := ⟨_, rfl⟩
    have hLb : L ≤ 32000000 := by
      obtain ⟨l, hl, _, _, hx⟩ := hp
      have h1 : Lm.lv l = P := by unfold sgnd at hx; simp at hx; omega
      have h2 := Lm.lv_lt hl.ok
      rw [h1, hl.len, show Lm.B ^ n = 2 ^ (32 * n) by rw [Nat.pow_mul]] at h2
      rw [hL]; unfold bitLen; rw [if_neg hP0]
      have := (Nat.log2_lt hP0).2 h2
      omega
    have HL1 : Hid (bitLen (P : Int).natAbs = L) := by rw [hL]; exact rfl
    have HL2 : Hid (bitLen (1 : Int).natAbs = 1) := rfl
    have HL := Lib.hid hL
    clear hL hs1
    go_enter Try.func61, Try.ntmps61
    go_wp2_with fail
    refine (ref_sign_any _ _ _ _ _ _ (by exact hp2)).mono ?_
    rintro e1 w1 ⟨rfl, hb1⟩
    rw [HS.out]
    obtain ⟨hc1, hf1⟩ := bcell hb1
    have k0 := hc1 w.heap.size 0 (by simp <;> omega)
    have k1 := hc1 w.heap.size 1 (by simp <;> omega)
    have k2 := hc1 (w.heap.size + 1) 0 (by simp <;> omega)
    have k3 := hc1 (w.heap.size + 1) 1 (by simp <;> omega)
    have hz1 : w.heap.size + 1 < w1.heap.size := by have := hb1.size; simp at this; omega
    have hp3 := hp2.below hb1
    have hq3 := hq2.below hb1
    have hbw1 := below_box (below_box hb1)
    go_wp2_with fail
    go_region_held3 (fun w' => w'.cell? ⟨w.heap.size, 0, none⟩ = some (.bool false) ∧ w'.cell? ⟨w.heap.size, 1, none⟩ = some (.slice A n c) ∧ w'.cell? ⟨w.heap.size + 1, 0, none⟩ = some (.bool negq) ∧ w'.cell? ⟨w.heap.size + 1, 1, none⟩ = some (.slice Aq nq cq))
      (go_keep)
      (first | (go_at_call 86; (with_reducible refine (ref_bits_of _ A _ _ _ L _ ?_ ?_ HL1).mono ?_); exact hp3.drewN 1; omega; rintro e2 w2 ⟨rfl, hb2⟩; obtain ⟨hc2, hf2⟩ := bcell hb2; have a0 := hc2 (w.heap.size) 0 (by simp <;> omega); have a1 := hc2 (w.heap.size) 1 (by simp <;> omega); have a2 := hc2 (w.heap.size + 1) 0 (by simp <;> omega); have a3 := hc2 (w.heap.size + 1) 1 (by simp <;> omega); have hz2 : w.heap.size + 1 < w2.heap.size := (by have := hb2.size; simp at this; omega); have hq4 := (hq3.drewN 1).below hb2; have hp4 := (hp3.drewN 1).below hb2; have hbw2 := below_next hbw1 (below_of_drew hb2)) | (go_at_call 86; (with_reducible refine (ref_bits_of _ Aq _ _ _ 1 _ ?_ ?_ HL2).mono ?_); exact hq4; omega; rintro e3 w3 ⟨rfl, hb3⟩; obtain ⟨hc3, hf3⟩ := bcell hb3; have b0 := hc3 (w.heap.size) 0 (by omega); have b1 := hc3 (w.heap.size) 1 (by omega); have b2 := hc3 (w.heap.size + 1) 0 (by omega); have b3 := hc3 (w.heap.size + 1) 1 (by omega); have hz3 : w.heap.size + 1 < w3.heap.size := (by have := hb3.size; omega); have hq5 := hq4.below hb3; have hp5 := hp4.below hb3; have hbw3 := below_next hbw2 hb3))
    have y0 : w3.cell? ⟨w.heap.size, 0, none⟩ = some (.bool false) := b0.trans (a0.trans (k0.trans (by simp [go_sem])))
    have y1 : w3.cell? ⟨w.heap.size, 1, none⟩ = some (.slice A n c) := b1.trans (a1.trans (k1.trans (by simp [go_sem])))
    have y2 : w3.cell? ⟨w.heap.size + 1, 0, none⟩ = some (.bool negq) := b2.trans (a2.trans (k2.trans (by simp [go_sem])))
    have y3 : w3.cell? ⟨w.heap.size + 1, 1, none⟩ = some (.slice Aq nq cq) := b3.trans (a3.trans (k3.trans (by simp [go_sem])))
    clear a0 a1 a2 a3 b0 b1 b2 b3 k0 k1 k2 k3 hc1 hf1 hc2 hf2 hc3 hf3 hb1 hb2 hb3
    by_cases hlow : (L : Int) + e - 54 < -1074
    · obtain ⟨Q, hQ⟩ : ∃ Q, Q = Flt.fq P (e + 1074) := ⟨_, rfl⟩
      obtain ⟨b, hb⟩ : ∃ b, b = Flt.fb P (e + 1074) := ⟨_, rfl⟩
      have hQlt : Q < 2 ^ 53 := by rw [hQ]; exact fq_low HL.out (by omega)
      have hD := Flt.dn_fin (P := P) (e := e) (k := -1074) (Q := Q) (by omega) (by omega) (by rw [hQ]; congr 1) hQlt (Or.inl rfl)
      rw [← HNUM.out, ← HDEN.out, show (-1074 + 1074 : Int).toNat * 2 ^ 52 + Q = Q by simp, show e - -1074 = e + 1074 by omega, ← hb] at hD
      have HD := Lib.hid hD
      have HQ := Lib.hid hQ
      have HB := Lib.hid hb
      clear hD hQ hb
      go_wp2_with fail
      refine (ref_quotient_fq negq A Aq _ _ _ _ P (e + 1074) _ (by exact hp5) (by exact hq5) (by omega) (by omega) Q b HQ HB (by omega)).mono ?_
      rintro e4 w4 ⟨rfl, hb4⟩
      have hbw4 := below_next hbw3 hb4
      obtain ⟨z, hz⟩ : ∃ z : Int, z = (Q : Int) := ⟨_, rfl⟩
      rw [← hz]
      have g1 : ¬ ((9007199254740992 : Int) ≤ z) := by omega
      have g2 : z.toNat = Q := by omega
      have g3 : 4503599627370496 + z - 4503599627370496 = z := by omega
      have G2 := Lib.hid g2
      have G3 := Lib.hid g3
      clear hz HQ hQlt g2 g3
      by_cases hq52 : z < 4503599627370496
      · go_wp2_with fail
        rw [G2.out]
        go_ret2
        exact ⟨Q, b, rfl, HD.out.1, HD.out.2, hbw4⟩
      · go_wp2_with fail
        rw [G3.out, G2.out]
        go_ret2
        exact ⟨Q, b, rfl, HD.out.1, HD.out.2, hbw4⟩
    · by_cases hbig : (L : Int) + e - 54 > 2000
      · have hD := Flt.dn_big (P := P) (e := e) (k := (L : Int) + e - 54) (by omega) (by rw [show e - ((L : Int) + e - 54) = 54 - (L : Int) by omega]; have := fq_bits hP0 HL.out; omega)
        rw [← HNUM.out, ← HDEN.out, Flt.inf_eq] at hD
        have HD := Lib.hid hD
        clear hD
        go_wp2_with fail
        go_ret2
        exact ⟨_, _, rfl, HD.out.1, by simp [HD.out.2], hbw3⟩
      · obtain ⟨Q, hQ⟩ : ∃ Q, Q = Flt.fq P (54 - (L : Int)) := ⟨_, rfl⟩
        obtain ⟨b, hb⟩ : ∃ b, b = Flt.fb P (54 - (L : Int)) := ⟨_, rfl⟩
        have hQb := fq_bits hP0 HL.out
        rw [← hQ] at hQb
        have HQ := Lib.hid hQ
        have HB := Lib.hid hb
        have HQB := Lib.hid hQb
        clear hQ hb hQb
        go_wp2_with fail
        rw [show (e - ((L : Int) - 1 + e - 53)) = 54 - (L : Int) by omega]
        refine (ref_quotient_fq negq A Aq _ _ _ _ P (54 - (L : Int)) _ (by exact hp5) (by exact hq5) (by omega) (by omega) Q b HQ HB (by have := HQB.out; omega)).mono ?_
        rintro e4 w4 ⟨rfl, hb4⟩
        have hbw4 := below_next hbw3 hb4
        obtain ⟨z, hz⟩ : ∃ z : Int, z = (Q : Int) := ⟨_, rfl⟩
        obtain ⟨h, hh⟩ : ∃ h : Int, h = ((Q / 2 : Nat) : Int) := ⟨_, rfl⟩
        rw [← hz]
        have hQb := HQB.out
        have g1 : (9007199254740992 : Int) ≤ z := by omega
        have gh : z.tdiv 2 = h := by rw [hz, hh, Int.tdiv_eq_ediv_of_nonneg (by omega)]; omega
        have gw : IntKind.u64.wrap h = h := IntWalk.u64_in _ (by omega)
        have g2 : ¬ h < 4503599627370496 := by omega
        have g4 : h < 9007199254740992 := by omega
        have GZ := Lib.hid hz
        have GH := Lib.hid hh
        obtain ⟨c1, hc⟩ : ∃ c1 : Bool, (z % 2 == 0) = c1 := ⟨_, rfl⟩
        have gc : Hid ((Flt.fb P (54 - (L : Int)) && Flt.fq P (54 - (L : Int)) % 2 == 0) = (b && c1)) := by
          have : (Q % 2 == 0) = c1 := by rw [← hc, hz, Bool.eq_iff_iff]; simp only [beq_iff_eq]; omega
          rw [← HQ.out, ← HB.out, this]
          exact rfl
        have HQ2 := HQ
        clear hz hh HQ HB
        have hh2 := Flt.fq_half P (54 - (L : Int))
        by_cases hk : (971 : Int) < (L : Int) + e - 53
        · have hD := Flt.dn_big (P := P) (e := e) (k := (L : Int) + e - 53) (by omega) (by rw [show e - ((L : Int) + e - 53) = 54 - (L : Int) - 1 by omega, hh2.1, ← HQ2.out]; omega)
          rw [← HNUM.out, ← HDEN.out, Flt.inf_eq] at hD
          have HD := Lib.hid hD
          clear hD hh2 hQb
          cases b with
          | true =>
            go_wp2_with fail
            go_ret2
            exact ⟨_, _, rfl, HD.out.1, by simp [HD.out.2], hbw4⟩
          | false =>
            go_wp2_with fail
            go_ret2
            exact ⟨_, _, rfl, HD.out.1, by simp [HD.out.2], hbw4⟩
        · have hD := Flt.dn_fin (P := P) (e := e) (k := (L : Int) + e - 53) (Q := Q / 2) (by omega) (by omega) (by rw [show e - ((L : Int) + e - 53) = 54 - (L : Int) - 1 by omega, hh2.1, ← HQ2.out]) (by omega) (Or.inr (by omega))
          rw [← HNUM.out, ← HDEN.out, show e - ((L : Int) + e - 53) = 54 - (L : Int) - 1 by omega, hh2.2, gc.out, show (((L : Int) + e - 53) + 1074).toNat * 2 ^ 52 + Q / 2 = (((L : Int) - 1 + e - 53 + 1 + 1075) * 4503599627370496 + h - 4503599627370496).toNat by rw [GH.out]; omega] at hD
          generalize hr : (((L : Int) - 1 + e - 53 + 1 + 1075) * 4503599627370496 + h - 4503599627370496).toNat = r at hD
          have HD := Lib.hid hD
          have HR := Lib.hid hr
          clear hD hh2 hQb hr
          cases b with
          | true =>
            go_wp2_with fail
            rw [HR.out]
            go_ret2
            exact ⟨r, c1, rfl, HD.out.1, HD.out.2, hbw4⟩
          | false =>
            go_wp2_with fail
            rw [HR.out]
            go_ret2
            exact ⟨r, false, rfl, HD.out.1, HD.out.2, hbw4⟩
end Go.Proofs.Ythddodhcpfponaa

/-! The references' floats (polestarref04): signs, the least exponent, the floats beside. -/
namespace Go.Proofs.Ythddodhcpfponaa
open Go.RowKit

theorem sub_zero_neg {h : Nat} (h0 : 0 < h) (hi : h ≤ Flt.inf) : Ieee.double.sub 0 h = some (2 ^ 63 + h) := by
  have hl : h < 2 ^ 63 := by have := Flt.inf_lt; omega
  have r0 : Flt.rg 0 = 0 := rfl
  have s0 : Flt.sgn 0 = false := rfl
  have rh : Flt.rg h = h := by unfold Flt.rg; omega
  have sh : Flt.sgn h = false := by unfold Flt.sgn; rw [show h / 2 ^ 63 = 0 by omega]; rfl
  have ho : Flt.opp h = 2 ^ 63 + h := by unfold Flt.opp Flt.word; rw [sh, rh]; rfl
  have f0 : Flt.Fin 0 := by unfold Flt.Fin; rw [r0, Flt.inf_eq]; omega
  rw [Flt.sub_eq]
  have r1 : Flt.rg (Flt.opp h) = h := by rw [Flt.rg_opp, rh]
  have s1 : Flt.sgn (Flt.opp h) = true := by rw [Flt.sgn_opp, sh]; rfl
  have hv : 0 < Flt.val h := by have := Flt.le_val h; omega
  by_cases hf : h = Flt.inf
  · rw [Flt.add_inf_right f0 (by rw [r1]; exact hf), s1, hf]; rfl
  · have hsv : Flt.sv 0 + Flt.sv (Flt.opp h) = -(Flt.val h : Int) := by
      unfold Flt.sv; rw [s0, s1, r1, r0, Flt.val_zero]; simp
    rw [Flt.add_exact f0 (by unfold Flt.Fin; rw [r1]; omega) (r := h) (by omega) (by rw [hsv]; omega), hsv, if_neg (by omega)]
    rw [decide_eq_true (by omega)]; rfl

theorem sign_and (s : Nat) (h : s < 2 ^ 64) : bits .and .u64 (s : Int) 9223372036854775808 = (((if Flt.sgn s then 2 ^ 63 else 0 : Nat)) : Int) := by
  have := u64_and_nat s 9223372036854775808 (by omega) (by omega)
  rw [show ((9223372036854775808 : Nat) : Int) = 9223372036854775808 from rfl] at this
  rw [this]
  congr 1
  rw [show 9223372036854775808 = 2 ^ 63 from rfl]
  have hb : Flt.sgn s = Nat.testBit s 63 := by
    unfold Flt.sgn; rw [Nat.testBit_eq_decide_div_mod_eq, Bool.eq_iff_iff]; simp
  rw [hb]
  apply Nat.eq_of_testBit_eq
  intro i
  rw [Nat.testBit_and, Nat.testBit_two_pow]
  by_cases hi : 63 = i
  · subst hi
    cases s.testBit 63
    · rfl
    · rw [if_pos rfl, Nat.testBit_two_pow]; simp
  · cases s.testBit 63
    · simp [hi]
    · rw [if_pos rfl, Nat.testBit_two_pow]; simp [hi]
theorem word_or (t r : Nat) (b : Bool) (ht : t = if b then 2 ^ 63 else 0) (hr : r < 2 ^ 63) : bits .or .u64 (r : Int) (t : Int) = ((Flt.word b r : Nat) : Int) := by
  rw [u64_or_nat r t (by omega) (by subst ht; split <;> omega)]
  congr 1
  subst ht
  unfold Flt.word
  cases b
  · simp
  · simp only [if_true]
    have := Nat.two_pow_add_eq_or_of_lt hr 1
    rw [Nat.mul_one] at this
    rw [Nat.or_comm, this]

set_option maxRecDepth 100000 in
theorem copysign_any (x s : Nat) (hx : x < 2 ^ 64) (hs : s < 2 ^ 64) (w : World) : Calls Try.prog 105 #[.float .f64 x, .float .f64 s] w fun e w' => e = .returned (.float .f64 (Flt.word (Flt.sgn s) (Flt.rg x))) ∧ w = w' := by
  have e1 : bits .andNot .u64 (x : Int) 9223372036854775808 = ((Flt.rg x : Nat) : Int) := by
    have := u64_andNot_nat x 9223372036854775808 (by omega) (by omega)
    rw [show ((9223372036854775808 : Nat) : Int) = 9223372036854775808 from rfl] at this
    rw [this]
    congr 1
    exact Nat.and_two_pow_sub_one_eq_mod x 63
  have e2 := sign_and s hs
  obtain ⟨t, ht⟩ : ∃ t : Nat, t = if Flt.sgn s then 2 ^ 63 else 0 := ⟨_, rfl⟩
  rw [← ht] at e2
  have e3 := word_or t (Flt.rg x) (Flt.sgn s) ht (by unfold Flt.rg; omega)
  clear ht
  generalize hR : Flt.word (Flt.sgn s) (Flt.rg x) = R at e3 ⊢
  have HR := Lib.hid hR
  clear hR
  go_enter Try.func105, Try.ntmps105
  go_wp2
  go_ret
  exact ⟨by rfl, rfl⟩

def RetF (w : World) (r : Nat) (e : Ending) (w' : World) : Prop := e = .returned (.float .f64 r) ∧ w = w'

theorem ref_minus_float (x : Nat) (hx : x < 2 ^ 64) (w : World) : Calls Try.prog 82 #[.float .f64 x] w fun e w' => e = .returned (.float .f64 (2 ^ 63 + Flt.rg x)) ∧ w = w' := by
  go_enter Try.func82, Try.ntmps82
  go_wp2_with (go_at_call 105; refine (copysign_any _ _ hx (by decide) _).mono ?_; rintro e w' ⟨rfl, rfl⟩)
  go_ret
  exact ⟨rfl, rfl⟩

theorem ref_above_any (x : Nat) (hx : x < 2 ^ 63) (w : World) : Calls Try.prog 62 #[.float .f64 x] w fun e w' => e = .returned (.float .f64 (x + 1)) ∧ w = w' := by
  have e1 : IntKind.u64.wrap ((x : Int) + 1) = (x : Int) + 1 := IntWalk.u64_in _ (by omega)
  go_enter Try.func62, Try.ntmps62
  go_wp2
  go_ret
  exact ⟨rfl, rfl⟩

theorem ref_finite_any (x : Nat) (hx : x < 2 ^ 64) (w : World) : Calls Try.prog 37 #[.float .f64 x] w fun e w' => e = .returned (.bool (Flt.finB x)) ∧ w = w' := by
  rw [Flt.finB_eq]
  cases h : Flt.nanB x with
  | true =>
    go_enter Try.func37, Try.ntmps37
    go_wp2_with (first | (go_at_call 64; refine (isNaN_any _ _).mono ?_; rintro e w' ⟨rfl, rfl⟩; rw [h]) | (go_at_call 66; refine (isInf0_any _ hx _).mono ?_; rintro e w' ⟨rfl, rfl⟩))
    go_ret
    exact ⟨rfl, rfl⟩
  | false =>
    go_enter Try.func37, Try.ntmps37
    go_wp2_with (first | (go_at_call 64; refine (isNaN_any _ _).mono ?_; rintro e w' ⟨rfl, rfl⟩; rw [h]) | (go_at_call 66; refine (isInf0_any _ hx _).mono ?_; rintro e w' ⟨rfl, rfl⟩))
    go_ret
    exact ⟨rfl, rfl⟩

theorem ref_sign_of (neg : Bool) (A : Option Addr) (n c : Nat) (z s : Int) (w : World) (h : IsInt w neg A n c z) (hs : Hid (z.sign = s)) :
    Calls Try.prog 43 #[.agg #[.bool neg, .slice A n c]] w (RetV w (.int .i64 s)) := by
  have := ref_sign_any neg A n c z w h
  rwa [hs.out] at this

def lst (x e y f : Int) : Int := if x = 0 then f else if y = 0 then e else if f < e then f else e

set_option maxHeartbeats 800000 in
theorem ref_least_any (neg neg' : Bool) (A A' : Option Addr) (n c n' c' : Nat) (x y e f : Int) (w : World) (hx : IsInt w neg A n c x) (hy : IsInt w neg' A' n' c' y) :
    Calls Try.prog 39 #[.agg #[.bool neg, .slice A n c], .int .i64 e, .agg #[.bool neg', .slice A' n' c'], .int .i64 f] w (RetV w (.int .i64 (lst x e y f))) := by
  have hx2 := (hx.alloc (.cells #[.bool neg, .slice A n c] 32)).alloc (.cells #[.bool neg', .slice A' n' c'] 32)
  have hy2 := (hy.alloc (.cells #[.bool neg, .slice A n c] 32)).alloc (.cells #[.bool neg', .slice A' n' c'] 32)
  obtain ⟨s, hs⟩ : ∃ s, x.sign = s := ⟨_, rfl⟩
  obtain ⟨t, ht⟩ : ∃ t, y.sign = t := ⟨_, rfl⟩
  have hs0 : (s = 0) ↔ x = 0 := by rw [← hs]; exact Int.sign_eq_zero_iff_zero
  have ht0 : (t = 0) ↔ y = 0 := by rw [← ht]; exact Int.sign_eq_zero_iff_zero
  obtain ⟨v, hv⟩ : ∃ v, lst x e y f = v := ⟨_, rfl⟩
  rw [hv]
  have HS := Lib.hid hs
  have HT := Lib.hid ht
  clear hs ht
  by_cases h0 : s = 0
  · have hvf : v = f := by rw [← hv]; unfold lst; rw [if_pos (hs0.1 h0)]
    have HV := Lib.hid hvf
    clear hv hvf hs0 ht0
    go_enter Try.func39, Try.ntmps39
    go_wp2_with (go_at_call 43; refine (ref_sign_of _ _ _ _ _ s _ (by exact hx2) HS).mono ?_; rintro e1 w1 ⟨rfl, hb1⟩)
    go_ret
    exact ⟨by rw [HV.out]; rfl, below_box (below_box hb1)⟩
  · by_cases h1 : t = 0
    · have hvf : v = e := by rw [← hv]; unfold lst; rw [if_neg (fun h => h0 (hs0.2 h)), if_pos (ht0.1 h1)]
      have HV := Lib.hid hvf
      clear hv hvf hs0 ht0
      go_enter Try.func39, Try.ntmps39
      go_wp2_with fail
      refine (ref_sign_of _ _ _ _ _ s _ (by exact hx2) HS).mono ?_
      rintro e1 w1 ⟨rfl, hb1⟩
      obtain ⟨hc1, hf1⟩ := bcell hb1
      have k0 := hc1 (w.heap.size + 1) 0 (by simp <;> omega)
      have k1 := hc1 (w.heap.size + 1) 1 (by simp <;> omega)
      have hy3 := hy2.below hb1
      go_wp2_with fail
      refine (ref_sign_of _ _ _ _ _ t _ (by exact hy3) HT).mono ?_
      rintro e2 w2 ⟨rfl, hb2⟩
      go_wp2_with fail
      go_ret
      exact ⟨by rw [HV.out]; rfl, below_next (below_box (below_box hb1)) hb2⟩
    · have hvf : v = if f < e then f else e := by rw [← hv]; unfold lst; rw [if_neg (fun h => h0 (hs0.2 h)), if_neg (fun h => h1 (ht0.2 h))]
      have HV := Lib.hid hvf
      clear hv hvf hs0 ht0
      go_enter Try.func39, Try.ntmps39
      go_wp2_with fail
      refine (ref_sign_of _ _ _ _ _ s _ (by exact hx2) HS).mono ?_
      rintro e1 w1 ⟨rfl, hb1⟩
      obtain ⟨hc1, hf1⟩ := bcell hb1
      have k0 := hc1 (w.heap.size + 1) 0 (by simp <;> omega)
      have k1 := hc1 (w.heap.size + 1) 1 (by simp <;> omega)
      have hy3 := hy2.below hb1
      go_wp2_with fail
      refine (ref_sign_of _ _ _ _ _ t _ (by exact hy3) HT).mono ?_
      rintro e2 w2 ⟨rfl, hb2⟩
      go_wp2_with fail
      all_goals go_ret
      · exact ⟨by rw [HV.out, if_pos (by omega)]; rfl, below_next (below_box (below_box hb1)) hb2⟩
      · exact ⟨by rw [HV.out, if_neg (by omega)]; rfl, below_next (below_box (below_box hb1)) hb2⟩

def hiR (num den r : Nat) : Nat := if Flt.val r * den = num then r else r + 1
def RetBeside (W : World) (s : Bool) (num den : Nat) (e : Ending) (w' : World) : Prop :=
  ∃ r, e = .returned (.tuple #[.float .f64 (if s then 2 ^ 63 + hiR num den r else r), .float .f64 (if s then 2 ^ 63 + r else hiR num den r)]) ∧ Flt.Dn num den r ∧ Below W.heap.size W w'

set_option maxHeartbeats 1600000 in
theorem ref_beside_of (neg negq : Bool) (A Aq : Option Addr) (n c nq cq : Nat) (z q e : Int) (num den : Nat) (w : World) (hp : IsInt w neg A n c z) (hq : IsInt w negq Aq nq cq q) (hn : n ≤ 1000000)
    (hU : ∀ (W : World) (neg' : Bool) (A' : Option Addr) (n' c' : Nat), IsInt W neg' A' n' c' (z.natAbs : Nat) → IsInt W negq Aq nq cq q →
      Calls Try.prog 61 #[.agg #[.bool neg', .slice A' n' c'], .agg #[.bool negq, .slice Aq nq cq], .int .i64 e] W (RetUnder W num den)) (hnum : z ≠ 0 → 0 < num) :
    Calls Try.prog 44 #[.agg #[.bool neg, .slice A n c], .agg #[.bool negq, .slice Aq nq cq], .int .i64 e] w (RetBeside w (decide (z < 0)) num den) := by
  have HU := Lib.hid hU
  clear hU
  have hp2 := (hp.alloc (.cells #[.bool neg, .slice A n c] 32)).alloc (.cells #[.bool negq, .slice Aq nq cq] 32)
  have hq2 := (hq.alloc (.cells #[.bool neg, .slice A n c] 32)).alloc (.cells #[.bool negq, .slice Aq nq cq] 32)
  obtain ⟨s, hs⟩ : ∃ s, z.sign = s := ⟨_, rfl⟩
  have hs0 : s < 0 ↔ z < 0 := by rw [← hs]; exact Int.sign_neg_iff
  have HS := Lib.hid hs
  clear hs
  go_enter Try.func44, Try.ntmps44
  go_wp2_with fail
  go_region_held3 (fun w' => w'.cell? ⟨w.heap.size, 0, none⟩ = some (.bool neg) ∧ w'.cell? ⟨w.heap.size, 1, none⟩ = some (.slice A n c) ∧ w'.cell? ⟨w.heap.size + 1, 0, none⟩ = some (.bool negq) ∧ w'.cell? ⟨w.heap.size + 1, 1, none⟩ = some (.slice Aq nq cq))
    (go_keep)
    (first | (go_at_call 58; (with_reducible refine (ref_size_any _ A _ _ z _ ?_ ?_).mono ?_); exact hp2.drewN 1; omega; rintro e1 w1 ⟨neg1, A1, n1, c1, rfl, hI1, hb1⟩; obtain ⟨hc1, hf1⟩ := bcell hb1; have a0 := hc1 (w.heap.size) 0 (by simp <;> omega); have a1 := hc1 (w.heap.size) 1 (by simp <;> omega); have a2 := hc1 (w.heap.size + 1) 0 (by simp <;> omega); have a3 := hc1 (w.heap.size + 1) 1 (by simp <;> omega); have hz1 : w.heap.size + 1 < w1.heap.size := (by have := hb1.size; simp at this; omega); have hq3 := (hq2.drewN 1).below hb1; have hp3 := (hp2.drewN 1).below hb1; have hbw1 : Below w.heap.size w w1 := below_box (below_box (below_of_drew hb1))) | (go_at_call 61; refine (HU.out _ _ _ _ _ hI1 hq3).mono ?_; rintro e2 w2 ⟨r, b, rfl, hD, hbD, hb2⟩; obtain ⟨hc2, hf2⟩ := bcell hb2; have b0 := hc2 (w.heap.size) 0 (by omega); have b1 := hc2 (w.heap.size) 1 (by omega); have b2 := hc2 (w.heap.size + 1) 0 (by omega); have b3 := hc2 (w.heap.size + 1) 1 (by omega); have hz2 : w.heap.size + 1 < w2.heap.size := (by have := hb2.size; omega); have hp4 := hp3.below hb2; have hbw2 := below_next hbw1 hb2))
  have y0 : w2.cell? ⟨w.heap.size, 0, none⟩ = some (.bool neg) := b0.trans (a0.trans (by simp [go_sem]))
  have y1 : w2.cell? ⟨w.heap.size, 1, none⟩ = some (.slice A n c) := b1.trans (a1.trans (by simp [go_sem]))
  clear a0 a1 a2 a3 b0 b1 b2 b3 hc1 hf1 hc2 hf2 hb1 hb2
  have hr : r < Flt.inf := hD.1
  have hr63 : r < 2 ^ 63 := by have := Flt.inf_lt; omega
  have hr64 : r < 2 ^ 64 := by omega
  obtain ⟨h, hh⟩ : ∃ h, h = hiR num den r := ⟨_, rfl⟩
  have hsub : z < 0 → Ieee.double.sub 0 h = some (2 ^ 63 + h) := by
    intro hz
    have hn0 := hnum (by omega)
    apply sub_zero_neg
    · rw [hh]; unfold hiR; split
      · rename_i hx
        rcases Nat.eq_zero_or_pos r with rfl | h0
        · rw [Flt.val_zero] at hx; omega
        · exact h0
      · omega
    · rw [hh]; unfold hiR; split <;> omega
  have hrg : Flt.rg r = r := by unfold Flt.rg; omega
  obtain ⟨b, hb⟩ : ∃ b, b = decide (Flt.val r * den = num) := ⟨_, rfl⟩
  rw [← hb]
  have HB := Lib.hid hb
  have HH := Lib.hid hh
  have HD := Lib.hid hD
  have HR := Lib.hid hrg
  clear hb hh hD hrg hr hnum
  by_cases hz : z < 0
  · have hs1 : s < 0 := hs0.2 hz
    have HSUB := hsub hz
    have HZ : Hid (decide (z < 0) = true) := Lib.hid (decide_eq_true hz)
    rw [HZ.out]
    clear hsub hs0 hz
    cases b with
    | true =>
      have hhr : h = r := by rw [HH.out]; unfold hiR; rw [if_pos (of_decide_eq_true HB.out.symm)]
      rw [hhr] at HSUB
      have HHR := Lib.hid hhr
      have hrun : ∀ W : World, (binOp .sub 22 (.float .f64 0) (.float .f64 r)).run Try.prog W = .ok (.float .f64 (2 ^ 63 + r)) W := fun W => run_float_arith W .sub _ .f64 0 r _ HSUB
      clear hhr
      go_wp2_with (first | (go_at_call 43; refine (ref_sign_of _ _ _ _ _ s _ hp4 HS).mono ?_; rintro e3 w3 ⟨rfl, hb3⟩) | (go_at_call 82; refine (ref_minus_float _ hr64 _).mono ?_; rintro e4 w4 ⟨rfl, rfl⟩))
      go_ret2
      exact ⟨r, by rw [HZ.out, ← HH.out, HHR.out, HR.out]; rfl, HD.out, below_next hbw2 hb3⟩
    | false =>
      have hhr : h = r + 1 := by rw [HH.out]; unfold hiR; rw [if_neg (of_decide_eq_false HB.out.symm)]
      rw [hhr] at HSUB
      have HHR := Lib.hid hhr
      have hrun : ∀ W : World, (binOp .sub 22 (.float .f64 0) (.float .f64 (r + 1))).run Try.prog W = .ok (.float .f64 (2 ^ 63 + (r + 1))) W := fun W => run_float_arith W .sub _ .f64 0 (r + 1) _ HSUB
      clear hhr
      go_wp2_with (first | (go_at_call 62; refine (ref_above_any _ hr63 _).mono ?_; rintro e4 w4 ⟨rfl, rfl⟩) | (go_at_call 43; refine (ref_sign_of _ _ _ _ _ s _ hp4 HS).mono ?_; rintro e3 w3 ⟨rfl, hb3⟩) | (go_at_call 82; refine (ref_minus_float _ hr64 _).mono ?_; rintro e4 w4 ⟨rfl, rfl⟩))
      go_ret2
      exact ⟨r, by rw [HZ.out, ← HH.out, HHR.out, HR.out]; rfl, HD.out, below_next hbw2 hb3⟩
  · have hs1 : ¬ s < 0 := fun h => hz (hs0.1 h)
    have HZ : Hid (decide (z < 0) = false) := Lib.hid (decide_eq_false hz)
    rw [HZ.out]
    clear hsub hs0 hz
    cases b with
    | true =>
      have hhr : h = r := by rw [HH.out]; unfold hiR; rw [if_pos (of_decide_eq_true HB.out.symm)]
      have HHR := Lib.hid hhr
      clear hhr
      go_wp2_with (first | (go_at_call 43; refine (ref_sign_of _ _ _ _ _ s _ hp4 HS).mono ?_; rintro e3 w3 ⟨rfl, hb3⟩) | (go_at_call 82; refine (ref_minus_float _ hr64 _).mono ?_; rintro e4 w4 ⟨rfl, rfl⟩))
      go_ret2
      exact ⟨r, by rw [HZ.out, ← HH.out, HHR.out]; rfl, HD.out, below_next hbw2 hb3⟩
    | false =>
      have hhr : h = r + 1 := by rw [HH.out]; unfold hiR; rw [if_neg (of_decide_eq_false HB.out.symm)]
      have HHR := Lib.hid hhr
      clear hhr
      go_wp2_with (first | (go_at_call 62; refine (ref_above_any _ hr63 _).mono ?_; rintro e4 w4 ⟨rfl, rfl⟩) | (go_at_call 43; refine (ref_sign_of _ _ _ _ _ s _ hp4 HS).mono ?_; rintro e3 w3 ⟨rfl, hb3⟩) | (go_at_call 82; refine (ref_minus_float _ hr64 _).mono ?_; rintro e4 w4 ⟨rfl, rfl⟩))
      go_ret2
      exact ⟨r, by rw [HZ.out, ← HH.out, HHR.out]; rfl, HD.out, below_next hbw2 hb3⟩
end Go.Proofs.Ythddodhcpfponaa

/-! The references' floats (polestarref04): the sum and what it has lost. -/
namespace Go.Proofs.Ythddodhcpfponaa
open Go.RowKit

/-- What an addition has lost is a float. -/
theorem lost_rep {x y s : Nat} (hs : Ieee.double.add x y = some s) (hsf : Flt.Fin s) : ∃ r, r < Flt.inf ∧ Flt.val r = (Flt.sv x + Flt.sv y - Flt.sv s).natAbs := by
  obtain ⟨fx, fy⟩ := Flt.add_some_fin hs hsf
  obtain ⟨z, hz, rs, hzw, hn⟩ := Flt.add_fin fx fy
  rw [hs] at hz
  injection hz with hz
  subst hz
  have hrs : rs < Flt.inf := by
    unfold Flt.Fin at hsf; rw [hzw, Flt.rg_word _ _ (Flt.near_lt hn)] at hsf; exact hsf
  have hz0 : Flt.sv x + Flt.sv y = 0 → rs = 0 := by
    intro h
    rw [h] at hn
    exact Flt.near_eq hn (by omega) Flt.val_zero
  have hsv : Flt.sv s = if Flt.sv x + Flt.sv y < 0 then -(Flt.val rs : Int) else Flt.val rs := by rw [hzw, Flt.sv_sign (Flt.near_lt hn) hz0]
  have hS0 : Flt.sv x + Flt.sv y = 0 → Flt.sv s = 0 := by
    intro h
    rw [hsv, hz0 h, Flt.val_zero]; split <;> rfl
  have hSp : 0 < Flt.sv x + Flt.sv y → 0 ≤ Flt.sv s := by
    intro h
    rw [hsv, if_neg (by omega)]; omega
  have hSn : Flt.sv x + Flt.sv y < 0 → Flt.sv s ≤ 0 := by
    intro h
    rw [hsv, if_pos h]; omega
  have hSa : (Flt.sv s).natAbs = Flt.val rs := by rw [hsv]; split <;> omega
  have hxa : (Flt.sv x).natAbs = Flt.val (Flt.rg x) := by unfold Flt.sv; split <;> omega
  have hya : (Flt.sv y).natAbs = Flt.val (Flt.rg y) := by unfold Flt.sv; split <;> omega
  rcases Nat.le_total (Flt.rg y) (Flt.rg x) with hle | hle
  · obtain ⟨_, ⟨r, hr⟩, hb⟩ := Flt.fast_two hxa hya hSa hle hrs hn hS0 hSp hSn
    refine ⟨r, ?_, hr⟩
    apply Flt.lt_of_val
    rw [hr]
    exact Nat.lt_of_le_of_lt hb (by rw [hya]; exact Flt.val_lt fy)
  · obtain ⟨_, ⟨r, hr⟩, hb⟩ := Flt.fast_two hya hxa hSa hle hrs (by rw [Int.add_comm]; exact hn) (by rw [Int.add_comm]; exact hS0) (by rw [Int.add_comm]; exact hSp) (by rw [Int.add_comm]; exact hSn)
    rw [Int.add_comm (Flt.sv y)] at hr hb
    refine ⟨r, ?_, hr⟩
    apply Flt.lt_of_val
    rw [hr]
    exact Nat.lt_of_le_of_lt hb (by rw [hxa]; exact Flt.val_lt fx)

theorem dn_exact {num r r0 : Nat} (h : Flt.Dn num 1 r) (h0 : r0 < Flt.inf) (hv : Flt.val r0 = num) : r = r0 ∧ hiR num 1 r = r0 := by
  have hd : Flt.Dn num 1 r0 := ⟨h0, by omega, fun _ => by have := Flt.val_lt (show r0 < r0 + 1 by omega); omega⟩
  have e := h.unique hd
  subst e
  exact ⟨rfl, by unfold hiR; rw [if_pos (by omega)]⟩

/-- What is told of a sum, from the exact rest. -/
theorem two_of {x y s : Nat} (hA : Flt.IsAdd x y s) (hsf : Flt.Fin s) {z : Int} {k r : Nat} (hz : z * ((2 ^ k : Nat) : Int) = Flt.sv x + Flt.sv y - Flt.sv s) (hz0 : z ≠ 0)
    (hd : Flt.Dn (z.natAbs * 2 ^ k) 1 r) : Flt.IsTwo x y s (if z < 0 then 2 ^ 63 + hiR (z.natAbs * 2 ^ k) 1 r else r) := by
  obtain ⟨h1, h2⟩ := hA
  have hs : Ieee.double.add x y = some s := by
    cases h : Ieee.double.add x y with
    | some t => rw [h] at h2; exact congrArg some h2.symm
    | none => rw [h] at h2; exact absurd hsf (Flt.not_fin_nan h2)
  obtain ⟨r0, hr0, hv⟩ := lost_rep hs hsf
  rw [← hz, Int.natAbs_mul, Int.natAbs_natCast] at hv
  obtain ⟨e1, e2⟩ := dn_exact hd hr0 hv
  rw [e2, e1]
  have hl : r0 < 2 ^ 63 := by have := Flt.inf_lt; omega
  have hp : (0 : Int) < ((2 ^ k : Nat) : Int) := by exact_mod_cast Nat.two_pow_pos k
  have hne : Flt.sv x + Flt.sv y - Flt.sv s ≠ 0 := by rw [← hz]; exact Int.mul_ne_zero hz0 (by omega)
  have hw : (if z < 0 then 2 ^ 63 + r0 else r0) = Flt.word (decide (z < 0)) r0 := by unfold Flt.word; simp
  rw [hw]
  have hsv : Flt.sv (Flt.word (decide (z < 0)) r0) = Flt.sv x + Flt.sv y - Flt.sv s := by
    rw [Flt.sv_word hl, hv, ← hz]
    by_cases h0 : z < 0
    · simp only [h0, decide_true, if_true]
      rw [Int.natCast_mul, show ((z.natAbs : Nat) : Int) = -z by omega, Int.neg_mul, Int.neg_neg]
    · simp only [h0, decide_false]
      rw [if_neg (by simp), Int.natCast_mul, show ((z.natAbs : Nat) : Int) = z by omega]
  refine ⟨⟨h1, h2⟩, Flt.word_lt _ hl, fun _ => ⟨?_, hsv, fun h => absurd (hsv.symm.trans h) hne⟩, fun h => absurd hsf h⟩
  unfold Flt.Fin; rw [Flt.rg_word _ _ hl]; exact hr0
theorem two_zero {x y s : Nat} (hA : Flt.IsAdd x y s) (h : Flt.Fin s → Flt.sv x + Flt.sv y - Flt.sv s = 0) : Flt.IsTwo x y s 0 := by
  refine ⟨hA, by decide, fun hs => ⟨by unfold Flt.Fin Flt.rg; rw [Flt.inf_eq]; omega, ?_, fun _ => rfl⟩, fun _ => rfl⟩
  rw [h hs]
  unfold Flt.sv Flt.rg
  rw [show 0 % 2 ^ 63 = 0 from rfl, Flt.val_zero]; split <;> rfl

/-- A whole number put into a box of its own. -/
structure Boxed (w w' : World) (neg : Bool) (A : Option Addr) (n c : Nat) : Prop where
  size : w'.heap.size = w.heap.size + 1
  cell0 : w'.cell? ⟨w.heap.size, 0, none⟩ = some (.bool neg)
  cell1 : w'.cell? ⟨w.heap.size, 1, none⟩ = some (.slice A n c)
  below : Below w.heap.size w w'
theorem boxed (w : World) (neg : Bool) (A : Option Addr) (n c : Nat) (t : TypeId) (b0 : Bool) :
    Boxed w (((w.alloc (.cells #[.bool b0, .slice none 0 0] t)).setCell ⟨w.heap.size, 0, none⟩ (.bool neg)).setCell ⟨w.heap.size, 1, none⟩ (.slice A n c)) neg A n c := by
  have hb : Below w.heap.size w (w.alloc (.cells #[.bool b0, .slice none 0 0] t)) := (Below.refl _ _).alloc (Nat.le_refl _) _
  refine ⟨by simp, by simp [go_sem], by simp [go_sem], below_result hb (Nat.le_refl _) _ _⟩

theorem cell_alloc {w : World} (o : Obj) {g : Nat} {k : Nat} (v : Value) (hg : g < w.heap.size) (h : w.cell? ⟨g, k, none⟩ = some v) : (w.alloc o).cell? ⟨g, k, none⟩ = some v := by
  rw [(bcell ((Below.refl w.heap.size w).alloc (Nat.le_refl _) o)).1 g k hg]; exact h
theorem ref_least_of (neg neg' : Bool) (A A' : Option Addr) (n c n' c' : Nat) (x y e f v : Int) (w : World) (hx : IsInt w neg A n c x) (hy : IsInt w neg' A' n' c' y) (hv : Hid (lst x e y f = v)) :
    Calls Try.prog 39 #[.agg #[.bool neg, .slice A n c], .int .i64 e, .agg #[.bool neg', .slice A' n' c'], .int .i64 f] w (RetV w (.int .i64 v)) := by
  have := ref_least_any neg neg' A A' n c n' c' x y e f w hx hy
  rwa [hv.out] at this
theorem p2 (k : Nat) : (2 : Int) ^ k = ((2 ^ k : Nat) : Int) := by rw [Int.natCast_pow]; rfl
theorem lst_ge {x y e f : Int} : (x = 0 ∨ lst x e y f ≤ e) ∧ (y = 0 ∨ lst x e y f ≤ f) ∧ (lst x e y f = e ∨ lst x e y f = f) := by
  unfold lst
  split
  · exact ⟨.inl ‹_›, .inr (Int.le_refl _), .inr rfl⟩
  · split
    · exact ⟨.inr (Int.le_refl _), .inl ‹_›, .inl rfl⟩
    · split <;> omega
theorem least_facts {z1 z2 z3 g1 g2 g3 L : Int} (b1 : -1074 ≤ g1 ∧ g1 ≤ 972) (b2 : -1074 ≤ g2 ∧ g2 ≤ 972) (b3 : -1074 ≤ g3 ∧ g3 ≤ 972)
    (hL : (if lst z1 g1 z3 g3 < lst z1 g1 z2 g2 then lst z1 g1 z3 g3 else lst z1 g1 z2 g2) = L) :
    (z1 = 0 ∨ 0 ≤ g1 - L) ∧ (z2 = 0 ∨ 0 ≤ g2 - L) ∧ (z3 = 0 ∨ 0 ≤ g3 - L) ∧ -1074 ≤ L ∧ L ≤ 972 := by
  obtain ⟨a1, a2, a3⟩ := @lst_ge z1 z2 g1 g2
  obtain ⟨c1, c2, c3⟩ := @lst_ge z1 z3 g1 g3
  generalize lst z1 g1 z2 g2 = u at *
  generalize lst z1 g1 z3 g3 = v at *
  split at hL <;> omega
theorem shifted {z g L v S : Int} {E : Nat} (hg : (E : Int) - 1074 = g) (hz : z * ((2 ^ E : Nat) : Int) = S) (h : z = 0 ∨ 0 ≤ g - L) (hL : -1074 ≤ L) (hv : v = z * 2 ^ (g - L).toNat) :
    v * ((2 ^ (L + 1074).toNat : Nat) : Int) = S := by
  rcases h with rfl | h
  · rw [hv, ← hz]; simp
  · rw [hv, ← hz, Int.mul_assoc, p2, ← Int.natCast_mul, ← Nat.pow_add]
    congr 3
    omega
theorem shift_small {z v : Int} {k K : Nat} (hz : z.natAbs < 2 ^ 53) (hk : k ≤ K) (hv : v = z * 2 ^ k) : v.natAbs < 2 ^ (53 + K) := by
  rw [hv, Int.natAbs_mul, p2, Int.natAbs_natCast, Nat.pow_add]
  exact Nat.lt_of_lt_of_le (Nat.mul_lt_mul_of_pos_right hz (Nat.two_pow_pos _)) (Nat.mul_le_mul_left _ (Nat.pow_le_pow_right (by decide) hk))
theorem len_below {w : World} {neg : Bool} {A : Option Addr} {n c : Nat} {z : Int} (h : IsInt w neg A n c z) {k m : Nat} (hk : k ≤ 32 * m) (hz : z.natAbs < 2 ^ k) : n ≤ m :=
  isInt_len_le h (Nat.lt_of_lt_of_le hz (by rw [show Lm.B = 2 ^ 32 from rfl, ← Nat.pow_mul]; exact Nat.pow_le_pow_right (by decide) hk))
theorem len_small {w : World} {neg : Bool} {A : Option Addr} {n c : Nat} {z : Int} (h : IsInt w neg A n c z) {k : Nat} (hk : k ≤ 3200) (hz : z.natAbs < 2 ^ k) : n ≤ 100 :=
  len_below h (m := 100) (by omega) hz
theorem sum3_small {a b c : Int} {K : Nat} (ha : a.natAbs < 2 ^ K) (hb : b.natAbs < 2 ^ K) (hc : c.natAbs < 2 ^ K) : (a + b).natAbs < 2 ^ (K + 1) ∧ (a + b - c).natAbs < 2 ^ (K + 2) := by
  have e1 : 2 ^ (K + 1) = 2 ^ K * 2 := by rw [Nat.pow_succ]
  have e2 : 2 ^ (K + 2) = 2 ^ (K + 1) * 2 := by rw [Nat.pow_succ]
  rw [e2, e1]
  generalize 2 ^ K = M at *
  omega

theorem ref_double_int (neg : Bool) (A : Option Addr) (n c : Nat) (x s v : Int) (w : World) (hx : IsInt w neg A n c x) (hn : n ≤ 100000000) (hs : x = 0 ∨ 0 ≤ s) (hs2 : s ≤ 1000000000) (hs3 : -1000000000 ≤ s) (hv : Hid (v = x * 2 ^ s.toNat)) :
    Calls Try.prog 42 #[.agg #[.bool neg, .slice A n c], .int .i64 s] w (RetInt w v) := by
  rw [hv.out]
  by_cases h : 0 ≤ s
  · have := ref_double_any neg A n c s.toNat x w hx hn (by omega)
    rwa [Int.toNat_of_nonneg h] at this
  · have hx0 : x = 0 := by omega
    have h0 := (isInt_zero hx).2 hx0
    subst hx0
    rw [Int.zero_mul]
    subst h0
    clear hv h hs
    go_enter Try.func42, Try.ntmps42
    go_wp2
    exact bodyPost_ret (v := .agg #[.bool false, .slice none 0 0]) (by simp [results, Try.results42, go_sem]) rfl
      ⟨false, none, 0, 0, rfl, isInt_nought, ((Below.refl _ _).alloc (Nat.le_refl _) _).alloc (by simp) _⟩

theorem ref_beside_int (neg negq : Bool) (A Aq : Option Addr) (n c nq cq : Nat) (z e : Int) (num : Nat) (w : World) (hp : IsInt w neg A n c z) (hq : IsInt w negq Aq nq cq 1) (hn : n ≤ 1000000) (he : -1074 ≤ e ∧ e ≤ 1000000) (hnum : Hid (z.natAbs * 2 ^ (e + 1074).toNat = num)) :
    Calls Try.prog 44 #[.agg #[.bool neg, .slice A n c], .agg #[.bool negq, .slice Aq nq cq], .int .i64 e] w (RetBeside w (decide (z < 0)) num 1) := by
  refine ref_beside_of neg negq A Aq n c nq cq z 1 e num 1 w hp hq hn (fun W neg' A' n' c' hI hq => ?_) (fun hz => ?_)
  · have hn' : n' ≤ n := isInt_len_mono hI hp (by rw [Int.natAbs_natCast]; exact Nat.le_refl _)
    have hneg : neg' = false := by
      obtain ⟨l, _, hcl, h3, h4⟩ := hI
      cases neg' with
      | false => rfl
      | true =>
        unfold sgnd at h4
        have : Lm.lv l = 0 := by simp at h4; omega
        have hl : l = [] := by
          cases l with
          | nil => rfl
          | cons a t =>
            have h5 := Lm.lv_pos hcl (by simp)
            have h6 : 0 < Lm.B ^ ((a :: t).length - 1) := Nat.pow_pos (by decide)
            omega
        exact h3 hl
    subst hneg
    have := ref_under_one negq A' Aq n' c' nq cq z.natAbs e W hI hq (by omega) (by omega)
    rw [hnum.out, show (-(e + 1074)).toNat = 0 by omega] at this
    exact this
  · rw [← hnum.out]
    exact Nat.mul_pos (by omega) (Nat.two_pow_pos _)

def RetBeside2 (W : World) (z : Int) (num : Nat) (e : Ending) (w' : World) : Prop :=
  ∃ p q, e = .returned (.tuple #[.float .f64 p, .float .f64 q]) ∧ Hid (∃ r, Flt.Dn num 1 r ∧ p = if z < 0 then 2 ^ 63 + hiR num 1 r else r) ∧ Below W.heap.size W w'
theorem ref_beside_two (neg negq : Bool) (A Aq : Option Addr) (n c nq cq : Nat) (z e : Int) (num : Nat) (w : World) (hp : IsInt w neg A n c z) (hq : IsInt w negq Aq nq cq 1) (hn : n ≤ 1000000) (he : -1074 ≤ e ∧ e ≤ 1000000) (hnum : Hid (z.natAbs * 2 ^ (e + 1074).toNat = num)) :
    Calls Try.prog 44 #[.agg #[.bool neg, .slice A n c], .agg #[.bool negq, .slice Aq nq cq], .int .i64 e] w (RetBeside2 w z num) := by
  refine (ref_beside_int neg negq A Aq n c nq cq z e num w hp hq hn he hnum).mono ?_
  rintro _ w' ⟨r, rfl, hd, hb⟩
  exact ⟨_, _, rfl, Lib.hid ⟨r, hd, by by_cases h : z < 0 <;> simp [h]⟩, hb⟩
def RetTwo4 (W : World) (x y : Nat) (e : Ending) (w' : World) : Prop :=
  ∃ s l, e = .returned (.tuple #[.float .f64 s, .float .f64 l]) ∧ Flt.IsTwo x y s l ∧ Below W.heap.size W w'

theorem upon_fadd {P : Program} {w : World} {o : Oper} {a : Act} {next : Act → World → Prop} {Q : Exit → Act → World → Prop} {t : TypeId} {x y : Nat}
    (hK : ∀ z n, IsOp Ieee.double.add x y z → next (a.put o.dst (.float .f64 z)) (w.drewN n)) :
    o.upon P a next Q (((binOp .add t (.float .f64 x) (.float .f64 y)).run P w).andThen fun v w' => .ok (.value v) w') := by
  obtain ⟨z, n, hrun, hz⟩ := run_fop (P := P) w .add Ieee.double.add (.inl ⟨rfl, rfl⟩) t x y
  rw [hrun]
  exact hK z n hz

set_option maxRecDepth 100000 in
set_option maxHeartbeats 1600000 in
theorem ref_two_any (x y : Nat) (hx : x < 2 ^ 64) (hy : y < 2 ^ 64) (w : World) : Calls Try.prog 11 #[.float .f64 x, .float .f64 y] w (RetTwo4 w x y) := by
  go_enter Try.func11, Try.ntmps11
  go_wp2_with fail
  refine upon_fadd ?_
  intro s d hs
  have hs64 : s < 2 ^ 64 := hs.1
  have HA := Lib.hid hs
  clear hs
  cases hf : Flt.finB s with
  | false =>
    go_wp2_with (go_at_call 37; refine (ref_finite_any _ hs64 _).mono ?_; rintro e1 w1 ⟨rfl, rfl⟩; rw [hf])
    go_ret2
    exact ⟨_, _, rfl, two_zero HA.out (fun h => absurd h (Flt.finB_false.1 hf)), below_drewN (Below.refl _ _) _⟩
  | true =>
    have hsf : Hid (Flt.Fin s) := Lib.hid (Flt.finB_iff.1 hf)
    go_wp2_with (go_at_call 37; refine (ref_finite_any _ hs64 _).mono ?_; rintro e1 w1 ⟨rfl, rfl⟩; rw [hf])
    refine (ref_worth_any x hx _).mono ?_
    rintro e1 w1 ⟨neg1, A1, n1, c1, z1, E1, rfl, hI1, hE1, hz1, hw1, hb1⟩
    go_wp2_with fail
    have hi1 := hI1.alloc (.cells #[.bool neg1, .slice A1 n1 c1] 32)
    have hbw1 : Below w.heap.size w w1 := below_of_drewN (k := d) hb1
    refine (ref_worth_any y hy _).mono ?_
    rintro e2 w2 ⟨neg2, A2, n2, c2, z2, E2, rfl, hI2, hE2, hz2, hw2, hb2⟩
    have hbw2 := below_next hbw1 (below_box hb2)
    replace hi1 := hi1.below hb2
    obtain ⟨hc2, hf2⟩ := bcell hb2
    have k0 := hc2 w1.heap.size 0 (by simp)
    have k1 := hc2 w1.heap.size 1 (by simp)
    have s12 : w1.heap.size < w2.heap.size := by have := hb2.size; simp at this; omega
    have j0 : w2.cell? ⟨w1.heap.size, 0, none⟩ = some (.bool neg1) := k0.trans (by simp [go_sem])
    have j1 : w2.cell? ⟨w1.heap.size, 1, none⟩ = some (.slice A1 n1 c1) := k1.trans (by simp [go_sem])
    clear k0 k1 hc2 hf2 hb1 hb2 hbw1
    go_wp2_with fail
    replace hi1 := hi1.alloc (.cells #[.bool neg2, .slice A2 n2 c2] 32)
    have hi2 := hI2.alloc (.cells #[.bool neg2, .slice A2 n2 c2] 32)
    refine (ref_worth_any s hs64 _).mono ?_
    rintro e3 w3 ⟨neg3, A3, n3, c3, z3, E3, rfl, hI3, hE3, hz3, hw3, hb3⟩
    have hbw3 := below_next hbw2 (below_box hb3)
    replace hi1 := hi1.below hb3
    replace hi2 := hi2.below hb3
    obtain ⟨hc3, hf3⟩ := bcell hb3
    have k0 := hc3 w1.heap.size 0 (by simp <;> omega)
    have k1 := hc3 w1.heap.size 1 (by simp <;> omega)
    have k2 := hc3 w2.heap.size 0 (by simp)
    have k3 := hc3 w2.heap.size 1 (by simp)
    have s23 : w2.heap.size < w3.heap.size := by have := hb3.size; simp at this; omega
    have j2 : w3.cell? ⟨w1.heap.size, 0, none⟩ = some (.bool neg1) := k0.trans (cell_alloc _ _ (by omega) j0)
    have j3 : w3.cell? ⟨w1.heap.size, 1, none⟩ = some (.slice A1 n1 c1) := k1.trans (cell_alloc _ _ (by omega) j1)
    have j4 : w3.cell? ⟨w2.heap.size, 0, none⟩ = some (.bool neg2) := k2.trans (by simp [go_sem])
    have j5 : w3.cell? ⟨w2.heap.size, 1, none⟩ = some (.slice A2 n2 c2) := k3.trans (by simp [go_sem])
    clear k0 k1 k2 k3 hc3 hf3 hb3 hbw2 j0 j1
    go_wp2_with fail
    obtain ⟨w4, hw4⟩ : ∃ w4, w3.alloc (.cells #[.bool neg3, .slice A3 n3 c3] 32) = w4 := ⟨_, rfl⟩
    have l1 : IsInt w4 neg1 A1 n1 c1 z1 := by rw [← hw4]; exact hi1.alloc _
    have l2 : IsInt w4 neg2 A2 n2 c2 z2 := by rw [← hw4]; exact hi2.alloc _
    have l3 : IsInt w4 neg3 A3 n3 c3 z3 := by rw [← hw4]; exact hI3.alloc _
    have m0 : w4.cell? ⟨w1.heap.size, 0, none⟩ = some (.bool neg1) := by rw [← hw4]; exact cell_alloc _ _ (by omega) j2
    have m1 : w4.cell? ⟨w1.heap.size, 1, none⟩ = some (.slice A1 n1 c1) := by rw [← hw4]; exact cell_alloc _ _ (by omega) j3
    have m2 : w4.cell? ⟨w2.heap.size, 0, none⟩ = some (.bool neg2) := by rw [← hw4]; exact cell_alloc _ _ (by omega) j4
    have m3 : w4.cell? ⟨w2.heap.size, 1, none⟩ = some (.slice A2 n2 c2) := by rw [← hw4]; exact cell_alloc _ _ (by omega) j5
    have m4 : w4.cell? ⟨w3.heap.size, 0, none⟩ = some (.bool neg3) := by rw [← hw4]; simp [go_sem]
    have m5 : w4.cell? ⟨w3.heap.size, 1, none⟩ = some (.slice A3 n3 c3) := by rw [← hw4]; simp [go_sem]
    have s4 : w3.heap.size < w4.heap.size := by rw [← hw4]; simp
    have hbw4 : Below w.heap.size w w4 := by rw [← hw4]; exact hbw3.alloc hbw3.size _
    rw [hw4]
    clear hw4 j2 j3 j4 j5 hi1 hi2 hbw3
    obtain ⟨g1, hg1⟩ : ∃ g : Int, (E1 : Int) - 1074 = g := ⟨_, rfl⟩
    obtain ⟨g2, hg2⟩ : ∃ g : Int, (E2 : Int) - 1074 = g := ⟨_, rfl⟩
    obtain ⟨g3, hg3⟩ : ∃ g : Int, (E3 : Int) - 1074 = g := ⟨_, rfl⟩
    rw [hg1, hg2, hg3]
    obtain ⟨v1, hv1⟩ : ∃ v, lst z1 g1 z2 g2 = v := ⟨_, rfl⟩
    obtain ⟨v2, hv2⟩ : ∃ v, lst z1 g1 z3 g3 = v := ⟨_, rfl⟩
    obtain ⟨L, hL⟩ : ∃ L, (if v2 < v1 then v2 else v1) = L := ⟨_, rfl⟩
    have hF := least_facts (z1 := z1) (z2 := z2) (z3 := z3) (g1 := g1) (g2 := g2) (g3 := g3) (L := L) (by omega) (by omega) (by omega) (by rw [hv1, hv2]; exact hL)
    have HV1 := Lib.hid hv1
    have HV2 := Lib.hid hv2
    have HF := Lib.hid hF
    have HG1 := Lib.hid hg1
    have HG2 := Lib.hid hg2
    have HG3 := Lib.hid hg3
    have HW1 := Lib.hid hw1
    have HW2 := Lib.hid hw2
    have HW3 := Lib.hid hw3
    have HE := Lib.hid (And.intro hE1 (And.intro hE2 hE3))
    have HZ := Lib.hid (And.intro hz1 (And.intro hz2 hz3))
    clear hv1 hv2 hF hg1 hg2 hg3 hw1 hw2 hw3 hE1 hE2 hE3 hz1 hz2 hz3 hI1 hI2 hI3
    go_region_held3 (fun w' => w'.cell? ⟨w1.heap.size, 0, none⟩ = some (.bool neg1) ∧ w'.cell? ⟨w1.heap.size, 1, none⟩ = some (.slice A1 n1 c1) ∧ w'.cell? ⟨w2.heap.size, 0, none⟩ = some (.bool neg2) ∧ w'.cell? ⟨w2.heap.size, 1, none⟩ = some (.slice A2 n2 c2) ∧ w'.cell? ⟨w3.heap.size, 0, none⟩ = some (.bool neg3) ∧ w'.cell? ⟨w3.heap.size, 1, none⟩ = some (.slice A3 n3 c3))
      (go_keep)
      (first
        | (go_at_call 39; (with_reducible refine (ref_least_of neg1 neg2 A1 A2 n1 c1 n2 c2 z1 z2 g1 g2 v1 _ ?_ ?_ HV1).mono ?_); exact l1.drewN 1; exact l2.drewN 1; rintro e5 w5 ⟨rfl, hb5⟩; obtain ⟨hc5, hf5⟩ := bcell hb5; have a0 := hc5 (w1.heap.size) 0 (by simp <;> omega); have a1 := hc5 (w1.heap.size) 1 (by simp <;> omega); have a2 := hc5 (w2.heap.size) 0 (by simp <;> omega); have a3 := hc5 (w2.heap.size) 1 (by simp <;> omega); have a4 := hc5 (w3.heap.size) 0 (by simp <;> omega); have a5 := hc5 (w3.heap.size) 1 (by simp <;> omega); have s5 : w3.heap.size < w5.heap.size := (by have := hb5.size; simp at this; omega); have o1 := (l1.drewN 1).below hb5; have o2 := (l2.drewN 1).below hb5; have o3 := (l3.drewN 1).below hb5; have hbw5 := below_next hbw4 (below_of_drew hb5))
        | (go_at_call 39; (with_reducible refine (ref_least_of neg1 neg3 A1 A3 n1 c1 n3 c3 z1 z3 g1 g3 v2 _ ?_ ?_ HV2).mono ?_); exact o1; exact o3; rintro e6 w6 ⟨rfl, hb6⟩; obtain ⟨hc6, hf6⟩ := bcell hb6; have b0 := hc6 (w1.heap.size) 0 (by omega); have b1 := hc6 (w1.heap.size) 1 (by omega); have b2 := hc6 (w2.heap.size) 0 (by omega); have b3 := hc6 (w2.heap.size) 1 (by omega); have b4 := hc6 (w3.heap.size) 0 (by omega); have b5 := hc6 (w3.heap.size) 1 (by omega); have s6 : w3.heap.size < w6.heap.size := (by have := hb6.size; omega); have q1 := o1.below hb6; have q2 := o2.below hb6; have q3 := o3.below hb6; have hbw6 := below_next hbw5 hb6))
    have y0 : w6.cell? ⟨w1.heap.size, 0, none⟩ = some (.bool neg1) := b0.trans (a0.trans m0)
    have y1 : w6.cell? ⟨w1.heap.size, 1, none⟩ = some (.slice A1 n1 c1) := b1.trans (a1.trans m1)
    have y2 : w6.cell? ⟨w2.heap.size, 0, none⟩ = some (.bool neg2) := b2.trans (a2.trans m2)
    have y3 : w6.cell? ⟨w2.heap.size, 1, none⟩ = some (.slice A2 n2 c2) := b3.trans (a3.trans m3)
    have y4 : w6.cell? ⟨w3.heap.size, 0, none⟩ = some (.bool neg3) := b4.trans (a4.trans m4)
    have y5 : w6.cell? ⟨w3.heap.size, 1, none⟩ = some (.slice A3 n3 c3) := b5.trans (a5.trans m5)
    clear a0 a1 a2 a3 a4 a5 b0 b1 b2 b3 b4 b5 m0 m1 m2 m3 m4 m5 hc5 hf5 hc6 hf6 hb5 hb6 s5 hbw5 hbw4 l1 l2 l3 o1 o2 o3 hL HV1 HV2 s4
    have n1b : n1 ≤ 100 := len_small q1 (k := 53) (by decide) HZ.out.1
    have n2b : n2 ≤ 100 := len_small q2 (k := 53) (by decide) HZ.out.2.1
    have n3b : n3 ≤ 100 := len_small q3 (k := 53) (by decide) HZ.out.2.2
    obtain ⟨d1, hd1⟩ : ∃ d, g1 - L = d := ⟨_, rfl⟩
    obtain ⟨d2, hd2⟩ : ∃ d, g2 - L = d := ⟨_, rfl⟩
    obtain ⟨d3, hd3⟩ : ∃ d, g3 - L = d := ⟨_, rfl⟩
    obtain ⟨u1, hu1⟩ : ∃ u, u = z1 * 2 ^ (g1 - L).toNat := ⟨_, rfl⟩
    obtain ⟨u2, hu2⟩ : ∃ u, u = z2 * 2 ^ (g2 - L).toNat := ⟨_, rfl⟩
    obtain ⟨u3, hu3⟩ : ∃ u, u = z3 * 2 ^ (g3 - L).toNat := ⟨_, rfl⟩
    obtain ⟨f1, f2, f3, f4, f5⟩ := HF.out
    obtain ⟨i1, i2, i3⟩ := HE.out
    have x1 := shifted HG1.out HW1.out f1 f4 hu1
    have x2 := shifted HG2.out HW2.out f2 f4 hu2
    have x3 := shifted HG3.out HW3.out f3 f4 hu3
    obtain ⟨K, hK⟩ : ∃ K : Nat, K = 2046 := ⟨_, rfl⟩
    have HK := Lib.hid hK
    have c1' := shift_small (K := K) HZ.out.1 (by have := HG1.out; omega) hu1
    have c2' := shift_small (K := K) HZ.out.2.1 (by have := HG2.out; omega) hu2
    have c3' := shift_small (K := K) HZ.out.2.2 (by have := HG3.out; omega) hu3
    obtain ⟨c4', c5'⟩ := sum3_small c1' c2' c3'
    have hlost : (u1 + u2 - u3) * ((2 ^ (L + 1074).toNat : Nat) : Int) = Flt.sv x + Flt.sv y - Flt.sv s := by
      rw [Int.sub_mul, Int.add_mul, x1, x2, x3]
    have r1 : IntKind.i64.wrap (g1 - L) = d1 := by rw [← hd1]; exact IntWalk.i64_in _ (by have := HG1.out; omega)
    have r2 : IntKind.i64.wrap (g2 - L) = d2 := by rw [← hd2]; exact IntWalk.i64_in _ (by have := HG2.out; omega)
    have r3 : IntKind.i64.wrap (g3 - L) = d3 := by rw [← hd3]; exact IntWalk.i64_in _ (by have := HG3.out; omega)
    rw [hd1] at hu1 f1
    rw [hd2] at hu2 f2
    rw [hd3] at hu3 f3
    have d1b : d1 ≤ 3000 ∧ -3000 ≤ d1 := by have := HG1.out; omega
    have d2b : d2 ≤ 3000 ∧ -3000 ≤ d2 := by have := HG2.out; omega
    have d3b : d3 ≤ 3000 ∧ -3000 ≤ d3 := by have := HG3.out; omega
    have HU1 := Lib.hid hu1
    have HU2 := Lib.hid hu2
    have HU3 := Lib.hid hu3
    have HC1 := Lib.hid c1'
    have HC2 := Lib.hid c2'
    have HC3 := Lib.hid c3'
    have HC4 := Lib.hid c4'
    have HC5 := Lib.hid c5'
    have HLOST := Lib.hid hlost
    have HL := Lib.hid (And.intro f4 f5)
    have HF1 := Lib.hid f1
    have HF2 := Lib.hid f2
    have HF3 := Lib.hid f3
    clear hK hd1 hd2 hd3 hu1 hu2 hu3 x1 x2 x3 c1' c2' c3' c4' c5' hlost f1 f2 f3 f4 f5 i1 i2 i3 HG1 HG2 HG3 HW1 HW2 HW3 HE HZ HF
    have ne6w1 : ¬ w6.heap.size = w1.heap.size := by omega
    have en6w1 : ¬ w1.heap.size = w6.heap.size := by omega
    have ne6w2 : ¬ w6.heap.size = w2.heap.size := by omega
    have en6w2 : ¬ w2.heap.size = w6.heap.size := by omega
    have ne6w3 : ¬ w6.heap.size = w3.heap.size := by omega
    have en6w3 : ¬ w3.heap.size = w6.heap.size := by omega
    go_upto_region 8 with (fail)
    go_cut [14] from 50 to 66 (fun s14 wx => ∃ R neg A n c, s14 = .pointer (some ⟨R, 0, none⟩) ∧ wx.cell? ⟨R, 0, none⟩ = some (.bool neg) ∧ wx.cell? ⟨R, 1, none⟩ = some (.slice A n c) ∧ IsInt wx neg A n c (u1 + u2 - u3) ∧ n ≤ 100 ∧ R < wx.heap.size ∧ Below w.heap.size w wx)
    case first =>
      go_region_held3 (fun w' => w'.cell? ⟨w1.heap.size, 0, none⟩ = some (.bool neg1) ∧ w'.cell? ⟨w1.heap.size, 1, none⟩ = some (.slice A1 n1 c1) ∧ w'.cell? ⟨w2.heap.size, 0, none⟩ = some (.bool neg2) ∧ w'.cell? ⟨w2.heap.size, 1, none⟩ = some (.slice A2 n2 c2) ∧ w'.cell? ⟨w3.heap.size, 0, none⟩ = some (.bool neg3) ∧ w'.cell? ⟨w3.heap.size, 1, none⟩ = some (.slice A3 n3 c3))
        (go_keep)
        (first
        | (go_at_call 42; (with_reducible refine (ref_double_int neg1 A1 n1 c1 z1 d1 u1 _ ?_ ?_ ?_ ?_ ?_ HU1).mono ?_); (first | exact q1.drewN 1 | exact (q1.drewN 1).alloc _); omega; exact HF1.out; omega; omega; rintro e7 w7 ⟨neg7, A7, n7, c7, rfl, hI7, hb7⟩; obtain ⟨hc7, hf7⟩ := bcell hb7; have ka0 := hc7 (w1.heap.size) 0 (by first | omega | (simp <;> omega)); have ka1 := hc7 (w1.heap.size) 1 (by first | omega | (simp <;> omega)); have ka2 := hc7 (w2.heap.size) 0 (by first | omega | (simp <;> omega)); have ka3 := hc7 (w2.heap.size) 1 (by first | omega | (simp <;> omega)); have ka4 := hc7 (w3.heap.size) 0 (by first | omega | (simp <;> omega)); have ka5 := hc7 (w3.heap.size) 1 (by first | omega | (simp <;> omega)); have s7 : w3.heap.size < w7.heap.size := (by have := hb7.size; first | omega | (simp at this; omega)); have q27 := (by first | exact (q2.drewN 1).below hb7 | exact ((q2.drewN 1).alloc _).below hb7 : IsInt w7 _ _ _ _ _); have q37 := (by first | exact (q3.drewN 1).below hb7 | exact ((q3.drewN 1).alloc _).below hb7 : IsInt w7 _ _ _ _ _); have hbw7 : Below w.heap.size w w7 := (by first | exact below_next hbw6 hb7 | exact below_next hbw6 (below_box hb7) | exact below_next hbw6 (below_of_drew hb7) | exact below_next hbw6 (below_box (below_of_drew hb7)) | exact below_next hbw6 (below_of_drew (below_box hb7))); have ne7w1 : ¬ w7.heap.size = w1.heap.size := (by omega); have en7w1 : ¬ w1.heap.size = w7.heap.size := (by omega); have ne7w2 : ¬ w7.heap.size = w2.heap.size := (by omega); have en7w2 : ¬ w2.heap.size = w7.heap.size := (by omega); have ne7w3 : ¬ w7.heap.size = w3.heap.size := (by omega); have en7w3 : ¬ w3.heap.size = w7.heap.size := (by omega); (try (have kr7c60 := hc7 w6.heap.size 0 ?_; rotate_left; (first | omega | (focus (simp; done)) | (focus (simp; omega))))); (try (have kr7f60 := hf7 w6.heap.size 0 ?_; rotate_left; (first | omega | (focus (simp; done)) | (focus (simp; omega))))); (try (have kr7c61 := hc7 w6.heap.size 1 ?_; rotate_left; (first | omega | (focus (simp; done)) | (focus (simp; omega))))); (try (have kr7f61 := hf7 w6.heap.size 1 ?_; rotate_left; (first | omega | (focus (simp; done)) | (focus (simp; omega))))); (try (have sr76 : w6.heap.size < w7.heap.size := ?_; rotate_left; ((have := hb7.size); first | omega | (simp at this; omega)))); have n7b := len_small hI7 (k := 53 + K) (by have := HK.out; omega) HC1.out)
        | (go_at_call 42; (with_reducible refine (ref_double_int neg2 A2 n2 c2 z2 d2 u2 _ ?_ ?_ ?_ ?_ ?_ HU2).mono ?_); (first | exact q27 | exact (q27).alloc _); omega; exact HF2.out; omega; omega; rintro e8 w8 ⟨neg8, A8, n8, c8, rfl, hI8, hb8⟩; obtain ⟨hc8, hf8⟩ := bcell hb8; have kb0 := hc8 (w1.heap.size) 0 (by first | omega | (simp <;> omega)); have kb1 := hc8 (w1.heap.size) 1 (by first | omega | (simp <;> omega)); have kb2 := hc8 (w2.heap.size) 0 (by first | omega | (simp <;> omega)); have kb3 := hc8 (w2.heap.size) 1 (by first | omega | (simp <;> omega)); have kb4 := hc8 (w3.heap.size) 0 (by first | omega | (simp <;> omega)); have kb5 := hc8 (w3.heap.size) 1 (by first | omega | (simp <;> omega)); have s8 : w3.heap.size < w8.heap.size := (by have := hb8.size; first | omega | (simp at this; omega)); have q38 := (by first | exact (q37).below hb8 | exact ((q37).alloc _).below hb8 : IsInt w8 _ _ _ _ _); have hI78 := (by first | exact (hI7).below hb8 | exact ((hI7).alloc _).below hb8 : IsInt w8 _ _ _ _ _); have hbw8 : Below w.heap.size w w8 := (by first | exact below_next hbw7 hb8 | exact below_next hbw7 (below_box hb8) | exact below_next hbw7 (below_of_drew hb8) | exact below_next hbw7 (below_box (below_of_drew hb8)) | exact below_next hbw7 (below_of_drew (below_box hb8))); have ne8w1 : ¬ w8.heap.size = w1.heap.size := (by omega); have en8w1 : ¬ w1.heap.size = w8.heap.size := (by omega); have ne8w2 : ¬ w8.heap.size = w2.heap.size := (by omega); have en8w2 : ¬ w2.heap.size = w8.heap.size := (by omega); have ne8w3 : ¬ w8.heap.size = w3.heap.size := (by omega); have en8w3 : ¬ w3.heap.size = w8.heap.size := (by omega); (try (have kr8c60 := hc8 w6.heap.size 0 ?_; rotate_left; (first | omega | (focus (simp; done)) | (focus (simp; omega))))); (try (have kr8f60 := hf8 w6.heap.size 0 ?_; rotate_left; (first | omega | (focus (simp; done)) | (focus (simp; omega))))); (try (have kr8c61 := hc8 w6.heap.size 1 ?_; rotate_left; (first | omega | (focus (simp; done)) | (focus (simp; omega))))); (try (have kr8f61 := hf8 w6.heap.size 1 ?_; rotate_left; (first | omega | (focus (simp; done)) | (focus (simp; omega))))); (try (have sr86 : w6.heap.size < w8.heap.size := ?_; rotate_left; ((have := hb8.size); first | omega | (simp at this; omega)))); (try (have kr8c70 := hc8 w7.heap.size 0 ?_; rotate_left; (first | omega | (focus (simp; done)) | (focus (simp; omega))))); (try (have kr8f70 := hf8 w7.heap.size 0 ?_; rotate_left; (first | omega | (focus (simp; done)) | (focus (simp; omega))))); (try (have kr8c71 := hc8 w7.heap.size 1 ?_; rotate_left; (first | omega | (focus (simp; done)) | (focus (simp; omega))))); (try (have kr8f71 := hf8 w7.heap.size 1 ?_; rotate_left; (first | omega | (focus (simp; done)) | (focus (simp; omega))))); (try (have sr87 : w7.heap.size < w8.heap.size := ?_; rotate_left; ((have := hb8.size); first | omega | (simp at this; omega)))); have n8b := len_small hI8 (k := 53 + K) (by have := HK.out; omega) HC2.out)
        | (go_at_call 41; (with_reducible refine (ref_plus_any neg7 neg8 A7 A8 n7 c7 n8 c8 u1 u2 _ ?_ ?_ ?_ ?_).mono ?_); (first | exact hI78 | exact (hI78).alloc _); (first | exact hI8 | exact (hI8).alloc _); omega; omega; rintro e9 w9 ⟨neg9, A9, n9, c9, rfl, hI9, hb9⟩; obtain ⟨hc9, hf9⟩ := bcell hb9; have kc0 := hc9 (w1.heap.size) 0 (by first | omega | (simp <;> omega)); have kc1 := hc9 (w1.heap.size) 1 (by first | omega | (simp <;> omega)); have kc2 := hc9 (w2.heap.size) 0 (by first | omega | (simp <;> omega)); have kc3 := hc9 (w2.heap.size) 1 (by first | omega | (simp <;> omega)); have kc4 := hc9 (w3.heap.size) 0 (by first | omega | (simp <;> omega)); have kc5 := hc9 (w3.heap.size) 1 (by first | omega | (simp <;> omega)); have s9 : w3.heap.size < w9.heap.size := (by have := hb9.size; first | omega | (simp at this; omega)); have q39 := (by first | exact (q38).below hb9 | exact ((q38).alloc _).below hb9 : IsInt w9 _ _ _ _ _); have hbw9 : Below w.heap.size w w9 := (by first | exact below_next hbw8 hb9 | exact below_next hbw8 (below_box hb9) | exact below_next hbw8 (below_of_drew hb9) | exact below_next hbw8 (below_box (below_of_drew hb9)) | exact below_next hbw8 (below_of_drew (below_box hb9))); have ne9w1 : ¬ w9.heap.size = w1.heap.size := (by omega); have en9w1 : ¬ w1.heap.size = w9.heap.size := (by omega); have ne9w2 : ¬ w9.heap.size = w2.heap.size := (by omega); have en9w2 : ¬ w2.heap.size = w9.heap.size := (by omega); have ne9w3 : ¬ w9.heap.size = w3.heap.size := (by omega); have en9w3 : ¬ w3.heap.size = w9.heap.size := (by omega); (try (have kr9c60 := hc9 w6.heap.size 0 ?_; rotate_left; (first | omega | (focus (simp; done)) | (focus (simp; omega))))); (try (have kr9f60 := hf9 w6.heap.size 0 ?_; rotate_left; (first | omega | (focus (simp; done)) | (focus (simp; omega))))); (try (have kr9c61 := hc9 w6.heap.size 1 ?_; rotate_left; (first | omega | (focus (simp; done)) | (focus (simp; omega))))); (try (have kr9f61 := hf9 w6.heap.size 1 ?_; rotate_left; (first | omega | (focus (simp; done)) | (focus (simp; omega))))); (try (have sr96 : w6.heap.size < w9.heap.size := ?_; rotate_left; ((have := hb9.size); first | omega | (simp at this; omega)))); (try (have kr9c70 := hc9 w7.heap.size 0 ?_; rotate_left; (first | omega | (focus (simp; done)) | (focus (simp; omega))))); (try (have kr9f70 := hf9 w7.heap.size 0 ?_; rotate_left; (first | omega | (focus (simp; done)) | (focus (simp; omega))))); (try (have kr9c71 := hc9 w7.heap.size 1 ?_; rotate_left; (first | omega | (focus (simp; done)) | (focus (simp; omega))))); (try (have kr9f71 := hf9 w7.heap.size 1 ?_; rotate_left; (first | omega | (focus (simp; done)) | (focus (simp; omega))))); (try (have sr97 : w7.heap.size < w9.heap.size := ?_; rotate_left; ((have := hb9.size); first | omega | (simp at this; omega)))); (try (have kr9c80 := hc9 w8.heap.size 0 ?_; rotate_left; (first | omega | (focus (simp; done)) | (focus (simp; omega))))); (try (have kr9f80 := hf9 w8.heap.size 0 ?_; rotate_left; (first | omega | (focus (simp; done)) | (focus (simp; omega))))); (try (have kr9c81 := hc9 w8.heap.size 1 ?_; rotate_left; (first | omega | (focus (simp; done)) | (focus (simp; omega))))); (try (have kr9f81 := hf9 w8.heap.size 1 ?_; rotate_left; (first | omega | (focus (simp; done)) | (focus (simp; omega))))); (try (have sr98 : w8.heap.size < w9.heap.size := ?_; rotate_left; ((have := hb9.size); first | omega | (simp at this; omega)))); have n9b := len_small hI9 (k := 53 + K + 1) (by have := HK.out; omega) HC4.out)
        | (go_at_call 42; (with_reducible refine (ref_double_int neg3 A3 n3 c3 z3 d3 u3 _ ?_ ?_ ?_ ?_ ?_ HU3).mono ?_); (first | exact q39 | exact (q39).alloc _); omega; exact HF3.out; omega; omega; rintro e10 w10 ⟨neg10, A10, n10, c10, rfl, hI10, hb10⟩; obtain ⟨hc10, hf10⟩ := bcell hb10; have kd0 := hc10 (w1.heap.size) 0 (by first | omega | (simp <;> omega)); have kd1 := hc10 (w1.heap.size) 1 (by first | omega | (simp <;> omega)); have kd2 := hc10 (w2.heap.size) 0 (by first | omega | (simp <;> omega)); have kd3 := hc10 (w2.heap.size) 1 (by first | omega | (simp <;> omega)); have kd4 := hc10 (w3.heap.size) 0 (by first | omega | (simp <;> omega)); have kd5 := hc10 (w3.heap.size) 1 (by first | omega | (simp <;> omega)); have s10 : w3.heap.size < w10.heap.size := (by have := hb10.size; first | omega | (simp at this; omega)); have hI910 := (by first | exact (hI9).below hb10 | exact ((hI9).alloc _).below hb10 : IsInt w10 _ _ _ _ _); have hbw10 : Below w.heap.size w w10 := (by first | exact below_next hbw9 hb10 | exact below_next hbw9 (below_box hb10) | exact below_next hbw9 (below_of_drew hb10) | exact below_next hbw9 (below_box (below_of_drew hb10)) | exact below_next hbw9 (below_of_drew (below_box hb10))); have ne10w1 : ¬ w10.heap.size = w1.heap.size := (by omega); have en10w1 : ¬ w1.heap.size = w10.heap.size := (by omega); have ne10w2 : ¬ w10.heap.size = w2.heap.size := (by omega); have en10w2 : ¬ w2.heap.size = w10.heap.size := (by omega); have ne10w3 : ¬ w10.heap.size = w3.heap.size := (by omega); have en10w3 : ¬ w3.heap.size = w10.heap.size := (by omega); (try (have kr10c60 := hc10 w6.heap.size 0 ?_; rotate_left; (first | omega | (focus (simp; done)) | (focus (simp; omega))))); (try (have kr10f60 := hf10 w6.heap.size 0 ?_; rotate_left; (first | omega | (focus (simp; done)) | (focus (simp; omega))))); (try (have kr10c61 := hc10 w6.heap.size 1 ?_; rotate_left; (first | omega | (focus (simp; done)) | (focus (simp; omega))))); (try (have kr10f61 := hf10 w6.heap.size 1 ?_; rotate_left; (first | omega | (focus (simp; done)) | (focus (simp; omega))))); (try (have sr106 : w6.heap.size < w10.heap.size := ?_; rotate_left; ((have := hb10.size); first | omega | (simp at this; omega)))); (try (have kr10c70 := hc10 w7.heap.size 0 ?_; rotate_left; (first | omega | (focus (simp; done)) | (focus (simp; omega))))); (try (have kr10f70 := hf10 w7.heap.size 0 ?_; rotate_left; (first | omega | (focus (simp; done)) | (focus (simp; omega))))); (try (have kr10c71 := hc10 w7.heap.size 1 ?_; rotate_left; (first | omega | (focus (simp; done)) | (focus (simp; omega))))); (try (have kr10f71 := hf10 w7.heap.size 1 ?_; rotate_left; (first | omega | (focus (simp; done)) | (focus (simp; omega))))); (try (have sr107 : w7.heap.size < w10.heap.size := ?_; rotate_left; ((have := hb10.size); first | omega | (simp at this; omega)))); (try (have kr10c80 := hc10 w8.heap.size 0 ?_; rotate_left; (first | omega | (focus (simp; done)) | (focus (simp; omega))))); (try (have kr10f80 := hf10 w8.heap.size 0 ?_; rotate_left; (first | omega | (focus (simp; done)) | (focus (simp; omega))))); (try (have kr10c81 := hc10 w8.heap.size 1 ?_; rotate_left; (first | omega | (focus (simp; done)) | (focus (simp; omega))))); (try (have kr10f81 := hf10 w8.heap.size 1 ?_; rotate_left; (first | omega | (focus (simp; done)) | (focus (simp; omega))))); (try (have sr108 : w8.heap.size < w10.heap.size := ?_; rotate_left; ((have := hb10.size); first | omega | (simp at this; omega)))); (try (have kr10c90 := hc10 w9.heap.size 0 ?_; rotate_left; (first | omega | (focus (simp; done)) | (focus (simp; omega))))); (try (have kr10f90 := hf10 w9.heap.size 0 ?_; rotate_left; (first | omega | (focus (simp; done)) | (focus (simp; omega))))); (try (have kr10c91 := hc10 w9.heap.size 1 ?_; rotate_left; (first | omega | (focus (simp; done)) | (focus (simp; omega))))); (try (have kr10f91 := hf10 w9.heap.size 1 ?_; rotate_left; (first | omega | (focus (simp; done)) | (focus (simp; omega))))); (try (have sr109 : w9.heap.size < w10.heap.size := ?_; rotate_left; ((have := hb10.size); first | omega | (simp at this; omega)))); have n10b := len_small hI10 (k := 53 + K) (by have := HK.out; omega) HC3.out)
        | (go_at_call 40; (with_reducible refine (ref_minus_any neg9 neg10 A9 A10 n9 c9 n10 c10 (u1 + u2) u3 _ ?_ ?_ ?_ ?_).mono ?_); (first | exact hI910 | exact (hI910).alloc _); (first | exact hI10 | exact (hI10).alloc _); omega; omega; rintro e11 w11 ⟨neg11, A11, n11, c11, rfl, hI11, hb11⟩; obtain ⟨hc11, hf11⟩ := bcell hb11; have ke0 := hc11 (w1.heap.size) 0 (by first | omega | (simp <;> omega)); have ke1 := hc11 (w1.heap.size) 1 (by first | omega | (simp <;> omega)); have ke2 := hc11 (w2.heap.size) 0 (by first | omega | (simp <;> omega)); have ke3 := hc11 (w2.heap.size) 1 (by first | omega | (simp <;> omega)); have ke4 := hc11 (w3.heap.size) 0 (by first | omega | (simp <;> omega)); have ke5 := hc11 (w3.heap.size) 1 (by first | omega | (simp <;> omega)); have s11 : w3.heap.size < w11.heap.size := (by have := hb11.size; first | omega | (simp at this; omega)); have hbw11 : Below w.heap.size w w11 := (by first | exact below_next hbw10 hb11 | exact below_next hbw10 (below_box hb11) | exact below_next hbw10 (below_of_drew hb11) | exact below_next hbw10 (below_box (below_of_drew hb11)) | exact below_next hbw10 (below_of_drew (below_box hb11))); have ne11w1 : ¬ w11.heap.size = w1.heap.size := (by omega); have en11w1 : ¬ w1.heap.size = w11.heap.size := (by omega); have ne11w2 : ¬ w11.heap.size = w2.heap.size := (by omega); have en11w2 : ¬ w2.heap.size = w11.heap.size := (by omega); have ne11w3 : ¬ w11.heap.size = w3.heap.size := (by omega); have en11w3 : ¬ w3.heap.size = w11.heap.size := (by omega); (try (have kr11c60 := hc11 w6.heap.size 0 ?_; rotate_left; (first | omega | (focus (simp; done)) | (focus (simp; omega))))); (try (have kr11f60 := hf11 w6.heap.size 0 ?_; rotate_left; (first | omega | (focus (simp; done)) | (focus (simp; omega))))); (try (have kr11c61 := hc11 w6.heap.size 1 ?_; rotate_left; (first | omega | (focus (simp; done)) | (focus (simp; omega))))); (try (have kr11f61 := hf11 w6.heap.size 1 ?_; rotate_left; (first | omega | (focus (simp; done)) | (focus (simp; omega))))); (try (have sr116 : w6.heap.size < w11.heap.size := ?_; rotate_left; ((have := hb11.size); first | omega | (simp at this; omega)))); (try (have kr11c70 := hc11 w7.heap.size 0 ?_; rotate_left; (first | omega | (focus (simp; done)) | (focus (simp; omega))))); (try (have kr11f70 := hf11 w7.heap.size 0 ?_; rotate_left; (first | omega | (focus (simp; done)) | (focus (simp; omega))))); (try (have kr11c71 := hc11 w7.heap.size 1 ?_; rotate_left; (first | omega | (focus (simp; done)) | (focus (simp; omega))))); (try (have kr11f71 := hf11 w7.heap.size 1 ?_; rotate_left; (first | omega | (focus (simp; done)) | (focus (simp; omega))))); (try (have sr117 : w7.heap.size < w11.heap.size := ?_; rotate_left; ((have := hb11.size); first | omega | (simp at this; omega)))); (try (have kr11c80 := hc11 w8.heap.size 0 ?_; rotate_left; (first | omega | (focus (simp; done)) | (focus (simp; omega))))); (try (have kr11f80 := hf11 w8.heap.size 0 ?_; rotate_left; (first | omega | (focus (simp; done)) | (focus (simp; omega))))); (try (have kr11c81 := hc11 w8.heap.size 1 ?_; rotate_left; (first | omega | (focus (simp; done)) | (focus (simp; omega))))); (try (have kr11f81 := hf11 w8.heap.size 1 ?_; rotate_left; (first | omega | (focus (simp; done)) | (focus (simp; omega))))); (try (have sr118 : w8.heap.size < w11.heap.size := ?_; rotate_left; ((have := hb11.size); first | omega | (simp at this; omega)))); (try (have kr11c90 := hc11 w9.heap.size 0 ?_; rotate_left; (first | omega | (focus (simp; done)) | (focus (simp; omega))))); (try (have kr11f90 := hf11 w9.heap.size 0 ?_; rotate_left; (first | omega | (focus (simp; done)) | (focus (simp; omega))))); (try (have kr11c91 := hc11 w9.heap.size 1 ?_; rotate_left; (first | omega | (focus (simp; done)) | (focus (simp; omega))))); (try (have kr11f91 := hf11 w9.heap.size 1 ?_; rotate_left; (first | omega | (focus (simp; done)) | (focus (simp; omega))))); (try (have sr119 : w9.heap.size < w11.heap.size := ?_; rotate_left; ((have := hb11.size); first | omega | (simp at this; omega)))); (try (have kr11c100 := hc11 w10.heap.size 0 ?_; rotate_left; (first | omega | (focus (simp; done)) | (focus (simp; omega))))); (try (have kr11f100 := hf11 w10.heap.size 0 ?_; rotate_left; (first | omega | (focus (simp; done)) | (focus (simp; omega))))); (try (have kr11c101 := hc11 w10.heap.size 1 ?_; rotate_left; (first | omega | (focus (simp; done)) | (focus (simp; omega))))); (try (have kr11f101 := hf11 w10.heap.size 1 ?_; rotate_left; (first | omega | (focus (simp; done)) | (focus (simp; omega))))); (try (have sr1110 : w10.heap.size < w11.heap.size := ?_; rotate_left; ((have := hb11.size); first | omega | (simp at this; omega)))); have n11b := len_small hI11 (k := 53 + K + 2) (by have := HK.out; omega) HC5.out))
      all_goals (go_wp2_with fail)
      all_goals go_meet
      · exact ⟨w11.heap.size, neg11, A11, n11, c11, rfl, by simp [go_sem], by simp [go_sem], hI11.alloc _, n11b, by simp, hbw11.alloc hbw11.size _⟩
      · have t0 : w11.cell? ⟨w10.heap.size, 0, none⟩ = some (.bool false) := by rw [kr11c100]; simp [go_sem]
        have t1 : w11.cell? ⟨w10.heap.size, 1, none⟩ = some (.slice none 0 0) := by rw [kr11c101]; simp [go_sem]
        have hR : w10.heap.size < w11.heap.size := by first | exact sr1110 | omega
        have hB : w.heap.size ≤ w10.heap.size := hbw10.size
        exact ⟨w10.heap.size, neg11, A11, n11, c11, rfl, by simp [go_sem, t0], by simp [go_sem, t1], isInt_result (b0 := false) (a0 := none) (n0 := 0) (c0 := 0) hI11 t0 t1 _ _, n11b, by simpa using hR, below_result hbw11 hB _ _⟩
      · have t0 : w11.cell? ⟨w9.heap.size, 0, none⟩ = some (.bool false) := by rw [kr11c90, kr10c90]; simp [go_sem]
        have t1 : w11.cell? ⟨w9.heap.size, 1, none⟩ = some (.slice none 0 0) := by rw [kr11c91, kr10c91]; simp [go_sem]
        have hR : w9.heap.size < w11.heap.size := by first | exact sr119 | omega
        have hB : w.heap.size ≤ w9.heap.size := hbw9.size
        exact ⟨w9.heap.size, neg11, A11, n11, c11, rfl, by simp [go_sem, t0], by simp [go_sem, t1], isInt_result (b0 := false) (a0 := none) (n0 := 0) (c0 := 0) hI11 t0 t1 _ _, n11b, by simpa using hR, below_result hbw11 hB _ _⟩
      · have t0 : w11.cell? ⟨w8.heap.size, 0, none⟩ = some (.bool false) := by rw [kr11c80, kr10c80, kr9c80]; simp [go_sem]
        have t1 : w11.cell? ⟨w8.heap.size, 1, none⟩ = some (.slice none 0 0) := by rw [kr11c81, kr10c81, kr9c81]; simp [go_sem]
        have hR : w8.heap.size < w11.heap.size := by first | exact sr118 | omega
        have hB : w.heap.size ≤ w8.heap.size := hbw8.size
        exact ⟨w8.heap.size, neg11, A11, n11, c11, rfl, by simp [go_sem, t0], by simp [go_sem, t1], isInt_result (b0 := false) (a0 := none) (n0 := 0) (c0 := 0) hI11 t0 t1 _ _, n11b, by simpa using hR, below_result hbw11 hB _ _⟩
      · have t0 : w11.cell? ⟨w7.heap.size, 0, none⟩ = some (.bool false) := by rw [kr11c70, kr10c70, kr9c70, kr8c70]; simp [go_sem]
        have t1 : w11.cell? ⟨w7.heap.size, 1, none⟩ = some (.slice none 0 0) := by rw [kr11c71, kr10c71, kr9c71, kr8c71]; simp [go_sem]
        have hR : w7.heap.size < w11.heap.size := by first | exact sr117 | omega
        have hB : w.heap.size ≤ w7.heap.size := hbw7.size
        exact ⟨w7.heap.size, neg11, A11, n11, c11, rfl, by simp [go_sem, t0], by simp [go_sem, t1], isInt_result (b0 := false) (a0 := none) (n0 := 0) (c0 := 0) hI11 t0 t1 _ _, n11b, by simpa using hR, below_result hbw11 hB _ _⟩
      · have t0 : w11.cell? ⟨w6.heap.size, 0, none⟩ = some (.bool false) := by rw [kr11c60, kr10c60, kr9c60, kr8c60, kr7c60]; simp [go_sem]
        have t1 : w11.cell? ⟨w6.heap.size, 1, none⟩ = some (.slice none 0 0) := by rw [kr11c61, kr10c61, kr9c61, kr8c61, kr7c61]; simp [go_sem]
        have hR : w6.heap.size < w11.heap.size := by first | exact sr116 | omega
        have hB : w.heap.size ≤ w6.heap.size := hbw6.size
        exact ⟨w6.heap.size, neg11, A11, n11, c11, rfl, by simp [go_sem, t0], by simp [go_sem, t1], isInt_result (b0 := false) (a0 := none) (n0 := 0) (c0 := 0) hI11 t0 t1 _ _, n11b, by simpa using hR, below_result hbw11 hB _ _⟩
    case rest =>
      obtain ⟨R, neg, A, n, c, rfl, t0, t1, hI, hn, hR, hbw⟩ := hcut
      have HL2 := HLOST
      clear hbw6 q1 q2 q3 y0 y1 y2 y3 y4 y5 r1 r2 r3 HLOST
      generalize u1 + u2 - u3 = z at hI HL2
      obtain ⟨t, ht⟩ : ∃ t, z.sign = t := ⟨_, rfl⟩
      have ht0 : (t = 0) ↔ z = 0 := by rw [← ht]; exact Int.sign_eq_zero_iff_zero
      have HT := Lib.hid ht
      clear ht
      by_cases h0 : t = 0
      · have hz0 := Lib.hid (ht0.1 h0)
        clear ht0
        go_wp2_with (go_at_call 43; refine (ref_sign_of _ _ _ _ _ t _ hI HT).mono ?_; rintro e12 w12 ⟨rfl, hb12⟩)
        go_ret2
        exact ⟨_, _, rfl, two_zero HA.out (fun _ => by rw [← HL2.out, hz0.out]; simp), below_next hbw hb12⟩
      · have hz0 : Hid (z ≠ 0) := Lib.hid (fun h => h0 (ht0.2 h))
        clear ht0
        go_wp2_with fail
        refine (ref_sign_of _ _ _ _ _ t _ hI HT).mono ?_
        rintro e12 w12 ⟨rfl, hb12⟩
        obtain ⟨hc12, hf12⟩ := bcell hb12
        have x0 := (hc12 R 0 hR).trans t0
        have x1 := (hc12 R 1 hR).trans t1
        have hbw12 := below_next hbw hb12
        have hR12 : R < w12.heap.size := by have := hb12.size; omega
        have hI12 := hI.below hb12
        have Lb : -1074 ≤ L ∧ L ≤ 1000000 := by have := HL.out; omega
        obtain ⟨num, hnum⟩ : ∃ num, z.natAbs * 2 ^ (L + 1074).toNat = num := ⟨_, rfl⟩
        have HN := Lib.hid hnum
        clear hnum hc12 hf12 hb12 t0 t1
        go_wp2_with fail
        go_region_held3 (fun w' => w'.cell? ⟨R, 0, none⟩ = some (.bool neg) ∧ w'.cell? ⟨R, 1, none⟩ = some (.slice A n c))
          (go_keep)
          (first
          | (go_at_call 45; refine (ref_one_any _).mono ?_; rintro e13 w13 ⟨neg13, A13, n13, c13, rfl, hI13, hb13⟩; obtain ⟨hc13, hf13⟩ := bcell hb13; have ka0 := hc13 R 0 (by first | omega | (simp <;> omega)); have ka1 := hc13 R 1 (by first | omega | (simp <;> omega)); have hI14 := (hI12.drewN 1).below hb13; have hbw13 := below_next hbw12 (below_of_drew hb13); have hR13 : R < w13.heap.size := (by have := hb13.size; simp at this; omega))
          | (go_at_call 44; (with_reducible refine (ref_beside_two neg neg13 A A13 n c n13 c13 z L num _ ?_ ?_ ?_ ?_ HN).mono ?_); exact hI14; exact hI13; omega; exact Lb; rintro e15 w15 ⟨p15, q15, rfl, hD, hb15⟩; obtain ⟨hc15, hf15⟩ := bcell hb15; have kb0 := hc15 R 0 (by omega); have kb1 := hc15 R 1 (by omega); have hbw15 := below_next hbw13 hb15))
        go_wp2_with fail
        go_ret2
        obtain ⟨r, hd, hp⟩ := hD.out
        rw [← HN.out] at hd hp
        exact ⟨_, _, rfl, by rw [hp]; exact two_of HA.out hsf.out HL2.out hz0.out hd, hbw15⟩
end Go.Proofs.Ythddodhcpfponaa
