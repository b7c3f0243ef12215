/-
  A stable cavity, plainly; roots, plainly; are two numbers too long (exact.Long).
-/
import Derived.Test.YtgekmbfmfiikkaaGreatDoorOwI
import Derived.Test.YtgekmbfmfiikkaaGreatDoorRootR
namespace Go.Proofs.YtgekmbfmfiikkaaGreatDoor
open Go.RowKit

theorem sq_nonneg (x : Rat) : 0 ≤ x * x := by
 rcases Rat.le_total (a := 0) (b := x) with h | h
 ·exact Rat.mul_nonneg h h
 ·have := Rat.mul_nonneg (a := -x) (b := -x) (by grind) (by grind)
  grind
/-- A stable cavity has power. -/
theorem st_c {a b c d : Rat} (h : a * d - b * c = 1) (h4 : 0 < 4 - (a + d) * (a + d)) : c ≠ 0 := by
 intro e
 have h1 := sq_nonneg (a - d)
 rw [e] at h
 grind
theorem st_sq {c : Rat} (h : c ≠ 0) : 0 < 4 * (c * c) := by
 have h1 := sq_nonneg c
 have h2 : c * c ≠ 0 := fun e => (Rat.mul_eq_zero.1 e).elim h h
 grind
theorem st_two {c : Rat} (h : c ≠ 0) : 2 * c ≠ 0 := by
 intro e
 exact h (by grind)
theorem st_v {l k : Rat} (hl : 0 < l) (hk : 0 < k) : 0 < l / k := by
 rw [Rat.div_def]
 exact Rat.mul_pos hl (Rat.inv_pos.2 hk)
/-- The root of a whole number is one. -/
theorem rt_uniq {X j k : Nat} (h : IsRt X j) (h' : IsRt X k) : j = k := by
 obtain ⟨h1, h2⟩ := h
 obtain ⟨h3, h4⟩ := h'
 rcases Nat.lt_trichotomy j k with h | h | h
 ·have := Nat.mul_le_mul (show j + 1 ≤ k by omega) (show j + 1 ≤ k by omega)
  omega
 ·exact h
 ·have := Nat.mul_le_mul (show k + 1 ≤ j by omega) (show k + 1 ≤ j by omega)
  omega
theorem rt_ex (X : Nat) : ∃ k, IsRt X k := by
 induction X with
 | zero => exact ⟨0, by unfold IsRt; omega⟩
 | succ X ih =>
  obtain ⟨k, h1, h2⟩ := ih
  by_cases h : (k + 1) * (k + 1) ≤ X + 1
  ·refine ⟨k + 1, h, ?_⟩
   have : (k + 1 + 1) * (k + 1 + 1) = (k + 1) * (k + 1) + 2 * (k + 1) + 1 := by rw [Nat.add_mul, Nat.mul_add]; omega
   omega
  ·exact ⟨k, by omega, by omega⟩

set_option maxRecDepth 100000 in
set_option maxHeartbeats 800000 in
theorem index_two (g : Nat) (neg : Bool) (A : Option Addr) (n c : Nat) (neg' : Bool) (A' : Option Addr) (n' c' : Nat) (b b' : Bool) (v : Int) (w : World) (hg : g < w.heap.size) (c0 : w.cell? ⟨g, 0, none⟩ = some (.bool neg)) (c1 : w.cell? ⟨g, 1, none⟩ = some (.slice A n c)) (c2 : w.cell? ⟨g, 2, none⟩ = some (.bool neg')) (c3 : w.cell? ⟨g, 3, none⟩ = some (.slice A' n' c')) (hb : Hid (decide (2048 < n) = b)) (hb' : Hid (decide (2048 < n') = b')) (hv : Hid ((if b then (0 : Int) else if b' then 1 else -1) = v)) :
  Calls Tryz.prog 280 #[.slice (some ⟨g, 0, none⟩) 2 2, .func (.func 223) #[] #[]] w (RetV w (.int .i64 v)) := by
 go_enter Tryz.func280, Tryz.ntmps280
 go_wp2_with fail
 go_loopw [8] (fun i wr => ∃ k : Nat, k ≤ 2 ∧ i = .int .i64 (k : Int) ∧ Below w.heap.size w wr ∧ (0 < k → b = false) ∧ (1 < k → b' = false)) (fun i _ => 2 - (intOf i).toNat)
 case atStart => exact ⟨0, Nat.zero_le _, rfl, Below.refl _ _, fun h => absurd h (by decide), fun h => absurd h (by decide)⟩
 case round =>
  obtain ⟨k, hk, rfl, hb0, hbf, hbg⟩ := hrel
  match k, hk with
  | 0, _ =>
   clear hbf hbg
   have d0 := (hb0.cell (p := ⟨g, 0, none⟩) hg).trans c0
   have d1 := (hb0.cell (p := ⟨g, 1, none⟩) hg).trans c1
   have hsz := hb0.size
   go_wp2_with fail
   refine (ex_long1_any neg A n c b _ hb).mono ?_
   rintro e1 w1 ⟨rfl, hb1⟩
   have hb2 := hb0.trans (hb1.mono hsz)
   cases b with
   | true =>
    go_wp2_with fail
    go_ret
    exact ⟨by rw [← hv.out]; rfl, hb2⟩
   | false =>
    go_wp2_with fail
    refine ⟨⟨1, by decide, rfl, hb2, (by simp), (by simp)⟩, ?_⟩
    simp [intOf]
  | 1, _ =>
   obtain rfl := hbf (by decide)
   clear hbf hbg
   have d0 := (hb0.cell (p := ⟨g, 2, none⟩) hg).trans c2
   have d1 := (hb0.cell (p := ⟨g, 3, none⟩) hg).trans c3
   have hsz := hb0.size
   go_wp2_with fail
   refine (ex_long1_any neg' A' n' c' b' _ hb').mono ?_
   rintro e1 w1 ⟨rfl, hb1⟩
   have hb2 := hb0.trans (hb1.mono hsz)
   cases b' with
   | true =>
    go_wp2_with fail
    go_ret
    exact ⟨by rw [← hv.out]; rfl, hb2⟩
   | false =>
    go_wp2_with fail
    refine ⟨⟨2, by decide, rfl, hb2, (by simp), (by simp)⟩, ?_⟩
    simp [intOf]
  | 2, _ =>
   obtain rfl := hbf (by decide)
   obtain rfl := hbg (by decide)
   go_wp2_with fail
   go_ret
   exact ⟨by rw [← hv.out]; rfl, hb0⟩
theorem ex_long_two (g : Nat) (neg : Bool) (A : Option Addr) (n c : Nat) (neg' : Bool) (A' : Option Addr) (n' c' : Nat) (b b' : Bool) (w : World) (hg : g < w.heap.size) (c0 : w.cell? ⟨g, 0, none⟩ = some (.bool neg)) (c1 : w.cell? ⟨g, 1, none⟩ = some (.slice A n c)) (c2 : w.cell? ⟨g, 2, none⟩ = some (.bool neg')) (c3 : w.cell? ⟨g, 3, none⟩ = some (.slice A' n' c')) (hb : Hid (decide (2048 < n) = b)) (hb' : Hid (decide (2048 < n') = b')) :
  Calls Tryz.prog 115 #[.slice (some ⟨g, 0, none⟩) 2 2] w (RetV w (.bool (b || b'))) := by
 have hC : Calls Tryz.prog 222 #[.slice (some ⟨g, 0, none⟩) 2 2, .func (.func 223) #[] #[]] w (RetV w (.bool (b || b'))) := by
  go_enter Tryz.func222, Tryz.ntmps222
  go_wp2_with fail
  obtain ⟨v, hv⟩ : ∃ v, (if b then (0 : Int) else if b' then 1 else -1) = v := ⟨_, rfl⟩
  refine (index_two g neg A n c neg' A' n' c' b b' v _ hg c0 c1 c2 c3 hb hb' (Lib.hid hv)).mono ?_
  rintro e1 w1 ⟨rfl, hb1⟩
  cases b with
  | true =>
   obtain rfl : (0 : Int) = v := hv
   go_wp2_with fail
   go_ret
   exact ⟨rfl, hb1⟩
  | false =>
   cases b' with
   | true =>
    obtain rfl : (1 : Int) = v := hv
    go_wp2_with fail
    go_ret
    exact ⟨rfl, hb1⟩
   | false =>
    obtain rfl : (-1 : Int) = v := hv
    go_wp2_with fail
    go_ret
    exact ⟨rfl, hb1⟩
 go_enter Tryz.func115, Tryz.ntmps115
 go_wp2_with fail
 refine hC.mono ?_
 rintro e1 w1 ⟨rfl, hb1⟩
 go_wp2_with fail
 go_ret
 exact ⟨rfl, hb1⟩
end Go.Proofs.YtgekmbfmfiikkaaGreatDoor
