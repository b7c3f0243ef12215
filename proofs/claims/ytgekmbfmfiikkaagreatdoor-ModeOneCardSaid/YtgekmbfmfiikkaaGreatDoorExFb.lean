/-
  What a fraction costs (IntSize, FracSize, Lowest, FracCost).
-/
import Derived.Test.YtgekmbfmfiikkaaGreatDoorRefW
set_option maxHeartbeats 800000
set_option maxRecDepth 100000
namespace Go.Proofs.YtgekmbfmfiikkaaGreatDoor
open Go.RowKit
def costFr (n n' : Nat) : Nat := 2 + n + n' + min n 1048576 * min n' 1048576 / 16 * 1024
theorem low_wrap (a b : Nat) (ha : a ≤ 1048576) (hb : b ≤ 1048576) : wrap64 (wrap64 ((wrap64 ((a : Int) * (b : Int))).tdiv 16) * 1024) = ((a * b / 16 * 1024 : Nat) : Int) := by
 have h1 : a * b ≤ 1048576 * 1048576 := Nat.mul_le_mul ha hb
 rw [← Int.natCast_mul]
 generalize a * b = p at *
 have e : ∀ z : Int, -9223372036854775808 ≤ z ∧ z ≤ 9223372036854775807 → wrap64 z = z := fun z h => by unfold wrap64; omega
 rw [e (p : Int) (by omega), show ((p : Int)).tdiv 16 = ((p / 16 : Nat) : Int) from (Int.ofNat_tdiv p 16).symm, e ((p / 16 : Nat) : Int) (by omega), e _ (by omega)]
 omega
theorem cast_min (a b : Nat) : ((min a b : Nat) : Int) = min (a : Int) (b : Int) := by omega
theorem int_size_any (neg : Bool) (A : Option Addr) (n c : Nat) (w : World) (hn : n ≤ 281474976710656) :
  Calls Tryz.prog 256 #[.agg #[.bool neg, .slice A n c]] w (RetV w (.int .i64 (1 + (n : Int)))) := by
 go_enter Tryz.func256, Tryz.ntmps256
 go_wp2
 go_ret
 exact ⟨rfl, (Below.refl _ _).alloc (Nat.le_refl _) _⟩
theorem frac_size_any (neg neg' : Bool) (A A' : Option Addr) (n c n' c' : Nat) (w : World) (hn : n ≤ 281474976710656) (hn' : n' ≤ 281474976710656) :
  Calls Tryz.prog 155 #[.agg #[.bool neg, .slice A n c, .bool neg', .slice A' n' c']] w (RetV w (.int .i64 ((2 + n + n' : Nat) : Int))) := by
 have K0 := (Mm.nil w).var (g := w.heap.size) rfl [.bool neg, .slice A n c, .bool neg', .slice A' n' c'] 26
 have HW : Hid (IntKind.i64.wrap ((1 + (n : Int)) + (1 + (n' : Int))) = ((2 + n + n' : Nat) : Int)) := Lib.hid (by rw [IntWalk.i64_in _ (by omega)]; omega)
 go_enter Tryz.func155, Tryz.ntmps155
 go_wp2_with fail
 generalize w.alloc (.cells #[.bool neg, .slice A n c, .bool neg', .slice A' n' c'] 26) = w0 at K0 ⊢
 obtain ⟨⟨_, _, _, _⟩, ⟨_, _, _, _⟩, _⟩ := (K0.blk (g := w.heap.size) (by repeat constructor)).four
 go_region_held3 (fun w' => w'.cell? ⟨w.heap.size, 0, none⟩ = some (.bool neg) ∧ w'.cell? ⟨w.heap.size, 1, none⟩ = some (.slice A n c) ∧ w'.cell? ⟨w.heap.size, 2, none⟩ = some (.bool neg') ∧ w'.cell? ⟨w.heap.size, 3, none⟩ = some (.slice A' n' c'))
  (go_keep)
  (first
   | (go_at_call 256; apply Calls.withMm (w0 := w); (case K => with_reducible repeat (first | exact K0 | apply Mm.drew | apply Mm.drewN)); intro KX; (with_reducible refine (int_size_any neg A n c _ hn).mono ?_); rintro e1 w1 ⟨rfl, hb1⟩; (with_reducible have K1 := KX.next hb1); obtain ⟨⟨_, _, _, _⟩, ⟨_, _, _, _⟩, _⟩ := (K1.blk (g := w.heap.size) (by repeat constructor)).four; clear KX hb1)
   | (go_at_call 256; apply Calls.withMm (w0 := w); (case K => with_reducible repeat (first | exact K1 | apply Mm.drew | apply Mm.drewN)); intro KX; (with_reducible refine (int_size_any neg' A' n' c' _ hn').mono ?_); rintro e2 w2 ⟨rfl, hb2⟩; (with_reducible have K2 := KX.next hb2); obtain ⟨⟨_, _, _, _⟩, ⟨_, _, _, _⟩, _⟩ := (K2.blk (g := w.heap.size) (by repeat constructor)).four; clear KX hb2))
 go_wp2_with fail
 rw [HW.out]
 go_ret
 exact ⟨rfl, K2.1⟩
theorem lowest_cost (neg neg' : Bool) (A A' : Option Addr) (n c n' c' L : Nat) (w : World) (hn : n ≤ 281474976710656) (hn' : n' ≤ 281474976710656) (hL : Hid (min n 1048576 * min n' 1048576 / 16 * 1024 = L)) :
  Calls Tryz.prog 156 #[.agg #[.bool neg, .slice A n c], .agg #[.bool neg', .slice A' n' c']] w (RetV w (.int .i64 (L : Int))) := by
 have _both := And.intro hn hn'
 go_enter Tryz.func156, Tryz.ntmps156
 go_wp2_with fail
 all_goals go_ret
 all_goals (refine ⟨?_, ((Below.refl _ _).alloc (Nat.le_refl _) _).alloc (by simp) _⟩)
 all_goals (first
  | (rw [← hL.out, Nat.min_eq_left (show n ≤ 1048576 by omega), Nat.min_eq_left (show n' ≤ 1048576 by omega), ← low_wrap n n' (by omega) (by omega)]; rfl)
  | (rw [← hL.out, Nat.min_eq_left (show n ≤ 1048576 by omega), Nat.min_eq_right (show 1048576 ≤ n' by omega), ← low_wrap n 1048576 (by omega) (by omega)]; rfl)
  | (rw [← hL.out, Nat.min_eq_right (show 1048576 ≤ n by omega), Nat.min_eq_left (show n' ≤ 1048576 by omega), ← low_wrap 1048576 n' (by omega) (by omega)]; rfl)
  | (rw [← hL.out, Nat.min_eq_right (show 1048576 ≤ n by omega), Nat.min_eq_right (show 1048576 ≤ n' by omega), ← low_wrap 1048576 1048576 (by omega) (by omega)]; rfl)
  | (rw [← hL.out, ← low_wrap (min n 1048576) (min n' 1048576) (Nat.min_le_right _ _) (Nat.min_le_right _ _), cast_min, cast_min]; rfl))
theorem frac_cost_any (neg neg' : Bool) (A A' : Option Addr) (n c n' c' : Nat) (w : World) (hn : n ≤ 281474976710656) (hn' : n' ≤ 281474976710656) :
  Calls Tryz.prog 47 #[.agg #[.bool neg, .slice A n c, .bool neg', .slice A' n' c']] w (RetV w (.int .i64 (costFr n n' : Nat))) := by
 have K0 := (Mm.nil w).var (g := w.heap.size) rfl [.bool neg, .slice A n c, .bool neg', .slice A' n' c'] 26
 obtain ⟨L, hL⟩ : ∃ L, min n 1048576 * min n' 1048576 / 16 * 1024 = L := ⟨_, rfl⟩
 have hLb : L ≤ 1048576 * 1048576 * 64 := by
  have h1 : min n 1048576 * min n' 1048576 ≤ 1048576 * 1048576 := Nat.mul_le_mul (Nat.min_le_right _ _) (Nat.min_le_right _ _)
  omega
 have HW : Hid (IntKind.i64.wrap (2 + (n : Int) + (n' : Int) + (L : Int)) = ((costFr n n' : Nat) : Int)) := Lib.hid (by rw [IntWalk.i64_in _ (by omega)]; unfold costFr; rw [hL]; omega)
 have HLC := fun W : World => lowest_cost neg neg' A A' n c n' c' L W hn hn' (Lib.hid hL)
 clear hL
 go_enter Tryz.func47, Tryz.ntmps47
 go_wp2_with fail
 generalize w.alloc (.cells #[.bool neg, .slice A n c, .bool neg', .slice A' n' c'] 26) = w0 at K0 ⊢
 obtain ⟨⟨_, _, _, _⟩, ⟨_, _, _, _⟩, _⟩ := (K0.blk (g := w.heap.size) (by repeat constructor)).four
 go_region_held3 (fun w' => w'.cell? ⟨w.heap.size, 0, none⟩ = some (.bool neg) ∧ w'.cell? ⟨w.heap.size, 1, none⟩ = some (.slice A n c) ∧ w'.cell? ⟨w.heap.size, 2, none⟩ = some (.bool neg') ∧ w'.cell? ⟨w.heap.size, 3, none⟩ = some (.slice A' n' c'))
  (go_keep)
  (first
   | (go_at_call 155; apply Calls.withMm (w0 := w); (case K => with_reducible repeat (first | exact K0 | apply Mm.drew | apply Mm.drewN)); intro KX; (with_reducible refine (frac_size_any neg neg' A A' n c n' c' _ hn hn').mono ?_); rintro e1 w1 ⟨rfl, hb1⟩; (with_reducible have K1 := KX.next hb1); obtain ⟨⟨_, _, _, _⟩, ⟨_, _, _, _⟩, _⟩ := (K1.blk (g := w.heap.size) (by repeat constructor)).four; clear KX hb1)
   | (go_at_call 156; apply Calls.withMm (w0 := w); (case K => with_reducible repeat (first | exact K1 | apply Mm.drew | apply Mm.drewN)); intro KX; (with_reducible refine (HLC _).mono ?_); rintro e2 w2 ⟨rfl, hb2⟩; (with_reducible have K2 := KX.next hb2); obtain ⟨⟨_, _, _, _⟩, ⟨_, _, _, _⟩, _⟩ := (K2.blk (g := w.heap.size) (by repeat constructor)).four; clear KX hb2))
 go_wp2_with fail
 rw [HW.out]
 go_ret
 exact ⟨rfl, K2.1⟩
end Go.Proofs.YtgekmbfmfiikkaaGreatDoor
