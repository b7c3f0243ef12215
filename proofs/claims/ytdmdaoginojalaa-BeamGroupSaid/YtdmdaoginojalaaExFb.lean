/-
  What a fraction costs (IntSize, FracSize, Lowest, FracCost).
-/
import Derived.Test.YtdmdaoginojalaaFrp
namespace Go.Proofs.Ytdmdaoginojalaa
open Go.RowKit

set_option maxRecDepth 100000 in
theorem int_size_any (neg : Bool) (A : Option Addr) (n c : Nat) (w : World) (hn : n ≤ 281474976710656) :
    Calls Try.prog 86 #[.agg #[.bool neg, .slice A n c]] w (RetV w (.int .i64 (1 + (n : Int)))) := by
  go_enter Try.func86, Try.ntmps86
  go_wp2
  go_ret
  exact ⟨rfl, (Below.refl _ _).alloc (Nat.le_refl _) _⟩
set_option maxRecDepth 100000 in
set_option maxHeartbeats 800000 in
theorem frac_size_any (neg neg' : Bool) (A A' : Option Addr) (n c n' c' : Nat) (w : World) (hn : n ≤ 281474976710656) (hn' : n' ≤ 281474976710656) :
    Calls Try.prog 50 #[.agg #[.bool neg, .slice A n c, .bool neg', .slice A' n' c']] w (RetV w (.int .i64 ((2 + n + n' : Nat) : Int))) := by
  have K0 := (Mm.nil w).var (g := w.heap.size) rfl [.bool neg, .slice A n c, .bool neg', .slice A' n' c'] 26
  have HW : Hid (IntKind.i64.wrap ((1 + (n : Int)) + (1 + (n' : Int))) = ((2 + n + n' : Nat) : Int)) := Lib.hid (by rw [IntWalk.i64_in _ (by omega)]; omega)
  go_enter Try.func50, Try.ntmps50
  go_wp2_with fail
  generalize w.alloc (.cells #[.bool neg, .slice A n c, .bool neg', .slice A' n' c'] 26) = w0 at K0 ⊢
  obtain ⟨⟨qa0, qb0, qc0, qd0⟩, ⟨qe0, qf0, qg0, qh0⟩, qi0⟩ := (K0.blk (g := w.heap.size) (vs := [.bool neg, .slice A n c, .bool neg', .slice A' n' c']) (by simp)).four
  go_region_held3 (fun w' => w'.cell? ⟨w.heap.size, 0, none⟩ = some (.bool neg) ∧ w'.cell? ⟨w.heap.size, 1, none⟩ = some (.slice A n c) ∧ w'.cell? ⟨w.heap.size, 2, none⟩ = some (.bool neg') ∧ w'.cell? ⟨w.heap.size, 3, none⟩ = some (.slice A' n' c'))
    (go_keep)
    (first
      | (go_at_call 86; (with_reducible refine (int_size_any neg A n c _ hn).mono ?_); rintro e1 w1 ⟨rfl, hb1⟩; (first | (with_reducible have K1 := K0.next hb1) | (with_reducible have K1 := K0.drew.next hb1) | (with_reducible have K1 := (K0.drewN _).next hb1)); obtain ⟨⟨qa1, qb1, qc1, qd1⟩, ⟨qe1, qf1, qg1, qh1⟩, qi1⟩ := (K1.blk (g := w.heap.size) (vs := [.bool neg, .slice A n c, .bool neg', .slice A' n' c']) (by simp)).four; clear hb1)
      | (go_at_call 86; (with_reducible refine (int_size_any neg' A' n' c' _ hn').mono ?_); rintro e2 w2 ⟨rfl, hb2⟩; (first | (with_reducible have K2 := K1.next hb2) | (with_reducible have K2 := K1.drew.next hb2) | (with_reducible have K2 := (K1.drewN _).next hb2)); obtain ⟨⟨qa2, qb2, qc2, qd2⟩, ⟨qe2, qf2, qg2, qh2⟩, qi2⟩ := (K2.blk (g := w.heap.size) (vs := [.bool neg, .slice A n c, .bool neg', .slice A' n' c']) (by simp)).four; clear hb2))
  go_wp2_with fail
  rw [HW.out]
  go_ret
  exact ⟨rfl, K2.1⟩
end Go.Proofs.Ytdmdaoginojalaa
