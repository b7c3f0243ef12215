/-
  StackWaves: the law's walk.
-/
import Derived.Test.YtgafjnfplgfajaaStk5
import Derived.Test.YtgafjnfplgfajaaStk6
import Derived.Test.YtgafjnfplgfajaaBey
namespace Go.Proofs.Ytgafjnfplgfajaa
open Go.RowKit

set_option maxHeartbeats 800000 in
theorem sameComplex_cs (a b c d : Nat) (h : Cs2 (a, b) (c, d)) (w : World) : Calls Try.prog 10 #[.complex .f64 a b, .complex .f64 c d] w fun e w' => e = .returned (.bool true) ∧ w = w' := by
  have h1 := Lib.hid (Flt.sameB_iff.2 h.1)
  have h2 := Lib.hid (Flt.sameB_iff.2 h.2)
  clear h
  go_enter Try.func10, Try.ntmps10
  go_wp2_with (first | (go_at_call 39; (with_reducible refine (law_sameFloat a c _).mono ?_); rintro e1 w1 ⟨rfl, rfl⟩; rw [h1.out]) | (go_at_call 39; (with_reducible refine (law_sameFloat b d _).mono ?_); rintro e1 w1 ⟨rfl, rfl⟩; rw [h2.out]))
  go_ret
  exact ⟨rfl, rfl⟩
set_option maxRecDepth 100000 in
set_option maxHeartbeats 3200000 in
theorem law_stackWaves (u v : Nat) (hu : u < 2 ^ 64) (hv : v < 2 ^ 64) (A : Option Addr) (n c : Nat) (C : Nat → Coat) (w : World) (hC : Cs w A n C) (hn : n ≤ 9223372036854775807) :
    Calls Try.prog 3 #[.float .f64 u, .float .f64 v, .slice A n c] w (RetV w (.bool true)) := by
  have hB0 : Below w.heap.size w (w.alloc (.cells #[.int .i64 (n : Int)] 3)) := (Below.refl _ _).alloc (Nat.le_refl _) _
  have hR0 : Reads (w.alloc (.cells #[.int .i64 (n : Int)] 3)) (w.alloc (.cells #[.int .i64 (n : Int)] 3)).heap.size (some ⟨w.heap.size, 0, none⟩) 1 (nats [n]) := nats_new w 3 [n]
  have HL : ∀ i, i < n → (C i).1 < 2 ^ 64 := fun i hi => by
    obtain ⟨g, o, _, _, hc⟩ := hC (by omega)
    exact (hc i hi).2.2.2
  have HLH := Lib.hid HL
  clear HL
  go_enter Try.func3, Try.ntmps3
  go_wp2_with fail
  generalize w.alloc (.cells #[.int .i64 (n : Int)] 3) = w0 at hB0 hR0 ⊢
  refine (beyond_any (some ⟨w.heap.size, 0, none⟩) 1 1 [n] _ hR0 (by decide) (by simpa using hn)).mono ?_
  rintro e1 w1 ⟨rfl, rfl⟩
  have hsum : [n].sum = n := by simp
  rw [hsum]
  by_cases hbig : 1048576 < n
  · rw [decide_eq_true hbig]
    go_wp2_with fail
    go_ret
    exact ⟨rfl, hB0⟩
  · rw [decide_eq_false hbig]
    have hn2 : n ≤ 1048576 := by omega
    have hC1 := hC.below hB0
    go_wp2_with fail
    refine (twin_coats_any A n c C _ hC1 hn2).mono ?_
    rintro e2 w2 ⟨g, c2, rfl, hT, hb2⟩
    have hC2 := hC1.below hb2
    have hB2 := below_next hB0 hb2
    go_wp2_with fail
    refine (stack_waves_any u v hu hv (some ⟨g, 0, none⟩) n c2 C _ (hT.coats HLH.out)).mono ?_
    rintro e3 w3 ⟨⟨b1, b2⟩, ⟨t1, t2⟩, x, rfl, hw3, hb3⟩
    have hC3 := hC2.below hb3
    have hT3 := hT.below hb3
    have hB3 := below_next hB2 hb3
    go_wp2_with fail
    refine (ref19_waves_any u v hu hv A n c C _ hC3).mono ?_
    rintro e4 w4 ⟨⟨d1, d2⟩, ⟨s1, s2⟩, y, rfl, hw4, hb4⟩
    have hC4 := hC3.below hb4
    have hT4 := hT3.below hb4
    have hB4 := below_next hB3 hb4
    obtain ⟨k1, k2, rfl⟩ := wav_same hw3 hw4
    clear hw3 hw4 hb2 hb3 hb4 hT hT3 hC1 hC2 hC3 hB0 hB2 hB3 hR0
    go_wp2_with (first
      | (go_at_call 10; (with_reducible refine (sameComplex_cs b1 b2 d1 d2 k1 _).mono ?_); rintro e5 w5 ⟨rfl, rfl⟩)
      | (go_at_call 10; (with_reducible refine (sameComplex_cs t1 t2 s1 s2 k2 _).mono ?_); rintro e5 w5 ⟨rfl, rfl⟩)
      | (go_at_call 11; (with_reducible refine (left_coats_any A n c g c2 C _ hC4 hT4 hn2).mono ?_); rintro e6 w6 ⟨rfl, hb6⟩))
    go_ret
    exact ⟨rfl, below_next hB4 hb6⟩
end Go.Proofs.Ytgafjnfplgfajaa
