/-
  RoundProducts: the law's walk.
-/
import Derived.Test.YthddodhcpfponaaRef4L
import Derived.Test.YthddodhcpfponaaSame
namespace Go.Proofs.Ythddodhcpfponaa
open Go.RowKit

set_option maxHeartbeats 1600000 in
theorem law_products (x y : Nat) (hx : x < 2 ^ 64) (hy : y < 2 ^ 64) (w : World) : Calls Try.prog 5 #[.float .f64 x, .float .f64 y] w fun e w' => e = .returned (.bool true) ∧ Below w.heap.size w w' := by
  go_enter Try.func5, Try.ntmps5
  go_wp2_with fail
  refine (rnd_mul_any x y hx hy _).mono ?_
  rintro e1 w1 ⟨d1, u1, rfl, h1, hb1⟩
  have H1 := Lib.hid h1
  clear h1
  go_wp2_with fail
  refine (ref_mul_float x y hx hy _).mono ?_
  rintro e2 w2 ⟨d2, u2, rfl, h2, hb2⟩
  have hs := IsPair.same H1.out h2
  have HS : Hid ((Flt.sameB d1 d2 && Flt.sameB u1 u2) = true) := Lib.hid (by rw [Flt.sameB_iff.2 hs.1, Flt.sameB_iff.2 hs.2]; rfl)
  have hbw2 := below_next hb1 hb2
  clear h2 hs H1 hb1 hb2
  go_wp2_with fail
  refine (rnd_quo_any x y hx hy _).mono ?_
  rintro e3 w3 ⟨d3, u3, rfl, h3, hb3⟩
  have H3 := Lib.hid h3
  clear h3
  go_wp2_with fail
  refine (ref_quo_float x y hx hy _).mono ?_
  rintro e4 w4 ⟨d4, u4, rfl, h4, hb4⟩
  have hs := IsPair.same H3.out h4
  have HS2 : Hid ((Flt.sameB d3 d4 && Flt.sameB u3 u4) = true) := Lib.hid (by rw [Flt.sameB_iff.2 hs.1, Flt.sameB_iff.2 hs.2]; rfl)
  have hbw4 := below_next (below_next hbw2 hb3) hb4
  clear h4 hs H3 hbw2 hb3 hb4
  go_wp2_with (first | (go_at_call 12; (with_reducible refine (law_same d1 u1 d2 u2 _).mono ?_); rintro e5 w5 ⟨rfl, rfl⟩; rw [HS.out]) | (go_at_call 12; (with_reducible refine (law_same d3 u3 d4 u4 _).mono ?_); rintro e6 w6 ⟨rfl, rfl⟩; rw [HS2.out]))
  go_ret
  exact ⟨rfl, hbw4⟩
end Go.Proofs.Ythddodhcpfponaa
