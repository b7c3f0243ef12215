/-
  RoundTurned: the law's walk.
-/
import Derived.Test.YthddodhcpfponaaTurnL
namespace Go.Proofs.Ythddodhcpfponaa
open Go.RowKit

set_option maxRecDepth 100000 in
set_option maxHeartbeats 4000000 in
theorem law_roundTurned (x y : Nat) (hx : x < 2 ^ 64) (hy : y < 2 ^ 64) (w : World) : Calls Try.prog 9 #[.float .f64 x, .float .f64 y] w fun e w' => e = .returned (.bool true) ∧ Below w.heap.size w w' := by
  have hnx : Hid (neg64 x = Flt.opp x) := Lib.hid (neg64_eq x hx)
  have hny : Hid (neg64 y = Flt.opp y) := Lib.hid (neg64_eq y hy)
  have hoo : Hid (Flt.opp (Flt.opp y) = y) := Lib.hid (Flt.opp_opp hy)
  go_enter Try.func9, Try.ntmps9
  go_wp2_with fail
  refine (law_alive _).mono ?_
  rintro e0 w0 ⟨rfl, hb0⟩
  go_wp2_with fail
  refine (rnd_add_any x y hx hy _).mono ?_
  rintro e1 w1 ⟨d1, u1, rfl, h1, hb1⟩
  have H1 := Lib.hid h1
  have hbw1 := below_next hb0 hb1
  clear h1 hb1 hb0
  go_wp2_with fail
  rw [hnx.out, hny.out]
  refine (rnd_add_any (Flt.opp x) (Flt.opp y) (Flt.opp_lt x) (Flt.opp_lt y) _).mono ?_
  rintro e2 w2 ⟨d2, u2, rfl, h2, hb2⟩
  have H2 := Lib.hid h2
  have hbw2 := below_next hbw1 hb2
  clear h2 hb2 hbw1
  go_wp2_with fail
  refine (rnd_add_any y x hy hx _).mono ?_
  rintro e3 w3 ⟨d3, u3, rfl, h3, hb3⟩
  have H3 := Lib.hid h3
  have hbw3 := below_next hbw2 hb3
  clear h3 hb3 hbw2
  go_wp2_with fail
  refine (rnd_mul_any x y hx hy _).mono ?_
  rintro e4 w4 ⟨d4, u4, rfl, h4, hb4⟩
  have H4 := Lib.hid h4
  have hbw4 := below_next hbw3 hb4
  clear h4 hb4 hbw3
  go_wp2_with fail
  rw [hnx.out]
  refine (rnd_mul_any (Flt.opp x) y (Flt.opp_lt x) hy _).mono ?_
  rintro e5 w5 ⟨d5, u5, rfl, h5, hb5⟩
  have H5 := Lib.hid h5
  have hbw5 := below_next hbw4 hb5
  clear h5 hb5 hbw4
  go_wp2_with fail
  refine (rnd_mul_any y x hy hx _).mono ?_
  rintro e6 w6 ⟨d6, u6, rfl, h6, hb6⟩
  have H6 := Lib.hid h6
  have hbw6 := below_next hbw5 hb6
  clear h6 hb6 hbw5
  go_wp2_with fail
  refine (rnd_quo_any x y hx hy _).mono ?_
  rintro e7 w7 ⟨d7, u7, rfl, h7, hb7⟩
  have H7 := Lib.hid h7
  have hbw7 := below_next hbw6 hb7
  clear h7 hb7 hbw6
  go_wp2_with fail
  rw [hny.out]
  refine (rnd_quo_any x (Flt.opp y) hx (Flt.opp_lt y) _).mono ?_
  rintro e8 w8 ⟨d8, u8, rfl, h8, hb8⟩
  have H8 := Lib.hid h8
  have hbw8 := below_next hbw7 hb8
  clear h8 hb8 hbw7
  go_wp2_with fail
  rw [hny.out]
  refine (rnd_sub_any x (Flt.opp y) hx (Flt.opp_lt y) _).mono ?_
  rintro e9 w9 ⟨d9, u9, rfl, h9, hb9⟩
  have H9 := Lib.hid h9
  have hbw9 := below_next hbw8 hb9
  clear h9 hb9 hbw8
  have T1 := Lib.hid (sum_turned H1.out H2.out)
  have T2 := Lib.hid (prod_turned H4.out H5.out)
  have T3 := Lib.hid (div_turned H7.out H8.out)
  have S1 : Hid (Flt.Same d1 d3 ∧ Flt.Same u1 u3) := Lib.hid (H1.out.same (sum_comm H3.out))
  have S2 : Hid (Flt.Same d4 d6 ∧ Flt.Same u4 u6) := Lib.hid (IsPair.same H4.out (prod_comm H6.out))
  have S3 : Hid (Flt.Same d1 d9 ∧ Flt.Same u1 u9) := Lib.hid (by
    have h := H9.out
    rw [hoo.out] at h
    exact H1.out.same h)
  have L2 := Lib.hid H2.out.lt
  have L5 := Lib.hid (IsPair.lt H5.out)
  have L8 := Lib.hid (IsPair.lt H8.out)
  clear H1 H2 H3 H4 H5 H6 H7 H8 H9 hoo hnx hny
  go_wp2_with (first
    | (go_at_call 34; (with_reducible refine (law_turned d1 u1 d2 u2 L2.out.1 L2.out.2 T1.out _).mono ?_); rintro e w' ⟨rfl, rfl⟩)
    | (go_at_call 34; (with_reducible refine (law_turned d4 u4 d5 u5 L5.out.1 L5.out.2 T2.out _).mono ?_); rintro e w' ⟨rfl, rfl⟩)
    | (go_at_call 34; (with_reducible refine (law_turned d7 u7 d8 u8 L8.out.1 L8.out.2 T3.out _).mono ?_); rintro e w' ⟨rfl, rfl⟩)
    | (go_at_call 12; (with_reducible refine (law_same_true d1 u1 d3 u3 _ S1).mono ?_); rintro e w' ⟨rfl, rfl⟩)
    | (go_at_call 12; (with_reducible refine (law_same_true d4 u4 d6 u6 _ S2).mono ?_); rintro e w' ⟨rfl, rfl⟩)
    | (go_at_call 12; (with_reducible refine (law_same_true d1 u1 d9 u9 _ S3).mono ?_); rintro e w' ⟨rfl, rfl⟩))
  go_ret
  exact ⟨rfl, hbw9⟩
end Go.Proofs.Ythddodhcpfponaa
