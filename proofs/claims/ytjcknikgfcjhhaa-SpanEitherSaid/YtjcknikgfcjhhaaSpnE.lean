/-
  SpanEither: the walk.
-/
import Derived.Test.YtjcknikgfcjhhaaSpnLw
import Derived.Test.YtjcknikgfcjhhaaKept
import Derived.Test.YtjcknikgfcjhhaaSpnEp
namespace Go.Proofs.Ytjcknikgfcjhhaa
open Go.RowKit

set_option maxRecDepth 100000 in
set_option maxHeartbeats 1600000 in
theorem law_spanEither (la ha lb hb : Nat) (b1 : la < 2 ^ 64) (b2 : ha < 2 ^ 64) (b3 : lb < 2 ^ 64) (b4 : hb < 2 ^ 64) (w : World) :
    Calls Try.prog 4 #[.agg #[.float .f64 la, .float .f64 ha], .agg #[.float .f64 lb, .float .f64 hb]] w (RetV w (.bool true)) := by
  obtain ⟨A, hA⟩ : ∃ x, meetF la ha lb hb = x := ⟨_, rfl⟩
  obtain ⟨J, hJ⟩ : ∃ x, joinF la ha lb hb = x := ⟨_, rfl⟩
  have HA := Lib.hid hA
  have HA' := Lib.hid ((meetF_comm b1 b2 b3 b4).trans hA)
  have HJ := Lib.hid hJ
  have HJ' := Lib.hid ((joinF_comm b1 b2 b3 b4).trans hJ)
  have HC : Hid (J.2.2 = 0 ∨ J.2.2 = 1) := Lib.hid (by rw [← hJ]; exact join_code)
  have hl := meetJ_lt b1 b2 b3 b4 hA hJ
  clear hA hJ
  obtain ⟨A0, A1, A2⟩ := A
  obtain ⟨J0, J1, J2⟩ := J
  obtain ⟨l1, l2, l3, l4⟩ := hl
  go_enter Try.func4, Try.ntmps4
  go_wp2_with fail
  refine (span_meet_any la ha lb hb b1 b2 b3 b4 _).mono ?_
  rintro e1 w1 ⟨rfl, hb1⟩
  rw [HA.out]
  have K1 := (((Kept.nil w).two rfl _ _ _).two (g := w.heap.size + 1) (by simp) _ _ _).next hb1
  have a1 := (K1).2.1
  have c1 := (K1).2.2
  simp only [List.mem_cons, List.not_mem_nil, or_false, forall_eq_or_imp, forall_eq] at a1 c1
  clear hb1
  go_wp2_with fail
  refine (span_meet_any lb hb la ha b3 b4 b1 b2 _).mono ?_
  rintro e2 w2 ⟨rfl, hb2⟩
  rw [HA'.out]
  have K2 := (K1.two rfl _ _ _).next hb2
  clear a1 c1 hb2
  have a2 := (K2).2.1
  have c2 := (K2).2.2
  simp only [List.mem_cons, List.not_mem_nil, or_false, forall_eq_or_imp, forall_eq] at a2 c2
  go_wp2_with fail
  refine (span_join_any la ha lb hb b1 b2 b3 b4 _).mono ?_
  rintro e3 w3 ⟨rfl, hb3⟩
  rw [HJ.out]
  have K3 := (K2.two rfl _ _ _).next hb3
  clear a2 c2 hb3
  have a3 := (K3).2.1
  have c3 := (K3).2.2
  simp only [List.mem_cons, List.not_mem_nil, or_false, forall_eq_or_imp, forall_eq] at a3 c3
  go_wp2_with fail
  refine (span_join_any lb hb la ha b3 b4 b1 b2 _).mono ?_
  rintro e4 w4 ⟨rfl, hb4⟩
  rw [HJ'.out]
  have K4 := (K3.two rfl _ _ _).next hb4
  have K5 := K4.two rfl (.float .f64 J0) (.float .f64 J1) 24
  clear a3 c3 hb4
  have a5 := (K5).2.1
  have c5 := (K5).2.2
  simp only [List.mem_cons, List.not_mem_nil, or_false, forall_eq_or_imp, forall_eq] at a5 c5
  go_wp2_with fail
  refine (sameSpan_eq A0 A1 _).mono ?_
  rintro e6 w6 ⟨rfl, hb6⟩
  have K6 := K5.next hb6
  clear a5 c5 hb6
  have a6 := (K6).2.1
  have c6 := (K6).2.2
  simp only [List.mem_cons, List.not_mem_nil, or_false, forall_eq_or_imp, forall_eq] at a6 c6
  go_wp2_with fail
  refine (sameSpan_eq J0 J1 _).mono ?_
  rintro e7 w7 ⟨rfl, hb7⟩
  have K7 := K6.next hb7
  clear a6 c6 hb7
  have a7 := (K7).2.1
  have c7 := (K7).2.2
  simp only [List.mem_cons, List.not_mem_nil, or_false, forall_eq_or_imp, forall_eq] at a7 c7
  cases A2 with
  | true =>
    have HMI := Lib.hid (meet_in HA.out)
    rcases HC.out with hc | hc
    · have hc : J2 = 0 := hc
      subst hc
      have HJI := Lib.hid (join_in HJ.out)
      go_wp2_with fail
      refine (span_in_any A0 A1 la ha l1 l2 b1 b2 _).mono ?_
      rintro e8 w8 ⟨rfl, hb8⟩
      rw [HMI.out.1]
      have K8 := K7.next hb8
      clear a7 c7 hb8
      have a8 := (K8).2.1
      have c8 := (K8).2.2
      simp only [List.mem_cons, List.not_mem_nil, or_false, forall_eq_or_imp, forall_eq] at a8 c8
      go_wp2_with fail
      refine (span_in_any A0 A1 lb hb l1 l2 b3 b4 _).mono ?_
      rintro e9 w9 ⟨rfl, hb9⟩
      rw [HMI.out.2]
      have K9 := K8.next hb9
      clear a8 c8 hb9
      have a9 := (K9).2.1
      have c9 := (K9).2.2
      simp only [List.mem_cons, List.not_mem_nil, or_false, forall_eq_or_imp, forall_eq] at a9 c9
      go_wp2_with fail
      refine (span_in_any la ha J0 J1 b1 b2 l3 l4 _).mono ?_
      rintro e10 w10 ⟨rfl, hb10⟩
      rw [HJI.out.1]
      have K10 := K9.next hb10
      clear a9 c9 hb10
      have a10 := (K10).2.1
      have c10 := (K10).2.2
      simp only [List.mem_cons, List.not_mem_nil, or_false, forall_eq_or_imp, forall_eq] at a10 c10
      go_wp2_with fail
      refine (span_in_any lb hb J0 J1 b3 b4 l3 l4 _).mono ?_
      rintro e11 w11 ⟨rfl, hb11⟩
      rw [HJI.out.2]
      have K11 := K10.next hb11
      clear a10 c10 hb11
      have a11 := (K11).2.1
      have c11 := (K11).2.2
      simp only [List.mem_cons, List.not_mem_nil, or_false, forall_eq_or_imp, forall_eq] at a11 c11
      go_wp2_with fail
      refine (lives05 _).mono ?_
      rintro e12 w12 ⟨rfl, hb12⟩
      have K12 := K11.next hb12
      go_wp2_with fail
      go_ret
      exact ⟨rfl, K12.1⟩
    · have hc : J2 = 1 := hc
      subst hc
      go_wp2_with fail
      refine (span_in_any A0 A1 la ha l1 l2 b1 b2 _).mono ?_
      rintro e8 w8 ⟨rfl, hb8⟩
      rw [HMI.out.1]
      have K8 := K7.next hb8
      clear a7 c7 hb8
      have a8 := (K8).2.1
      have c8 := (K8).2.2
      simp only [List.mem_cons, List.not_mem_nil, or_false, forall_eq_or_imp, forall_eq] at a8 c8
      go_wp2_with fail
      refine (span_in_any A0 A1 lb hb l1 l2 b3 b4 _).mono ?_
      rintro e9 w9 ⟨rfl, hb9⟩
      rw [HMI.out.2]
      have K9 := K8.next hb9
      clear a8 c8 hb9
      have a9 := (K9).2.1
      have c9 := (K9).2.2
      simp only [List.mem_cons, List.not_mem_nil, or_false, forall_eq_or_imp, forall_eq] at a9 c9
      go_wp2_with fail
      refine (lives05 _).mono ?_
      rintro e12 w12 ⟨rfl, hb12⟩
      have K12 := K9.next hb12
      go_wp2_with fail
      go_ret
      exact ⟨rfl, K12.1⟩
  | false =>
    rcases HC.out with hc | hc
    · have hc : J2 = 0 := hc
      subst hc
      have HJI := Lib.hid (join_in HJ.out)
      go_wp2_with fail
      refine (span_in_any la ha J0 J1 b1 b2 l3 l4 _).mono ?_
      rintro e10 w10 ⟨rfl, hb10⟩
      rw [HJI.out.1]
      have K10 := K7.next hb10
      clear a7 c7 hb10
      have a10 := (K10).2.1
      have c10 := (K10).2.2
      simp only [List.mem_cons, List.not_mem_nil, or_false, forall_eq_or_imp, forall_eq] at a10 c10
      go_wp2_with fail
      refine (span_in_any lb hb J0 J1 b3 b4 l3 l4 _).mono ?_
      rintro e11 w11 ⟨rfl, hb11⟩
      rw [HJI.out.2]
      have K11 := K10.next hb11
      clear a10 c10 hb11
      have a11 := (K11).2.1
      have c11 := (K11).2.2
      simp only [List.mem_cons, List.not_mem_nil, or_false, forall_eq_or_imp, forall_eq] at a11 c11
      go_wp2_with fail
      refine (lives05 _).mono ?_
      rintro e12 w12 ⟨rfl, hb12⟩
      have K12 := K11.next hb12
      go_wp2_with fail
      go_ret
      exact ⟨rfl, K12.1⟩
    · have hc : J2 = 1 := hc
      subst hc
      go_wp2_with fail
      refine (lives05 _).mono ?_
      rintro e12 w12 ⟨rfl, hb12⟩
      have K12 := K7.next hb12
      go_wp2_with fail
      go_ret
      exact ⟨rfl, K12.1⟩
end Go.Proofs.Ytjcknikgfcjhhaa
