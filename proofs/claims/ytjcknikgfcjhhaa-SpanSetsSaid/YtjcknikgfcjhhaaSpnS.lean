/-
  SpanSets: the walk.
-/
import Derived.Test.YtjcknikgfcjhhaaSpnLw
import Derived.Test.YtjcknikgfcjhhaaKept
namespace Go.Proofs.Ytjcknikgfcjhhaa
open Go.RowKit

set_option maxRecDepth 100000 in
set_option maxHeartbeats 1600000 in
theorem law_spanSets (la ha lb hb : Nat) (b1 : la < 2 ^ 64) (b2 : ha < 2 ^ 64) (b3 : lb < 2 ^ 64) (b4 : hb < 2 ^ 64) (w : World) :
    Calls Try.prog 3 #[.agg #[.float .f64 la, .float .f64 ha], .agg #[.float .f64 lb, .float .f64 hb]] w (RetV w (.bool true)) := by
  obtain ⟨A, hA⟩ : ∃ x, meetF la ha lb hb = x := ⟨_, rfl⟩
  obtain ⟨J, hJ⟩ : ∃ x, joinF la ha lb hb = x := ⟨_, rfl⟩
  obtain ⟨m, hm⟩ : ∃ x, inB la ha lb hb = x := ⟨_, rfl⟩
  have HA := Lib.hid hA
  have HJ := Lib.hid hJ
  have HM := Lib.hid hm
  clear hA hJ hm
  obtain ⟨A0, A1, A2⟩ := A
  obtain ⟨J0, J1, J2⟩ := J
  go_enter Try.func3, Try.ntmps3
  go_wp2_with fail
  refine (span_meet_any la ha lb hb b1 b2 b3 b4 _).mono ?_
  rintro e1 w1 ⟨rfl, hb1⟩
  rw [HA.out]
  have K1 := (((Kept.nil w).two rfl _ _ _).two (g := w.heap.size + 1) (by simp) _ _ _).next hb1
  have a1 := (K1).2.1
  have c1 := (K1).2.2
  simp only [List.mem_cons, List.not_mem_nil, or_false, forall_eq_or_imp, forall_eq] at a1 c1
  clear hb1
  go_wp2_with fail
  refine (ref_meet_any la ha lb hb b1 b2 b3 b4 _).mono ?_
  rintro e2 w2 ⟨rfl, hb2⟩
  rw [HA.out]
  have K2 := (K1.two rfl _ _ _).next hb2
  clear a1 c1 hb2
  have a2 := (K2).2.1
  have c2 := (K2).2.2
  simp only [List.mem_cons, List.not_mem_nil, or_false, forall_eq_or_imp, forall_eq] at a2 c2
  go_wp2_with fail
  refine (span_join_any la ha lb hb b1 b2 b3 b4 _).mono ?_
  rintro e3 w3 ⟨rfl, hb3⟩
  rw [HJ.out]
  have K3 := (K2.two rfl _ _ _).next hb3
  clear a2 c2 hb3
  have a3 := (K3).2.1
  have c3 := (K3).2.2
  simp only [List.mem_cons, List.not_mem_nil, or_false, forall_eq_or_imp, forall_eq] at a3 c3
  go_wp2_with fail
  refine (ref_join_any la ha lb hb b1 b2 b3 b4 _).mono ?_
  rintro e4 w4 ⟨rfl, hb4⟩
  rw [HJ.out]
  have K4 := (K3.two rfl _ _ _).next hb4
  have K5 := K4.two rfl (.float .f64 J0) (.float .f64 J1) 24
  clear a3 c3 hb4
  have a5 := (K5).2.1
  have c5 := (K5).2.2
  simp only [List.mem_cons, List.not_mem_nil, or_false, forall_eq_or_imp, forall_eq] at a5 c5
  go_wp2_with fail
  go_region_held3 (fun w' => w'.cell? ⟨w4.heap.size, 0, none⟩ = some (.float .f64 J0) ∧ w'.cell? ⟨w4.heap.size, 1, none⟩ = some (.float .f64 J1) ∧ w'.cell? ⟨w3.heap.size, 0, none⟩ = some (.float .f64 J0) ∧ w'.cell? ⟨w3.heap.size, 1, none⟩ = some (.float .f64 J1) ∧ w'.cell? ⟨w2.heap.size, 0, none⟩ = some (.float .f64 A0) ∧ w'.cell? ⟨w2.heap.size, 1, none⟩ = some (.float .f64 A1) ∧ w'.cell? ⟨w1.heap.size, 0, none⟩ = some (.float .f64 A0) ∧ w'.cell? ⟨w1.heap.size, 1, none⟩ = some (.float .f64 A1) ∧ w'.cell? ⟨w.heap.size + 1, 0, none⟩ = some (.float .f64 lb) ∧ w'.cell? ⟨w.heap.size + 1, 1, none⟩ = some (.float .f64 hb) ∧ w'.cell? ⟨w.heap.size, 0, none⟩ = some (.float .f64 la) ∧ w'.cell? ⟨w.heap.size, 1, none⟩ = some (.float .f64 ha))
    (first | exact c5 | exact c6 | exact c7 | exact c8 | exact c9 | exact c10)
    (first
    | (go_at_call 12; (with_reducible refine (span_in_any la ha lb hb b1 b2 b3 b4 _).mono ?_); rintro e6 w6 ⟨rfl, hb6⟩; rw [HM.out]; have K6 := K5.next (by first | exact hb6 | exact below_of_drew hb6 | exact below_of_drewN hb6); have a6 := (K6).2.1; have c6 := (K6).2.2; simp only [List.mem_cons, List.not_mem_nil, or_false, forall_eq_or_imp, forall_eq] at a6 c6; clear hb6)
    | (go_at_call 13; (with_reducible refine (ref_in_any la ha lb hb _).mono ?_); rintro e7 w7 ⟨rfl, hb7⟩; rw [HM.out]; have K7 := K6.next (by first | exact hb7 | exact below_of_drew hb7 | exact below_of_drewN hb7); have a7 := (K7).2.1; have c7 := (K7).2.2; simp only [List.mem_cons, List.not_mem_nil, or_false, forall_eq_or_imp, forall_eq] at a7 c7; clear hb7)
    | (go_at_call 14; (with_reducible refine (sameSpan_eq A0 A1 _).mono ?_); rintro e8 w8 ⟨rfl, hb8⟩; have K8 := K7.next (by first | exact hb8 | exact below_of_drew hb8 | exact below_of_drewN hb8); have a8 := (K8).2.1; have c8 := (K8).2.2; simp only [List.mem_cons, List.not_mem_nil, or_false, forall_eq_or_imp, forall_eq] at a8 c8; clear hb8)
    | (go_at_call 15; (with_reducible refine (same05_eq J0 J1 J2 _).mono ?_); rintro e9 w9 ⟨rfl, hb9⟩; have K9 := K8.next (by first | exact hb9 | exact below_of_drew hb9 | exact below_of_drewN hb9); have a9 := (K9).2.1; have c9 := (K9).2.2; simp only [List.mem_cons, List.not_mem_nil, or_false, forall_eq_or_imp, forall_eq] at a9 c9; clear hb9)
    | (go_at_call 16; (with_reducible refine (lives05 _).mono ?_); rintro e10 w10 ⟨rfl, hb10⟩; have K10 := K9.next (by first | exact hb10 | exact below_of_drew hb10 | exact below_of_drewN hb10); have a10 := (K10).2.1; have c10 := (K10).2.2; simp only [List.mem_cons, List.not_mem_nil, or_false, forall_eq_or_imp, forall_eq] at a10 c10; clear hb10))
  all_goals (go_wp2_with fail)
  all_goals go_ret
  all_goals exact ⟨rfl, K10.1⟩
end Go.Proofs.Ytjcknikgfcjhhaa
