/-
  Spans: polestarlaw05.do.
-/
import Derived.Test.YtcjpocepgkfkaaaSpnV
import Derived.Test.YtcjpocepgkfkaaaSpnB
namespace Go.Proofs.Ytcjpocepgkfkaaa
open Go.RowKit

def DoRel (k : Nat) (la ha lb hb : Nat) (p : Nat × Nat × Int) : Prop :=
  match k with
  | 0 => IsSpan (okS la ha && okS lb hb) (addL la ha lb hb) (addH la ha lb hb) p
  | 1 => IsSpan (okS la ha && okS lb hb) (subL la ha lb hb) (subH la ha lb hb) p
  | 2 => IsSpan (okS la ha && okS lb hb) (mulC la ha lb hb) (mulC la ha lb hb) p
  | _ => IsQuot (okS la ha && okS lb hb) (zB lb hb) (quoC la ha lb hb) (quoC la ha lb hb) p
set_option maxRecDepth 100000 in
set_option maxHeartbeats 1600000 in
theorem do_0 (la ha lb hb : Nat) (b1 : la < 2 ^ 64) (b2 : ha < 2 ^ 64) (b3 : lb < 2 ^ 64) (b4 : hb < 2 ^ 64) (w : World) :
    Calls Try.prog 4 #[.int .i64 0, .agg #[.float .f64 la, .float .f64 ha], .agg #[.float .f64 lb, .float .f64 hb]] w (RetSp w (DoRel 0 la ha lb hb)) := by
  go_enter Try.func4, Try.ntmps4
  go_wp2_with fail
  refine (span_add_any la ha lb hb b1 b2 b3 b4 _).mono ?_
  rintro e1 w1 ⟨⟨p0, p1, p2⟩, hp, rfl, hb1⟩
  have K1 := (((((Kept.nil w).two rfl _ _ _).two (g := w.heap.size + 1) (by simp) _ _ _).two (g := w.heap.size + 1 + 1) (by simp) _ _ _)).next hb1
  have R1 := (Free.new ((w.alloc (.cells #[.float .f64 la, .float .f64 ha] 24)).alloc (.cells #[.float .f64 lb, .float .f64 hb] 24)) (g := w.heap.size + 1 + 1) (by simp) (.float .f64 0) (.float .f64 0) 24).next hb1
  clear hb1
  have HP := Lib.hid hp
  clear hp
  have a1 := (K1).2.1
  have c1 := (K1).2.2
  simp only [List.mem_cons, List.not_mem_nil, or_false, forall_eq_or_imp, forall_eq] at a1 c1
  obtain ⟨_, r0, r1⟩ := R1
  have i0 := c1.1
  have i1 := c1.2.1
  go_wp2_with fail
  exact bodyPost_ret (v := .tuple #[.agg #[.float .f64 p0, .float .f64 p1], .int .i64 p2]) (by simp [results, Try.results4, go_sem, i0, i1]) rfl
    ⟨(p0, p1, p2), HP.out, rfl, below_result K1.1 (by omega) _ _⟩
set_option maxRecDepth 100000 in
set_option maxHeartbeats 1600000 in
theorem do_1 (la ha lb hb : Nat) (b1 : la < 2 ^ 64) (b2 : ha < 2 ^ 64) (b3 : lb < 2 ^ 64) (b4 : hb < 2 ^ 64) (w : World) :
    Calls Try.prog 4 #[.int .i64 1, .agg #[.float .f64 la, .float .f64 ha], .agg #[.float .f64 lb, .float .f64 hb]] w (RetSp w (DoRel 1 la ha lb hb)) := by
  go_enter Try.func4, Try.ntmps4
  go_wp2_with fail
  refine (span_sub_any la ha lb hb b1 b2 b3 b4 _).mono ?_
  rintro e1 w1 ⟨⟨p0, p1, p2⟩, hp, rfl, hb1⟩
  have K1 := (((((Kept.nil w).two rfl _ _ _).two (g := w.heap.size + 1) (by simp) _ _ _).two (g := w.heap.size + 1 + 1) (by simp) _ _ _)).next hb1
  have R1 := (Free.new ((w.alloc (.cells #[.float .f64 la, .float .f64 ha] 24)).alloc (.cells #[.float .f64 lb, .float .f64 hb] 24)) (g := w.heap.size + 1 + 1) (by simp) (.float .f64 0) (.float .f64 0) 24).next hb1
  clear hb1
  have HP := Lib.hid hp
  clear hp
  have a1 := (K1).2.1
  have c1 := (K1).2.2
  simp only [List.mem_cons, List.not_mem_nil, or_false, forall_eq_or_imp, forall_eq] at a1 c1
  obtain ⟨_, r0, r1⟩ := R1
  have i0 := c1.1
  have i1 := c1.2.1
  go_wp2_with fail
  exact bodyPost_ret (v := .tuple #[.agg #[.float .f64 p0, .float .f64 p1], .int .i64 p2]) (by simp [results, Try.results4, go_sem, i0, i1]) rfl
    ⟨(p0, p1, p2), HP.out, rfl, below_result K1.1 (by omega) _ _⟩
set_option maxRecDepth 100000 in
set_option maxHeartbeats 1600000 in
theorem do_2 (la ha lb hb : Nat) (b1 : la < 2 ^ 64) (b2 : ha < 2 ^ 64) (b3 : lb < 2 ^ 64) (b4 : hb < 2 ^ 64) (w : World) :
    Calls Try.prog 4 #[.int .i64 2, .agg #[.float .f64 la, .float .f64 ha], .agg #[.float .f64 lb, .float .f64 hb]] w (RetSp w (DoRel 2 la ha lb hb)) := by
  go_enter Try.func4, Try.ntmps4
  go_wp2_with fail
  refine (span_mul_any la ha lb hb b1 b2 b3 b4 _).mono ?_
  rintro e1 w1 ⟨⟨p0, p1, p2⟩, hp, rfl, hb1⟩
  have K1 := (((((Kept.nil w).two rfl _ _ _).two (g := w.heap.size + 1) (by simp) _ _ _).two (g := w.heap.size + 1 + 1) (by simp) _ _ _)).next hb1
  have R1 := (Free.new ((w.alloc (.cells #[.float .f64 la, .float .f64 ha] 24)).alloc (.cells #[.float .f64 lb, .float .f64 hb] 24)) (g := w.heap.size + 1 + 1) (by simp) (.float .f64 0) (.float .f64 0) 24).next hb1
  clear hb1
  have HP := Lib.hid hp
  clear hp
  have a1 := (K1).2.1
  have c1 := (K1).2.2
  simp only [List.mem_cons, List.not_mem_nil, or_false, forall_eq_or_imp, forall_eq] at a1 c1
  obtain ⟨_, r0, r1⟩ := R1
  have i0 := c1.1
  have i1 := c1.2.1
  go_wp2_with fail
  exact bodyPost_ret (v := .tuple #[.agg #[.float .f64 p0, .float .f64 p1], .int .i64 p2]) (by simp [results, Try.results4, go_sem, i0, i1]) rfl
    ⟨(p0, p1, p2), HP.out, rfl, below_result K1.1 (by omega) _ _⟩
set_option maxRecDepth 100000 in
set_option maxHeartbeats 1600000 in
theorem do_3 (la ha lb hb : Nat) (b1 : la < 2 ^ 64) (b2 : ha < 2 ^ 64) (b3 : lb < 2 ^ 64) (b4 : hb < 2 ^ 64) (w : World) :
    Calls Try.prog 4 #[.int .i64 3, .agg #[.float .f64 la, .float .f64 ha], .agg #[.float .f64 lb, .float .f64 hb]] w (RetSp w (DoRel 3 la ha lb hb)) := by
  go_enter Try.func4, Try.ntmps4
  go_wp2_with fail
  refine (span_quo_any la ha lb hb b1 b2 b3 b4 _).mono ?_
  rintro e1 w1 ⟨⟨p0, p1, p2⟩, hp, rfl, hb1⟩
  have K1 := (((((Kept.nil w).two rfl _ _ _).two (g := w.heap.size + 1) (by simp) _ _ _).two (g := w.heap.size + 1 + 1) (by simp) _ _ _)).next hb1
  have R1 := (Free.new ((w.alloc (.cells #[.float .f64 la, .float .f64 ha] 24)).alloc (.cells #[.float .f64 lb, .float .f64 hb] 24)) (g := w.heap.size + 1 + 1) (by simp) (.float .f64 0) (.float .f64 0) 24).next hb1
  clear hb1
  have HP := Lib.hid hp
  clear hp
  have a1 := (K1).2.1
  have c1 := (K1).2.2
  simp only [List.mem_cons, List.not_mem_nil, or_false, forall_eq_or_imp, forall_eq] at a1 c1
  obtain ⟨_, r0, r1⟩ := R1
  have i0 := c1.1
  have i1 := c1.2.1
  go_wp2_with fail
  exact bodyPost_ret (v := .tuple #[.agg #[.float .f64 p0, .float .f64 p1], .int .i64 p2]) (by simp [results, Try.results4, go_sem, i0, i1]) rfl
    ⟨(p0, p1, p2), HP.out, rfl, below_result K1.1 (by omega) _ _⟩
theorem do_any (k : Nat) (hk : k < 4) (la ha lb hb : Nat) (b1 : la < 2 ^ 64) (b2 : ha < 2 ^ 64) (b3 : lb < 2 ^ 64) (b4 : hb < 2 ^ 64) (w : World) :
    Calls Try.prog 4 #[.int .i64 (k : Int), .agg #[.float .f64 la, .float .f64 ha], .agg #[.float .f64 lb, .float .f64 hb]] w (RetSp w (DoRel k la ha lb hb)) := by
  match k, hk with
  | 0, _ => exact do_0 la ha lb hb b1 b2 b3 b4 w
  | 1, _ => exact do_1 la ha lb hb b1 b2 b3 b4 w
  | 2, _ => exact do_2 la ha lb hb b1 b2 b3 b4 w
  | 3, _ => exact do_3 la ha lb hb b1 b2 b3 b4 w
end Go.Proofs.Ytcjpocepgkfkaaa
