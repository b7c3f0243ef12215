/-
  Spans: the reference's Join.
-/
import Derived.Test.YtjcknikgfcjhhaaSpnQ
namespace Go.Proofs.Ytjcknikgfcjhhaa
open Go.RowKit

theorem below_drew {B : Nat} {a w : World} (h : Below B a w) : Below B a w.drew := ⟨h.os, h.tape, h.output, h.size, h.block⟩

set_option maxRecDepth 100000 in
set_option maxHeartbeats 800000 in
theorem ref_join_any (la ha lb hb : Nat) (b1 : la < 2 ^ 64) (b2 : ha < 2 ^ 64) (b3 : lb < 2 ^ 64) (b4 : hb < 2 ^ 64) (w : World) :
    Calls Try.prog 11 #[.agg #[.float .f64 la, .float .f64 ha], .agg #[.float .f64 lb, .float .f64 hb]] w (RetSpan w (joinF la ha lb hb).1 (joinF la ha lb hb).2.1 (.int .i64 (joinF la ha lb hb).2.2)) := by
  rcases okI_cases la ha with ⟨a1, a2⟩ | ⟨a1, a2⟩
  · rcases okI_cases lb hb with ⟨c1, c2⟩ | ⟨c1, c2⟩
    · obtain ⟨f1, f2, _⟩ := okS_iff.1 a1
      obtain ⟨f3, f4, _⟩ := okS_iff.1 c1
      have G := Lib.hid (grF_eq b2 b4 f2 f4)
      have L := Lib.hid (lsF_eq b1 b3 f1 f3)
      have HEND : Hid (joinF la ha lb hb = (lsF la lb, grF ha hb, 0)) := Lib.hid (by unfold joinF; rw [a1, c1, G.out, L.out]; rfl)
      rw [HEND.out]
      clear a1 c1 f1 f2 f3 f4
      go_enter Try.func11, Try.ntmps11
      go_wp2_with fail
      refine (ref_check_any la ha _).mono ?_
      rintro e1 w1 ⟨rfl, hb1⟩
      rw [a2]
      have hs := hb1.size
      have k0 := (bcell hb1).1 w.heap.size 0 (by simp <;> omega)
      have k1 := (bcell hb1).1 w.heap.size 1 (by simp <;> omega)
      have k2 := (bcell hb1).1 (w.heap.size + 1) 0 (by simp <;> omega)
      have k3 := (bcell hb1).1 (w.heap.size + 1) 1 (by simp <;> omega)
      have k4 := (bcell hb1).1 (w.heap.size + 1 + 1) 0 (by simp <;> omega)
      have k5 := (bcell hb1).1 (w.heap.size + 1 + 1) 1 (by simp <;> omega)
      have k6 := (bcell hb1).2 (w.heap.size + 1 + 1) 0 (by simp <;> omega)
      have k7 := (bcell hb1).2 (w.heap.size + 1 + 1) 1 (by simp <;> omega)
      go_wp2_with fail
      refine (ref_check_any lb hb _).mono ?_
      rintro e2 w2 ⟨rfl, hb2⟩
      rw [c2]
      have j0 := ((bcell hb2).1 w.heap.size 0 (by simp at hs ⊢ <;> omega)).trans k0
      have j1 := ((bcell hb2).1 w.heap.size 1 (by simp at hs ⊢ <;> omega)).trans k1
      have j2 := ((bcell hb2).1 (w.heap.size + 1) 0 (by simp at hs ⊢ <;> omega)).trans k2
      have j3 := ((bcell hb2).1 (w.heap.size + 1) 1 (by simp at hs ⊢ <;> omega)).trans k3
      have j4 := ((bcell hb2).1 (w.heap.size + 1 + 1) 0 (by simp at hs ⊢ <;> omega)).trans k4
      have j5 := ((bcell hb2).1 (w.heap.size + 1 + 1) 1 (by simp at hs ⊢ <;> omega)).trans k5
      have j6 := ((bcell hb2).2 (w.heap.size + 1 + 1) 0 (by simp at hs ⊢ <;> omega)).trans k6
      have j7 := ((bcell hb2).2 (w.heap.size + 1 + 1) 1 (by simp at hs ⊢ <;> omega)).trans k7
      clear k0 k1 k2 k3 k4 k5 k6 k7
      have i0 : w2.cell? ⟨w.heap.size, 0, none⟩ = some (.float .f64 la) := by rw [j0]; simp [go_sem]
      have i1 : w2.cell? ⟨w.heap.size, 1, none⟩ = some (.float .f64 ha) := by rw [j1]; simp [go_sem]
      have i2 : w2.cell? ⟨w.heap.size + 1, 0, none⟩ = some (.float .f64 lb) := by rw [j2]; simp [go_sem]
      have i3 : w2.cell? ⟨w.heap.size + 1, 1, none⟩ = some (.float .f64 hb) := by rw [j3]; simp [go_sem]
      have i4 : w2.cell? ⟨w.heap.size + 1 + 1, 0, none⟩ = some (.float .f64 0) := by rw [j4]; simp [go_sem]
      have i5 : w2.cell? ⟨w.heap.size + 1 + 1, 1, none⟩ = some (.float .f64 0) := by rw [j5]; simp [go_sem]
      have i6 : w2.frozen? ⟨w.heap.size + 1 + 1, 0, none⟩ = false := by rw [j6]; simp [go_sem]
      have i7 : w2.frozen? ⟨w.heap.size + 1 + 1, 1, none⟩ = false := by rw [j7]; simp [go_sem]
      have hbw := below_box (below_box (below_box (below_next hb1 hb2)))
      clear j0 j1 j2 j3 j4 j5 j6 j7 hs hb1 hb2
      go_wp2_with fail
      have n1 : ¬ w.heap.size = w.heap.size + 1 + 1 := by omega
      have n2 : ¬ w.heap.size + 1 + 1 = w.heap.size := by omega
      have n3 : ¬ w.heap.size + 1 = w.heap.size + 1 + 1 := by omega
      have n4 : ¬ w.heap.size + 1 + 1 = w.heap.size + 1 := by omega
      go_region_held3 (fun w' => w'.cell? ⟨w.heap.size, 0, none⟩ = some (.float .f64 la) ∧ w'.cell? ⟨w.heap.size, 1, none⟩ = some (.float .f64 ha) ∧ w'.cell? ⟨w.heap.size + 1, 0, none⟩ = some (.float .f64 lb) ∧ w'.cell? ⟨w.heap.size + 1, 1, none⟩ = some (.float .f64 hb))
        (first | exact ⟨i0, i1, i2, i3⟩ | go_keep)
        (first
        | (go_at_call 31; (with_reducible refine (ref_lesser_any la lb b1 b3 _).mono ?_); rintro e3 w3 ⟨rfl, rfl⟩)
        | (go_at_call 30; (with_reducible refine (ref_greater_any ha hb b2 b4 _).mono ?_); rintro e4 w4 ⟨rfl, rfl⟩))
      all_goals (go_wp2_with fail)
      all_goals exact bodyPost_ret (v := .tuple #[.agg #[.float .f64 (lsF la lb), .float .f64 (grF ha hb)], .int .i64 0]) (by simp [results, Try.results11, go_sem, i4, i5]) rfl ⟨rfl, below_drew (below_result hbw (Nat.le_add_right _ 2) _ _)⟩
    · have HEND : Hid (joinF la ha lb hb = (0, 0, 1)) := Lib.hid (by unfold joinF; rw [a1, c1]; rfl)
      rw [HEND.out]
      go_enter Try.func11, Try.ntmps11
      go_wp2_with fail
      refine (ref_check_any la ha _).mono ?_
      rintro e1 w1 ⟨rfl, hb1⟩
      rw [a2]
      have hs := hb1.size
      have k0 := (bcell hb1).1 w.heap.size 0 (by simp <;> omega)
      have k1 := (bcell hb1).1 w.heap.size 1 (by simp <;> omega)
      have k2 := (bcell hb1).1 (w.heap.size + 1) 0 (by simp <;> omega)
      have k3 := (bcell hb1).1 (w.heap.size + 1) 1 (by simp <;> omega)
      have k4 := (bcell hb1).1 (w.heap.size + 1 + 1) 0 (by simp <;> omega)
      have k5 := (bcell hb1).1 (w.heap.size + 1 + 1) 1 (by simp <;> omega)
      have k6 := (bcell hb1).2 (w.heap.size + 1 + 1) 0 (by simp <;> omega)
      have k7 := (bcell hb1).2 (w.heap.size + 1 + 1) 1 (by simp <;> omega)
      go_wp2_with fail
      refine (ref_check_any lb hb _).mono ?_
      rintro e2 w2 ⟨rfl, hb2⟩
      rw [c2]
      have j0 := ((bcell hb2).1 w.heap.size 0 (by simp at hs ⊢ <;> omega)).trans k0
      have j1 := ((bcell hb2).1 w.heap.size 1 (by simp at hs ⊢ <;> omega)).trans k1
      have j2 := ((bcell hb2).1 (w.heap.size + 1) 0 (by simp at hs ⊢ <;> omega)).trans k2
      have j3 := ((bcell hb2).1 (w.heap.size + 1) 1 (by simp at hs ⊢ <;> omega)).trans k3
      have j4 := ((bcell hb2).1 (w.heap.size + 1 + 1) 0 (by simp at hs ⊢ <;> omega)).trans k4
      have j5 := ((bcell hb2).1 (w.heap.size + 1 + 1) 1 (by simp at hs ⊢ <;> omega)).trans k5
      have j6 := ((bcell hb2).2 (w.heap.size + 1 + 1) 0 (by simp at hs ⊢ <;> omega)).trans k6
      have j7 := ((bcell hb2).2 (w.heap.size + 1 + 1) 1 (by simp at hs ⊢ <;> omega)).trans k7
      clear k0 k1 k2 k3 k4 k5 k6 k7
      go_wp2_with fail
      exact bodyPost_ret (v := .tuple #[.agg #[.float .f64 0, .float .f64 0], .int .i64 1]) (by simp [results, Try.results11, go_sem, j4, j5]) rfl
        ⟨rfl, below_result (below_box (below_box (below_box (below_next hb1 hb2)))) (by omega) _ _⟩
  · have HEND : Hid (joinF la ha lb hb = (0, 0, 1)) := Lib.hid (by unfold joinF; rw [a1]; rfl)
    rw [HEND.out]
    go_enter Try.func11, Try.ntmps11
    go_wp2_with fail
    refine (ref_check_any la ha _).mono ?_
    rintro e1 w1 ⟨rfl, hb1⟩
    rw [a2]
    have hs := hb1.size
    have k0 := (bcell hb1).1 w.heap.size 0 (by simp <;> omega)
    have k1 := (bcell hb1).1 w.heap.size 1 (by simp <;> omega)
    have k2 := (bcell hb1).1 (w.heap.size + 1) 0 (by simp <;> omega)
    have k3 := (bcell hb1).1 (w.heap.size + 1) 1 (by simp <;> omega)
    have k4 := (bcell hb1).1 (w.heap.size + 1 + 1) 0 (by simp <;> omega)
    have k5 := (bcell hb1).1 (w.heap.size + 1 + 1) 1 (by simp <;> omega)
    have k6 := (bcell hb1).2 (w.heap.size + 1 + 1) 0 (by simp <;> omega)
    have k7 := (bcell hb1).2 (w.heap.size + 1 + 1) 1 (by simp <;> omega)
    go_wp2_with fail
    exact bodyPost_ret (v := .tuple #[.agg #[.float .f64 0, .float .f64 0], .int .i64 1]) (by simp [results, Try.results11, go_sem, k4, k5]) rfl
      ⟨rfl, below_result (below_box (below_box (below_box (hb1)))) (by omega) _ _⟩
end Go.Proofs.Ytjcknikgfcjhhaa
