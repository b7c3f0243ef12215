/-
  Spans: the reference's Meet and Join.
-/
import Derived.Test.YtjcknikgfcjhhaaSpnZ
namespace Go.Proofs.Ytjcknikgfcjhhaa
open Go.RowKit

set_option maxRecDepth 100000 in
set_option maxHeartbeats 800000 in
theorem ref_meet_any (la ha lb hb : Nat) (b1 : la < 2 ^ 64) (b2 : ha < 2 ^ 64) (b3 : lb < 2 ^ 64) (b4 : hb < 2 ^ 64) (w : World) :
    Calls Try.prog 9 #[.agg #[.float .f64 la, .float .f64 ha], .agg #[.float .f64 lb, .float .f64 hb]] w (RetSpan w (meetF la ha lb hb).1 (meetF la ha lb hb).2.1 (.bool (meetF la ha lb hb).2.2)) := by
  rcases okI_cases la ha with ⟨a1, a2⟩ | ⟨a1, a2⟩
  · rcases okI_cases lb hb with ⟨c1, c2⟩ | ⟨c1, c2⟩
    · obtain ⟨f1, f2, _⟩ := okS_iff.1 a1
      obtain ⟨f3, f4, _⟩ := okS_iff.1 c1
      have G := Lib.hid (grF_eq b1 b3 f1 f3)
      have L := Lib.hid (lsF_eq b2 b4 f2 f4)
      cases hm2 : (Ieee.double.order (mx la lb) (mn ha hb) == some .gt) with
      | true =>
        have HEND : Hid (meetF la ha lb hb = (0, 0, false)) := Lib.hid (by unfold meetF; rw [a1, c1, hm2]; rfl)
        have O : (Ieee.double.order (grF la lb) (lsF ha hb) == some .gt) = true := by rw [G.out, L.out, order_pz (mx_fin f1 f3) (mn_fin f2 f4), hm2]
        rw [HEND.out]
        clear hm2 a1 c1 f1 f2 f3 f4
        go_enter Try.func9, Try.ntmps9
        go_wp2_with fail
        refine (ref_greater_any la lb b1 b3 _).mono ?_
        rintro e3 w3 ⟨rfl, rfl⟩
        go_wp2_with fail
        refine (ref_lesser_any ha hb b2 b4 _).mono ?_
        rintro e4 w4 ⟨rfl, rfl⟩
        go_wp2_with fail
        refine (ref_check_any la ha _).mono ?_
        rintro e1 w1 ⟨rfl, hb1⟩
        rw [a2]
        have hs := hb1.size
        have k0 := (bcell hb1).1 w.heap.size 0 (by simp <;> omega)
        have k1 := (bcell hb1).1 w.heap.size 1 (by simp <;> omega)
        have k2 := (bcell hb1).1 (w.heap.size + 1) 0 (by simp <;> omega)
        have k3 := (bcell hb1).1 (w.heap.size + 1) 1 (by simp <;> omega)
        have k4 := (bcell hb1).1 (w.heap.size + 1 + 1) 0 (by simp <;> omega)
        have k5 := (bcell hb1).1 (w.heap.size + 1 + 1) 1 (by simp <;> omega)
        have k6 := (bcell hb1).2 (w.heap.size + 1 + 1) 0 (by simp <;> omega)
        have k7 := (bcell hb1).2 (w.heap.size + 1 + 1) 1 (by simp <;> omega)
        go_wp2_with fail
        refine (ref_check_any lb hb _).mono ?_
        rintro e2 w2 ⟨rfl, hb2⟩
        rw [c2]
        have j0 := ((bcell hb2).1 w.heap.size 0 (by simp at hs ⊢ <;> omega)).trans k0
        have j1 := ((bcell hb2).1 w.heap.size 1 (by simp at hs ⊢ <;> omega)).trans k1
        have j2 := ((bcell hb2).1 (w.heap.size + 1) 0 (by simp at hs ⊢ <;> omega)).trans k2
        have j3 := ((bcell hb2).1 (w.heap.size + 1) 1 (by simp at hs ⊢ <;> omega)).trans k3
        have j4 := ((bcell hb2).1 (w.heap.size + 1 + 1) 0 (by simp at hs ⊢ <;> omega)).trans k4
        have j5 := ((bcell hb2).1 (w.heap.size + 1 + 1) 1 (by simp at hs ⊢ <;> omega)).trans k5
        have j6 := ((bcell hb2).2 (w.heap.size + 1 + 1) 0 (by simp at hs ⊢ <;> omega)).trans k6
        have j7 := ((bcell hb2).2 (w.heap.size + 1 + 1) 1 (by simp at hs ⊢ <;> omega)).trans k7
        clear k0 k1 k2 k3 k4 k5 k6 k7
        go_wp2_with fail
        exact bodyPost_ret (v := .tuple #[.agg #[.float .f64 0, .float .f64 0], .bool false]) (by simp [results, Try.results9, go_sem, j4, j5]) rfl
          ⟨rfl, below_result (below_box (below_box (below_box (below_next hb1 hb2)))) (by omega) _ _⟩
      | false =>
        have HEND : Hid (meetF la ha lb hb = (grF la lb, lsF ha hb, true)) := Lib.hid (by unfold meetF; rw [a1, c1, hm2, G.out, L.out]; rfl)
        have O : (Ieee.double.order (grF la lb) (lsF ha hb) == some .gt) = false := by rw [G.out, L.out, order_pz (mx_fin f1 f3) (mn_fin f2 f4), hm2]
        rw [HEND.out]
        clear hm2 a1 c1 f1 f2 f3 f4
        go_enter Try.func9, Try.ntmps9
        go_wp2_with fail
        refine (ref_greater_any la lb b1 b3 _).mono ?_
        rintro e3 w3 ⟨rfl, rfl⟩
        go_wp2_with fail
        refine (ref_lesser_any ha hb b2 b4 _).mono ?_
        rintro e4 w4 ⟨rfl, rfl⟩
        go_wp2_with fail
        refine (ref_check_any la ha _).mono ?_
        rintro e1 w1 ⟨rfl, hb1⟩
        rw [a2]
        have hs := hb1.size
        have k0 := (bcell hb1).1 w.heap.size 0 (by simp <;> omega)
        have k1 := (bcell hb1).1 w.heap.size 1 (by simp <;> omega)
        have k2 := (bcell hb1).1 (w.heap.size + 1) 0 (by simp <;> omega)
        have k3 := (bcell hb1).1 (w.heap.size + 1) 1 (by simp <;> omega)
        have k4 := (bcell hb1).1 (w.heap.size + 1 + 1) 0 (by simp <;> omega)
        have k5 := (bcell hb1).1 (w.heap.size + 1 + 1) 1 (by simp <;> omega)
        have k6 := (bcell hb1).2 (w.heap.size + 1 + 1) 0 (by simp <;> omega)
        have k7 := (bcell hb1).2 (w.heap.size + 1 + 1) 1 (by simp <;> omega)
        go_wp2_with fail
        refine (ref_check_any lb hb _).mono ?_
        rintro e2 w2 ⟨rfl, hb2⟩
        rw [c2]
        have j0 := ((bcell hb2).1 w.heap.size 0 (by simp at hs ⊢ <;> omega)).trans k0
        have j1 := ((bcell hb2).1 w.heap.size 1 (by simp at hs ⊢ <;> omega)).trans k1
        have j2 := ((bcell hb2).1 (w.heap.size + 1) 0 (by simp at hs ⊢ <;> omega)).trans k2
        have j3 := ((bcell hb2).1 (w.heap.size + 1) 1 (by simp at hs ⊢ <;> omega)).trans k3
        have j4 := ((bcell hb2).1 (w.heap.size + 1 + 1) 0 (by simp at hs ⊢ <;> omega)).trans k4
        have j5 := ((bcell hb2).1 (w.heap.size + 1 + 1) 1 (by simp at hs ⊢ <;> omega)).trans k5
        have j6 := ((bcell hb2).2 (w.heap.size + 1 + 1) 0 (by simp at hs ⊢ <;> omega)).trans k6
        have j7 := ((bcell hb2).2 (w.heap.size + 1 + 1) 1 (by simp at hs ⊢ <;> omega)).trans k7
        clear k0 k1 k2 k3 k4 k5 k6 k7
        go_wp2_with fail
        exact bodyPost_ret (v := .tuple #[.agg #[.float .f64 (grF la lb), .float .f64 (lsF ha hb)], .bool true]) (by simp [results, Try.results9, go_sem, j4, j5]) rfl
          ⟨rfl, below_result (below_box (below_box (below_box (below_next hb1 hb2)))) (by omega) _ _⟩
    · have HEND : Hid (meetF la ha lb hb = (0, 0, false)) := Lib.hid (by unfold meetF; rw [a1, c1]; rfl)
      rw [HEND.out]
      go_enter Try.func9, Try.ntmps9
      go_wp2_with fail
      refine (ref_greater_any la lb b1 b3 _).mono ?_
      rintro e3 w3 ⟨rfl, rfl⟩
      go_wp2_with fail
      refine (ref_lesser_any ha hb b2 b4 _).mono ?_
      rintro e4 w4 ⟨rfl, rfl⟩
      go_wp2_with fail
      refine (ref_check_any la ha _).mono ?_
      rintro e1 w1 ⟨rfl, hb1⟩
      rw [a2]
      have hs := hb1.size
      have k0 := (bcell hb1).1 w.heap.size 0 (by simp <;> omega)
      have k1 := (bcell hb1).1 w.heap.size 1 (by simp <;> omega)
      have k2 := (bcell hb1).1 (w.heap.size + 1) 0 (by simp <;> omega)
      have k3 := (bcell hb1).1 (w.heap.size + 1) 1 (by simp <;> omega)
      have k4 := (bcell hb1).1 (w.heap.size + 1 + 1) 0 (by simp <;> omega)
      have k5 := (bcell hb1).1 (w.heap.size + 1 + 1) 1 (by simp <;> omega)
      have k6 := (bcell hb1).2 (w.heap.size + 1 + 1) 0 (by simp <;> omega)
      have k7 := (bcell hb1).2 (w.heap.size + 1 + 1) 1 (by simp <;> omega)
      go_wp2_with fail
      refine (ref_check_any lb hb _).mono ?_
      rintro e2 w2 ⟨rfl, hb2⟩
      rw [c2]
      have j0 := ((bcell hb2).1 w.heap.size 0 (by simp at hs ⊢ <;> omega)).trans k0
      have j1 := ((bcell hb2).1 w.heap.size 1 (by simp at hs ⊢ <;> omega)).trans k1
      have j2 := ((bcell hb2).1 (w.heap.size + 1) 0 (by simp at hs ⊢ <;> omega)).trans k2
      have j3 := ((bcell hb2).1 (w.heap.size + 1) 1 (by simp at hs ⊢ <;> omega)).trans k3
      have j4 := ((bcell hb2).1 (w.heap.size + 1 + 1) 0 (by simp at hs ⊢ <;> omega)).trans k4
      have j5 := ((bcell hb2).1 (w.heap.size + 1 + 1) 1 (by simp at hs ⊢ <;> omega)).trans k5
      have j6 := ((bcell hb2).2 (w.heap.size + 1 + 1) 0 (by simp at hs ⊢ <;> omega)).trans k6
      have j7 := ((bcell hb2).2 (w.heap.size + 1 + 1) 1 (by simp at hs ⊢ <;> omega)).trans k7
      clear k0 k1 k2 k3 k4 k5 k6 k7
      go_wp2_with fail
      exact bodyPost_ret (v := .tuple #[.agg #[.float .f64 0, .float .f64 0], .bool false]) (by simp [results, Try.results9, go_sem, j4, j5]) rfl
        ⟨rfl, below_result (below_box (below_box (below_box (below_next hb1 hb2)))) (by omega) _ _⟩
  · have HEND : Hid (meetF la ha lb hb = (0, 0, false)) := Lib.hid (by unfold meetF; rw [a1]; rfl)
    rw [HEND.out]
    go_enter Try.func9, Try.ntmps9
    go_wp2_with fail
    refine (ref_greater_any la lb b1 b3 _).mono ?_
    rintro e3 w3 ⟨rfl, rfl⟩
    go_wp2_with fail
    refine (ref_lesser_any ha hb b2 b4 _).mono ?_
    rintro e4 w4 ⟨rfl, rfl⟩
    go_wp2_with fail
    refine (ref_check_any la ha _).mono ?_
    rintro e1 w1 ⟨rfl, hb1⟩
    rw [a2]
    have hs := hb1.size
    have k0 := (bcell hb1).1 w.heap.size 0 (by simp <;> omega)
    have k1 := (bcell hb1).1 w.heap.size 1 (by simp <;> omega)
    have k2 := (bcell hb1).1 (w.heap.size + 1) 0 (by simp <;> omega)
    have k3 := (bcell hb1).1 (w.heap.size + 1) 1 (by simp <;> omega)
    have k4 := (bcell hb1).1 (w.heap.size + 1 + 1) 0 (by simp <;> omega)
    have k5 := (bcell hb1).1 (w.heap.size + 1 + 1) 1 (by simp <;> omega)
    have k6 := (bcell hb1).2 (w.heap.size + 1 + 1) 0 (by simp <;> omega)
    have k7 := (bcell hb1).2 (w.heap.size + 1 + 1) 1 (by simp <;> omega)
    go_wp2_with fail
    exact bodyPost_ret (v := .tuple #[.agg #[.float .f64 0, .float .f64 0], .bool false]) (by simp [results, Try.results9, go_sem, k4, k5]) rfl
      ⟨rfl, below_result (below_box (below_box (below_box (hb1)))) (by omega) _ _⟩
end Go.Proofs.Ytjcknikgfcjhhaa
