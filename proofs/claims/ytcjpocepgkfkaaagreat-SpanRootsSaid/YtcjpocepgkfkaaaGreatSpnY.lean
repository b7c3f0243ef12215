/-
  Spans: the reference (what may be, what lies within, what both have, the least that has both).
-/
import Derived.Test.YtcjpocepgkfkaaaGreatSpnW
namespace Go.Proofs.YtcjpocepgkfkaaaGreat
open Go.RowKit

theorem ref5_finite_any (x : Nat) (w : World) : Calls Tryz.prog 35 #[.float .f64 x] w (RetV w (.bool (Flt.finB x))) := by
  have K : Hid (∀ t, IsOp Ieee.double.sub x x t → (Ieee.double.order t 0 == some .eq) = Flt.finB x) := Lib.hid (fun t h => sub_self h)
  go_enter Tryz.func35, Tryz.ntmps35
  go_wp2_with (refine wpList_fsub _ rfl rfl ?_; intro t d hs; have e := K.out _ hs; clear hs K)
  go_ret
  exact ⟨rfl, below_drewN (Below.refl _ _) _⟩

def okI (lo hi : Nat) : Int := if okS lo hi then 0 else 1
set_option maxRecDepth 100000 in
theorem ref_check_any (lo hi : Nat) (w : World) : Calls Tryz.prog 13 #[.agg #[.float .f64 lo, .float .f64 hi]] w (RetV w (.int .i64 (okI lo hi))) := by
  cases h1 : Flt.finB lo with
  | false =>
    have HF : Hid (okI lo hi = 1) := Lib.hid (by unfold okI okS; rw [h1]; rfl)
    rw [HF.out]
    go_enter Tryz.func13, Tryz.ntmps13
    go_wp2_with fail
    refine (ref5_finite_any lo _).mono ?_
    rintro e1 w1 ⟨rfl, hb1⟩
    rw [h1]
    go_wp2_with fail
    go_ret
    exact ⟨rfl, below_box hb1⟩
  | true =>
    cases h2 : Flt.finB hi with
    | false =>
      have HF : Hid (okI lo hi = 1) := Lib.hid (by unfold okI okS; rw [h1, h2]; rfl)
      rw [HF.out]
      go_enter Tryz.func13, Tryz.ntmps13
      go_wp2_with fail
      refine (ref5_finite_any lo _).mono ?_
      rintro e1 w1 ⟨rfl, hb1⟩
      rw [h1]
      have k0 := (bcell hb1).1 w.heap.size 0 (by simp)
      have k1 := (bcell hb1).1 w.heap.size 1 (by simp)
      go_wp2_with fail
      refine (ref5_finite_any hi _).mono ?_
      rintro e2 w2 ⟨rfl, hb2⟩
      rw [h2]
      go_wp2_with fail
      go_ret
      exact ⟨rfl, below_box (below_next hb1 hb2)⟩
    | true =>
      cases h3 : (Ieee.double.order lo hi == some .gt) with
      | true =>
        have HF : Hid (okI lo hi = 1) := Lib.hid (by unfold okI okS; rw [h1, h2, h3]; rfl)
        rw [HF.out]
        go_enter Tryz.func13, Tryz.ntmps13
        go_wp2_with fail
        refine (ref5_finite_any lo _).mono ?_
        rintro e1 w1 ⟨rfl, hb1⟩
        rw [h1]
        have k0 := (bcell hb1).1 w.heap.size 0 (by simp)
        have k1 := (bcell hb1).1 w.heap.size 1 (by simp)
        go_wp2_with fail
        refine (ref5_finite_any hi _).mono ?_
        rintro e2 w2 ⟨rfl, hb2⟩
        rw [h2]
        have hs := hb1.size
        have j0 := ((bcell hb2).1 w.heap.size 0 (by simp at hs ⊢ <;> omega)).trans k0
        have j1 := ((bcell hb2).1 w.heap.size 1 (by simp at hs ⊢ <;> omega)).trans k1
        go_wp2_with fail
        go_ret
        exact ⟨rfl, below_box (below_next hb1 hb2)⟩
      | false =>
        have HF : Hid (okI lo hi = 0) := Lib.hid (by unfold okI okS; rw [h1, h2, h3]; rfl)
        rw [HF.out]
        go_enter Tryz.func13, Tryz.ntmps13
        go_wp2_with fail
        refine (ref5_finite_any lo _).mono ?_
        rintro e1 w1 ⟨rfl, hb1⟩
        rw [h1]
        have k0 := (bcell hb1).1 w.heap.size 0 (by simp)
        have k1 := (bcell hb1).1 w.heap.size 1 (by simp)
        go_wp2_with fail
        refine (ref5_finite_any hi _).mono ?_
        rintro e2 w2 ⟨rfl, hb2⟩
        rw [h2]
        have hs := hb1.size
        have j0 := ((bcell hb2).1 w.heap.size 0 (by simp at hs ⊢ <;> omega)).trans k0
        have j1 := ((bcell hb2).1 w.heap.size 1 (by simp at hs ⊢ <;> omega)).trans k1
        go_wp2_with fail
        go_ret
        exact ⟨rfl, below_box (below_next hb1 hb2)⟩
end Go.Proofs.YtcjpocepgkfkaaaGreat
