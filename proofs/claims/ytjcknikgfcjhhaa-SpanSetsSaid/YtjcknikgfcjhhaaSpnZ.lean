/-
  Spans: the reference's In, plain, lesser, greater, Meet, Join.
-/
import Derived.Test.YtjcknikgfcjhhaaSpnY
namespace Go.Proofs.Ytjcknikgfcjhhaa
open Go.RowKit

theorem okI_cases (lo hi : Nat) : (okS lo hi = true ∧ okI lo hi = 0) ∨ (okS lo hi = false ∧ okI lo hi = 1) := by
  unfold okI; cases okS lo hi <;> simp

theorem ref_plain_any (x : Nat) (_hx : x < 2 ^ 64) (w : World) : Calls Try.prog 59 #[.float .f64 x] w fun e w' => e = .returned (.float .f64 (pz x)) ∧ w = w' := by
  cases h : (Ieee.double.order x 0 == some .eq) with
  | true =>
    have HF : Hid (pz x = 0) := Lib.hid (by
      have hn : ¬ Flt.Nan x := fun k => by rw [Flt.order_nan_left k] at h; simp at h
      rw [Flt.eq_spec hn nan_zero, sv_zero] at h
      unfold pz; rw [if_pos (Flt.sv_zero_iff.1 (of_decide_eq_true h))])
    rw [HF.out]
    go_enter Try.func59, Try.ntmps59
    go_wp2_with fail
    go_ret
    exact ⟨rfl, rfl⟩
  | false =>
    have HF : Hid (pz x = x) := Lib.hid (by
      unfold pz
      split
      · rename_i h0
        have hn : ¬ Flt.Nan x := fun k => by unfold Flt.Nan at k; omega
        rw [Flt.eq_spec hn nan_zero, sv_zero, decide_eq_true (Flt.sv_zero_iff.2 h0)] at h
        exact absurd h (by simp)
      · rfl)
    rw [HF.out]
    go_enter Try.func59, Try.ntmps59
    go_wp2_with fail
    go_ret
    exact ⟨rfl, rfl⟩

def lsF (a b : Nat) : Nat := if Ieee.double.order b a == some .lt then pz b else pz a
def grF (a b : Nat) : Nat := if Ieee.double.order b a == some .gt then pz b else pz a
theorem ref_lesser_any (x y : Nat) (hx : x < 2 ^ 64) (hy : y < 2 ^ 64) (w : World) : Calls Try.prog 31 #[.float .f64 x, .float .f64 y] w fun e w' => e = .returned (.float .f64 (lsF x y)) ∧ w = w' := by
  cases h : (Ieee.double.order y x == some .lt) with
  | true =>
    have HF : Hid (lsF x y = pz y) := Lib.hid (by unfold lsF; rw [h]; rfl)
    rw [HF.out]
    go_enter Try.func31, Try.ntmps31
    go_wp2_with fail
    refine (ref_plain_any y hy _).mono ?_
    rintro e1 w1 ⟨rfl, rfl⟩
    go_wp2_with fail
    go_ret
    exact ⟨rfl, rfl⟩
  | false =>
    have HF : Hid (lsF x y = pz x) := Lib.hid (by unfold lsF; rw [h]; rfl)
    rw [HF.out]
    go_enter Try.func31, Try.ntmps31
    go_wp2_with fail
    refine (ref_plain_any x hx _).mono ?_
    rintro e1 w1 ⟨rfl, rfl⟩
    go_wp2_with fail
    go_ret
    exact ⟨rfl, rfl⟩
theorem ref_greater_any (x y : Nat) (hx : x < 2 ^ 64) (hy : y < 2 ^ 64) (w : World) : Calls Try.prog 30 #[.float .f64 x, .float .f64 y] w fun e w' => e = .returned (.float .f64 (grF x y)) ∧ w = w' := by
  cases h : (Ieee.double.order y x == some .gt) with
  | true =>
    have HF : Hid (grF x y = pz y) := Lib.hid (by unfold grF; rw [h]; rfl)
    rw [HF.out]
    go_enter Try.func30, Try.ntmps30
    go_wp2_with fail
    refine (ref_plain_any y hy _).mono ?_
    rintro e1 w1 ⟨rfl, rfl⟩
    go_wp2_with fail
    go_ret
    exact ⟨rfl, rfl⟩
  | false =>
    have HF : Hid (grF x y = pz x) := Lib.hid (by unfold grF; rw [h]; rfl)
    rw [HF.out]
    go_enter Try.func30, Try.ntmps30
    go_wp2_with fail
    refine (ref_plain_any x hx _).mono ?_
    rintro e1 w1 ⟨rfl, rfl⟩
    go_wp2_with fail
    go_ret
    exact ⟨rfl, rfl⟩

theorem pz_same {x y : Nat} (hx : x < 2 ^ 64) (hy : y < 2 ^ 64) (h : Flt.sv x = Flt.sv y) : pz x = pz y := by
  by_cases h0 : Flt.sv x = 0
  · unfold pz
    rw [if_pos (Flt.sv_zero_iff.1 h0), if_pos (Flt.sv_zero_iff.1 (by omega))]
  · rw [Flt.fin_eq hx hy h h0]
theorem sv_mx (x y : Nat) : Flt.sv (mx x y) = if Flt.sv x < Flt.sv y then Flt.sv y else Flt.sv x := by
  unfold mx; split <;> (try split) <;> (try split) <;> (try omega) <;> rfl
theorem sv_mn (x y : Nat) : Flt.sv (mn x y) = if Flt.sv y < Flt.sv x then Flt.sv y else Flt.sv x := by
  unfold mn; split <;> (try split) <;> (try split) <;> (try omega) <;> rfl
theorem mx_lt {x y : Nat} (h1 : x < 2 ^ 64) (h2 : y < 2 ^ 64) : mx x y < 2 ^ 64 := by unfold mx; split <;> (try split) <;> (try split) <;> assumption
theorem mn_lt {x y : Nat} (h1 : x < 2 ^ 64) (h2 : y < 2 ^ 64) : mn x y < 2 ^ 64 := by unfold mn; split <;> (try split) <;> (try split) <;> assumption
theorem grF_eq {x y : Nat} (hx : x < 2 ^ 64) (hy : y < 2 ^ 64) (h1 : Flt.Fin x) (h2 : Flt.Fin y) : grF x y = pz (mx x y) := by
  unfold grF
  rw [Flt.gt_spec (fun h => Flt.not_fin_nan h h2) (fun h => Flt.not_fin_nan h h1)]
  have e := sv_mx x y
  by_cases h : Flt.sv x < Flt.sv y
  · rw [if_pos h] at e
    rw [decide_eq_true h, if_pos rfl]
    exact pz_same hy (mx_lt hx hy) e.symm
  · rw [if_neg h] at e
    rw [decide_eq_false h, if_neg (by simp)]
    exact pz_same hx (mx_lt hx hy) e.symm
theorem lsF_eq {x y : Nat} (hx : x < 2 ^ 64) (hy : y < 2 ^ 64) (h1 : Flt.Fin x) (h2 : Flt.Fin y) : lsF x y = pz (mn x y) := by
  unfold lsF
  rw [Flt.lt_spec (fun h => Flt.not_fin_nan h h2) (fun h => Flt.not_fin_nan h h1)]
  have e := sv_mn x y
  by_cases h : Flt.sv y < Flt.sv x
  · rw [if_pos h] at e
    rw [decide_eq_true h, if_pos rfl]
    exact pz_same hy (mn_lt hx hy) e.symm
  · rw [if_neg h] at e
    rw [decide_eq_false h, if_neg (by simp)]
    exact pz_same hx (mn_lt hx hy) e.symm
theorem order_pz {x y : Nat} (h1 : Flt.Fin x) (h2 : Flt.Fin y) : (Ieee.double.order (pz x) (pz y) == some .gt) = (Ieee.double.order x y == some .gt) := by
  rw [Flt.gt_spec (fun h => Flt.not_fin_nan h h1) (fun h => Flt.not_fin_nan h h2), Flt.gt_spec (fun h => Flt.not_fin_nan h (fin_pz h1)) (fun h => Flt.not_fin_nan h (fin_pz h2)), sv_pz, sv_pz]

set_option maxRecDepth 100000 in
set_option maxHeartbeats 800000 in
theorem ref_in_any (la ha lb hb : Nat) (w : World) :
    Calls Try.prog 13 #[.agg #[.float .f64 la, .float .f64 ha], .agg #[.float .f64 lb, .float .f64 hb]] w (RetV w (.bool (inB la ha lb hb))) := by
  rcases okI_cases la ha with ⟨a1, a2⟩ | ⟨a1, a2⟩
  · rcases okI_cases lb hb with ⟨c1, c2⟩ | ⟨c1, c2⟩
    · obtain ⟨m2, hm2⟩ : ∃ m, leB lb la = m := ⟨_, rfl⟩
      obtain ⟨m3, hm3⟩ : ∃ m, leB ha hb = m := ⟨_, rfl⟩
      have HEND : Hid (inB la ha lb hb = (m2 && m3)) := Lib.hid (by unfold inB; rw [a1, c1, hm2, hm3]; rfl)
      rw [HEND.out]
      have o2 : (Ieee.double.order lb la == some .lt || Ieee.double.order lb la == some .eq) = m2 := hm2
      have o3 : (Ieee.double.order ha hb == some .lt || Ieee.double.order ha hb == some .eq) = m3 := hm3
      clear hm2 hm3 a1 c1 HEND
      cases m2 <;> cases m3 <;>
      (go_enter Try.func13, Try.ntmps13
       go_wp2_with fail
       refine (ref_check_any la ha _).mono ?_
       rintro e1 w1 ⟨rfl, hb1⟩
       rw [a2]
       have k0 := (bcell hb1).1 w.heap.size 0 (by simp <;> omega)
       have k1 := (bcell hb1).1 w.heap.size 1 (by simp <;> omega)
       have k2 := (bcell hb1).1 (w.heap.size + 1) 0 (by simp <;> omega)
       have k3 := (bcell hb1).1 (w.heap.size + 1) 1 (by simp <;> omega)
       have hs := hb1.size
       go_wp2_with fail
       refine (ref_check_any lb hb _).mono ?_
       rintro e2 w2 ⟨rfl, hb2⟩
       rw [c2]
       have j0 := ((bcell hb2).1 w.heap.size 0 (by simp at hs ⊢ <;> omega)).trans k0
       have j1 := ((bcell hb2).1 w.heap.size 1 (by simp at hs ⊢ <;> omega)).trans k1
       have j2 := ((bcell hb2).1 (w.heap.size + 1) 0 (by simp at hs ⊢ <;> omega)).trans k2
       have j3 := ((bcell hb2).1 (w.heap.size + 1) 1 (by simp at hs ⊢ <;> omega)).trans k3
       clear k0 k1 k2 k3
       go_wp2_with fail
       go_ret
       exact ⟨rfl, below_box (below_box (below_next hb1 hb2))⟩)
    · have HEND : Hid (inB la ha lb hb = false) := Lib.hid (by unfold inB; rw [a1, c1]; rfl)
      rw [HEND.out]
      go_enter Try.func13, Try.ntmps13
      go_wp2_with fail
      refine (ref_check_any la ha _).mono ?_
      rintro e1 w1 ⟨rfl, hb1⟩
      rw [a2]
      have k2 := (bcell hb1).1 (w.heap.size + 1) 0 (by simp <;> omega)
      have k3 := (bcell hb1).1 (w.heap.size + 1) 1 (by simp <;> omega)
      go_wp2_with fail
      refine (ref_check_any lb hb _).mono ?_
      rintro e2 w2 ⟨rfl, hb2⟩
      rw [c2]
      go_wp2_with fail
      go_ret
      exact ⟨rfl, below_box (below_box (below_next hb1 hb2))⟩
  · have HEND : Hid (inB la ha lb hb = false) := Lib.hid (by unfold inB; rw [a1]; rfl)
    rw [HEND.out]
    go_enter Try.func13, Try.ntmps13
    go_wp2_with fail
    refine (ref_check_any la ha _).mono ?_
    rintro e1 w1 ⟨rfl, hb1⟩
    rw [a2]
    go_wp2_with fail
    go_ret
    exact ⟨rfl, below_box (below_box hb1)⟩
end Go.Proofs.Ytjcknikgfcjhhaa
