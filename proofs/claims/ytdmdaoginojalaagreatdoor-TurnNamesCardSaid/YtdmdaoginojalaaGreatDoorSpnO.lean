/-
  Spans: the least and the greatest of several pairs (span.outer, span.both).
-/
import Derived.Test.YtdmdaoginojalaaGreatDoorSpnW
namespace Go.Proofs.YtdmdaoginojalaaGreatDoor
open Go.RowKit

theorem span_ends_any (lo hi : Nat) (hlo : lo < 2 ^ 64) (hhi : hi < 2 ^ 64) (w : World) :
    Calls Tryz.prog 267 #[.float .f64 lo, .float .f64 hi] w (RetSpan w (endsF lo hi).1 (endsF lo hi).2.1 (.int .i64 (endsF lo hi).2.2)) := by
  by_cases h : Flt.Fin lo ∧ Flt.Fin hi
  · have e : endsF lo hi = (pz lo, pz hi, 0) := by unfold endsF; rw [Flt.finB_iff.2 h.1, Flt.finB_iff.2 h.2]; rfl
    rw [e]
    exact span_ends_ok lo hi hlo hhi w h.1 h.2
  · have e : endsF lo hi = (0, 0, 6) := by
      unfold endsF
      rw [if_neg]
      intro k
      obtain ⟨k1, k2⟩ := Bool.and_eq_true_iff.1 k
      exact h ⟨Flt.finB_iff.1 k1, Flt.finB_iff.1 k2⟩
    rw [e]
    exact span_ends_no lo hi hlo hhi w h

theorem span_both_any (d u : Nat) (w : World) : Calls Tryz.prog 269 #[.float .f64 d, .float .f64 u] w (RetV w (.agg #[.float .f64 d, .float .f64 u])) := by
  go_enter Tryz.func269, Tryz.ntmps269
  go_wp2_with fail
  exact bodyPost_ret (v := .agg #[.float .f64 d, .float .f64 u]) (by simp [results, Tryz.results269, go_sem]) rfl ⟨rfl, (Below.refl _ _).alloc (Nat.le_refl _) _⟩

def prA (l : List (Nat × Nat)) (i : Nat) : Nat := (l.getD i (0, 0)).1
def prB (l : List (Nat × Nat)) (i : Nat) : Nat := (l.getD i (0, 0)).2
/-- The least of the first, the greatest of the second. -/
def lwF (l : List (Nat × Nat)) : Nat → Nat
  | 0 => prA l 0
  | k + 1 => if Ieee.double.order (prA l (k + 1)) (lwF l k) == some .lt then prA l (k + 1) else lwF l k
def hgF (l : List (Nat × Nat)) : Nat → Nat
  | 0 => prB l 0
  | k + 1 => if Ieee.double.order (prB l (k + 1)) (hgF l k) == some .gt then prB l (k + 1) else hgF l k
theorem inSpans_at {w : World} {g : Nat} {l : List (Nat × Nat)} (h : InSpans w g l) {i : Nat} (hi : i < l.length) :
    w.cell? ⟨g, i * 2, none⟩ = some (.float .f64 (prA l i)) ∧ w.cell? ⟨g, i * 2 + 1, none⟩ = some (.float .f64 (prB l i)) ∧ prA l i < 2 ^ 64 ∧ prB l i < 2 ^ 64 := by
  have e : l.getD i (0, 0) = l[i] := by simp [List.getD, hi]
  unfold prA prB
  rw [e]
  exact h.2 i hi
theorem lwF_lt {w : World} {g : Nat} {l : List (Nat × Nat)} (h : InSpans w g l) : ∀ {k : Nat}, k < l.length → lwF l k < 2 ^ 64
  | 0, hk => (inSpans_at h hk).2.2.1
  | k + 1, hk => by
    unfold lwF
    split
    · exact (inSpans_at h hk).2.2.1
    · exact lwF_lt h (by omega)
theorem hgF_lt {w : World} {g : Nat} {l : List (Nat × Nat)} (h : InSpans w g l) : ∀ {k : Nat}, k < l.length → hgF l k < 2 ^ 64
  | 0, hk => (inSpans_at h hk).2.2.2
  | k + 1, hk => by
    unfold hgF
    split
    · exact (inSpans_at h hk).2.2.2
    · exact hgF_lt h (by omega)

set_option maxRecDepth 100000 in
set_option maxHeartbeats 800000 in
theorem span_outer_any (g : Nat) (l : List (Nat × Nat)) (w : World) (h : InSpans w g l) (m : Nat) (hm : l.length = m + 1) (hn : m ≤ 1000) (hm0 : ¬ m = 0) :
    Calls Tryz.prog 268 #[.slice (some ⟨g, 0, none⟩) (m + 1 : Nat) (m + 1 : Nat)] w (RetSpan w (endsF (lwF l m) (hgF l m)).1 (endsF (lwF l m) (hgF l m)).2.1 (.int .i64 (endsF (lwF l m) (hgF l m)).2.2)) := by
  have HM := Lib.hid hm
  have hg := h.1
  obtain ⟨c0, c1, a0, a1⟩ := inSpans_at h (i := 0) (by omega)
  rw [Nat.zero_mul] at c0 c1
  have HI := Lib.hid h
  clear h hm
  go_enter Tryz.func268, Tryz.ntmps268
  go_wp2_with fail
  go_quiet (fail)
  go_wp2_with fail
  go_loopw [4, 5, 19] (fun lo hi i wr => ∃ k : Nat, i = .int .i64 (k : Int) ∧ k ≤ m ∧ lo = .float .f64 (lwF l k) ∧ hi = .float .f64 (hgF l k) ∧
      Below (w.heap.size + 1) (w.alloc (.cells #[.float .f64 0, .float .f64 0] 155)) wr) (fun _ _ i _ => m - (intOf i).toNat)
  case atStart => exact ⟨0, rfl, Nat.zero_le _, rfl, rfl, below_drewN (Below.refl _ _) _⟩
  case round =>
    obtain ⟨k, rfl, hk, rfl, rfl, hb⟩ := hrel
    by_cases hkm : k = m
    · subst hkm
      have l64 := lwF_lt HI.out (k := k) (by have := HM.out; omega)
      have h64 := hgF_lt HI.out (k := k) (by have := HM.out; omega)
      have j0 := hb.cell (p := ⟨w.heap.size, 0, none⟩) (Nat.lt_succ_self _)
      have j1 := hb.cell (p := ⟨w.heap.size, 1, none⟩) (Nat.lt_succ_self _)
      have j2 := hb.frozen (p := ⟨w.heap.size, 0, none⟩) (Nat.lt_succ_self _)
      have j3 := hb.frozen (p := ⟨w.heap.size, 1, none⟩) (Nat.lt_succ_self _)
      have hsz := hb.size
      go_wp2_with fail
      refine (span_ends_any _ _ l64 h64 _).mono ?_
      rintro e2 w2 ⟨rfl, hb2⟩
      have i0 := ((bcell hb2).1 w.heap.size 0 (by simp at hsz ⊢ <;> omega)).trans j0
      have i1 := ((bcell hb2).1 w.heap.size 1 (by simp at hsz ⊢ <;> omega)).trans j1
      have i2 := ((bcell hb2).2 w.heap.size 0 (by simp at hsz ⊢ <;> omega)).trans j2
      have i3 := ((bcell hb2).2 w.heap.size 1 (by simp at hsz ⊢ <;> omega)).trans j3
      go_wp2_with fail
      have hbw : Below w.heap.size w wr := ((Below.refl _ _).alloc (Nat.le_refl _) _).trans (hb.mono (Nat.le_succ _))
      exact bodyPost_ret (v := .tuple #[.agg #[.float .f64 (endsF (lwF l k) (hgF l k)).1, .float .f64 (endsF (lwF l k) (hgF l k)).2.1], .int .i64 (endsF (lwF l k) (hgF l k)).2.2]) (by simp [results, Tryz.results268, go_sem, i0, i1]) rfl
        ⟨rfl, below_result (below_next hbw hb2) (Nat.le_refl _) _ _⟩
    · have hkl : k + 1 < l.length := by have := HM.out; omega
      obtain ⟨c2, c3, b2, b3⟩ := inSpans_at HI.out hkl
      obtain ⟨x, hx⟩ : ∃ x, prA l (k + 1) = x := ⟨_, rfl⟩
      obtain ⟨y, hy⟩ : ∃ y, prB l (k + 1) = y := ⟨_, rfl⟩
      rw [hx] at c2 b2
      rw [hy] at c3 b3
      have d0 : wr.cell? ⟨g, 2 + k * 2, none⟩ = some (.float .f64 x) := by
        have e := hb.cell (p := ⟨g, 2 + k * 2, none⟩) (by show g < w.heap.size + 1; omega)
        rw [e, World.cell?_alloc_lt w (a := ⟨g, _, none⟩) (h := hg), show 2 + k * 2 = (k + 1) * 2 by omega]
        exact c2
      have d1 : wr.cell? ⟨g, 2 + k * 2 + 1, none⟩ = some (.float .f64 y) := by
        have e := hb.cell (p := ⟨g, 2 + k * 2 + 1, none⟩) (by show g < w.heap.size + 1; omega)
        rw [e, World.cell?_alloc_lt w (a := ⟨g, _, none⟩) (h := hg), show 2 + k * 2 + 1 = (k + 1) * 2 + 1 by omega]
        exact c3
      have hkn : k < m := by omega
      have hsz : w.heap.size + 1 ≤ wr.heap.size := by have := hb.size; simpa using this
      have HX := Lib.hid hx
      have HY := Lib.hid hy
      obtain ⟨lo, hlo⟩ : ∃ x, lwF l k = x := ⟨_, rfl⟩
      obtain ⟨hi, hhi⟩ : ∃ x, hgF l k = x := ⟨_, rfl⟩
      rw [hlo, hhi]
      have HLO := Lib.hid hlo
      have HHI := Lib.hid hhi
      clear c0 c1 c2 c3 hx hy hkm hlo hhi
      cases h1 : (Ieee.double.order x lo == some .lt) with
      | true =>
        have HL : Hid (lwF l (k + 1) = x) := Lib.hid (by unfold lwF; rw [HX.out, HLO.out, h1]; rfl)
        cases h2 : (Ieee.double.order y hi == some .gt) with
        | true =>
          have HH : Hid (hgF l (k + 1) = y) := Lib.hid (by unfold hgF; rw [HY.out, HHI.out, h2]; rfl)
          go_wp2_with fail
          go_roundw
          case rel => exact ⟨k + 1, by go_num, hkn, by rw [HL.out], by rw [HH.out], hb.alloc hsz _⟩
          case measure => simp [intOf]; omega
        | false =>
          have HH : Hid (hgF l (k + 1) = hi) := Lib.hid (by unfold hgF; rw [HY.out, HHI.out, h2]; rfl)
          go_wp2_with fail
          go_roundw
          case rel => exact ⟨k + 1, by go_num, hkn, by rw [HL.out], by rw [HH.out], hb.alloc hsz _⟩
          case measure => simp [intOf]; omega
      | false =>
        have HL : Hid (lwF l (k + 1) = lo) := Lib.hid (by unfold lwF; rw [HX.out, HLO.out, h1]; rfl)
        cases h2 : (Ieee.double.order y hi == some .gt) with
        | true =>
          have HH : Hid (hgF l (k + 1) = y) := Lib.hid (by unfold hgF; rw [HY.out, HHI.out, h2]; rfl)
          go_wp2_with fail
          go_roundw
          case rel => exact ⟨k + 1, by go_num, hkn, by rw [HL.out], by rw [HH.out], hb.alloc hsz _⟩
          case measure => simp [intOf]; omega
        | false =>
          have HH : Hid (hgF l (k + 1) = hi) := Lib.hid (by unfold hgF; rw [HY.out, HHI.out, h2]; rfl)
          go_wp2_with fail
          go_roundw
          case rel => exact ⟨k + 1, by go_num, hkn, by rw [HL.out], by rw [HH.out], hb.alloc hsz _⟩
          case measure => simp [intOf]; omega
end Go.Proofs.YtdmdaoginojalaaGreatDoor
