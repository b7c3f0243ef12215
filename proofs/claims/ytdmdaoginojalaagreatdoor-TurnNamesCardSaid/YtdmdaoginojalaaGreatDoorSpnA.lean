/-
  Spans: sums, differences (span.Add, span.Sub).
-/
import Derived.Test.YtdmdaoginojalaaGreatDoorSpnO
import Derived.Test.YtdmdaoginojalaaGreatDoorSpnR
namespace Go.Proofs.YtdmdaoginojalaaGreatDoor
open Go.RowKit

/-- What is told of an operation on spans. -/
def IsSpan (ok : Bool) (L H : List (Int × Nat)) (p : Nat × Nat × Int) : Prop := (ok = false → p = (0, 0, 1)) ∧ (ok = true → ∃ lo hi, LowOf L lo ∧ HighOf H hi ∧ p = endsF lo hi)
def RetSp (W : World) (q : Nat × Nat × Int → Prop) (e : Ending) (w' : World) : Prop := ∃ p, q p ∧ RetSpan W p.1 p.2.1 (.int .i64 p.2.2) e w'
theorem lowOf_one {z : Int} {n d : Nat} (h : Down z n d) : LowOf [(z, n)] d :=
  ⟨⟨_, List.mem_cons_self, h⟩, fun c hc => by rw [List.mem_singleton] at hc; subst hc; exact ⟨d, h, Int.le_refl _⟩⟩
theorem highOf_one {z : Int} {n d : Nat} (h : Up z n d) : HighOf [(z, n)] d :=
  ⟨⟨_, List.mem_cons_self, h⟩, fun c hc => by rw [List.mem_singleton] at hc; subst hc; exact ⟨d, h, Int.le_refl _⟩⟩
def addL (la _ha lb _hb : Nat) : List (Int × Nat) := [(Flt.sv la + Flt.sv lb, 1)]
def addH (_la ha _lb hb : Nat) : List (Int × Nat) := [(Flt.sv ha + Flt.sv hb, 1)]
set_option maxRecDepth 100000 in
set_option maxHeartbeats 800000 in
theorem span_add_any (la ha lb hb : Nat) (b1 : la < 2 ^ 64) (b2 : ha < 2 ^ 64) (b3 : lb < 2 ^ 64) (b4 : hb < 2 ^ 64) (w : World) :
    Calls Tryz.prog 156 #[.agg #[.float .f64 la, .float .f64 ha], .agg #[.float .f64 lb, .float .f64 hb]] w (RetSp w (IsSpan (okS la ha && okS lb hb) (addL la ha lb hb) (addH la ha lb hb))) := by
  obtain ⟨m1, hm1⟩ : ∃ m, (okS la ha && okS lb hb) = m := ⟨_, rfl⟩
  rw [hm1]
  have HM1 := Lib.hid hm1
  clear hm1
  cases m1 with
  | false =>
    go_enter Tryz.func156, Tryz.ntmps156
    go_wp2_with fail
    refine (span_may_two (w.heap.size + 1 + 1 + 1) la ha lb hb _ b1 b2 b3 b4 (by simp) (by simp [go_sem]) (by simp [go_sem]) (by simp [go_sem]) (by simp [go_sem])).mono ?_
    rintro e1 w1 ⟨rfl, hb1⟩
    rw [HM1.out]
    obtain ⟨hc1, hf1⟩ := bcell hb1
    have k0 := hc1 (w.heap.size + 1 + 1) 0 (by simp <;> omega)
    have k1 := hc1 (w.heap.size + 1 + 1) 1 (by simp <;> omega)
    have k2 := hf1 (w.heap.size + 1 + 1) 0 (by simp <;> omega)
    have k3 := hf1 (w.heap.size + 1 + 1) 1 (by simp <;> omega)
    go_wp2_with fail
    exact bodyPost_ret (v := .tuple #[.agg #[.float .f64 0, .float .f64 0], .int .i64 1]) (by simp [results, Tryz.results156, go_sem, k0, k1]) rfl
      ⟨(0, 0, 1), ⟨fun _ => rfl, fun h => by simp at h⟩, rfl, below_result (below_box (below_box (below_box (below_box hb1)))) (by omega) _ _⟩
  | true =>
    obtain ⟨ho1, ho2⟩ := Bool.and_eq_true_iff.1 HM1.out
    have HF := Lib.hid (And.intro (okS_iff.1 ho1) (okS_iff.1 ho2))
    clear ho1 ho2
    go_enter Tryz.func156, Tryz.ntmps156
    go_wp2_with fail
    refine (span_may_two (w.heap.size + 1 + 1 + 1) la ha lb hb _ b1 b2 b3 b4 (by simp) (by simp [go_sem]) (by simp [go_sem]) (by simp [go_sem]) (by simp [go_sem])).mono ?_
    rintro e1 w1 ⟨rfl, hb1⟩
    rw [HM1.out]
    obtain ⟨hc1, hf1⟩ := bcell hb1
    have k0 : w1.cell? ⟨w.heap.size, 0, none⟩ = some (.float .f64 la) := by rw [hc1 w.heap.size 0 (by simp <;> omega)]; simp [go_sem]
    have k1 : w1.cell? ⟨w.heap.size, 1, none⟩ = some (.float .f64 ha) := by rw [hc1 w.heap.size 1 (by simp <;> omega)]; simp [go_sem]
    have k2 : w1.cell? ⟨w.heap.size + 1, 0, none⟩ = some (.float .f64 lb) := by rw [hc1 (w.heap.size + 1) 0 (by simp <;> omega)]; simp [go_sem]
    have k3 : w1.cell? ⟨w.heap.size + 1, 1, none⟩ = some (.float .f64 hb) := by rw [hc1 (w.heap.size + 1) 1 (by simp <;> omega)]; simp [go_sem]
    have k4 : w1.cell? ⟨w.heap.size + 1 + 1, 0, none⟩ = some (.float .f64 0) := by rw [hc1 (w.heap.size + 1 + 1) 0 (by simp <;> omega)]; simp [go_sem]
    have k5 : w1.cell? ⟨w.heap.size + 1 + 1, 1, none⟩ = some (.float .f64 0) := by rw [hc1 (w.heap.size + 1 + 1) 1 (by simp <;> omega)]; simp [go_sem]
    have k6 : w1.frozen? ⟨w.heap.size + 1 + 1, 0, none⟩ = false := by rw [hf1 (w.heap.size + 1 + 1) 0 (by simp <;> omega)]; simp [go_sem]
    have k7 : w1.frozen? ⟨w.heap.size + 1 + 1, 1, none⟩ = false := by rw [hf1 (w.heap.size + 1 + 1) 1 (by simp <;> omega)]; simp [go_sem]
    have sz : w.heap.size + 1 + 1 < w1.heap.size := by have := hb1.size; simp at this; omega
    have hbw1 := below_box (below_box (below_box (below_box hb1)))
    clear hc1 hf1 hb1
    go_wp2_with fail
    refine (rnd_add_any la lb b1 b3 _).mono ?_
    rintro e2 w2 ⟨lo, lu, rfl, hs2, hb2⟩
    have l64 : lo < 2 ^ 64 := by
      obtain ⟨f1, f2⟩ := HF.out
      exact (sum_down hs2 f1.1 f2.1).1.1
    have j0 := ((bcell hb2).1 w.heap.size 0 (by omega)).trans k0
    have j1 := ((bcell hb2).1 w.heap.size 1 (by omega)).trans k1
    have j2 := ((bcell hb2).1 (w.heap.size + 1) 0 (by omega)).trans k2
    have j3 := ((bcell hb2).1 (w.heap.size + 1) 1 (by omega)).trans k3
    have j4 := ((bcell hb2).1 (w.heap.size + 1 + 1) 0 (by omega)).trans k4
    have j5 := ((bcell hb2).1 (w.heap.size + 1 + 1) 1 (by omega)).trans k5
    have j6 := ((bcell hb2).2 (w.heap.size + 1 + 1) 0 (by omega)).trans k6
    have j7 := ((bcell hb2).2 (w.heap.size + 1 + 1) 1 (by omega)).trans k7
    have sz2 : w.heap.size + 1 + 1 < w2.heap.size := by have := hb2.size; omega
    have hbw2 := below_next hbw1 hb2
    have HS2 := Lib.hid hs2
    clear k0 k1 k2 k3 k4 k5 k6 k7 hb2 hs2
    go_wp2_with fail
    refine (rnd_add_any ha hb b2 b4 _).mono ?_
    rintro e3 w3 ⟨hd, hi, rfl, hs3, hb3⟩
    have h64 : hi < 2 ^ 64 := by
      obtain ⟨f1, f2⟩ := HF.out
      exact (sum_down hs3 f1.2.1 f2.2.1).2.1
    have k4 := ((bcell hb3).1 (w.heap.size + 1 + 1) 0 (by omega)).trans j4
    have k5 := ((bcell hb3).1 (w.heap.size + 1 + 1) 1 (by omega)).trans j5
    have k6 := ((bcell hb3).2 (w.heap.size + 1 + 1) 0 (by omega)).trans j6
    have k7 := ((bcell hb3).2 (w.heap.size + 1 + 1) 1 (by omega)).trans j7
    have sz3 : w.heap.size + 1 + 1 < w3.heap.size := by have := hb3.size; omega
    have hbw3 := below_next hbw2 hb3
    have HS3 := Lib.hid hs3
    clear j0 j1 j2 j3 j4 j5 j6 j7 hb3 hs3
    go_wp2_with fail
    refine (span_ends_any lo hi l64 h64 _).mono ?_
    rintro e4 w4 ⟨rfl, hb4⟩
    have j4 := ((bcell hb4).1 (w.heap.size + 1 + 1) 0 (by omega)).trans k4
    have j5 := ((bcell hb4).1 (w.heap.size + 1 + 1) 1 (by omega)).trans k5
    have j6 := ((bcell hb4).2 (w.heap.size + 1 + 1) 0 (by omega)).trans k6
    have j7 := ((bcell hb4).2 (w.heap.size + 1 + 1) 1 (by omega)).trans k7
    have hbw4 := below_next hbw3 hb4
    clear k4 k5 k6 k7 hb4
    go_wp2_with fail
    exact bodyPost_ret (v := .tuple #[.agg #[.float .f64 (endsF lo hi).1, .float .f64 (endsF lo hi).2.1], .int .i64 (endsF lo hi).2.2]) (by simp [results, Tryz.results156, go_sem, j4, j5]) rfl
      ⟨endsF lo hi, ⟨fun h => by simp at h, fun _ => ⟨lo, hi, lowOf_one (sum_down HS2.out HF.out.1.1 HF.out.2.1).1, highOf_one (sum_down HS3.out HF.out.1.2.1 HF.out.2.2.1).2, rfl⟩⟩, rfl, below_result hbw4 (by omega) _ _⟩
end Go.Proofs.YtdmdaoginojalaaGreatDoor
