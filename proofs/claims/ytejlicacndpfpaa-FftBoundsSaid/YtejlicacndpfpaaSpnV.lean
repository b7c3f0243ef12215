/-
  Spans: squares (span.Square).
-/
import Derived.Test.YtejlicacndpfpaaSpnD
import Derived.Test.YtejlicacndpfpaaKept
namespace Go.Proofs.Ytejlicacndpfpaa
open Go.RowKit

theorem span_may_one5 (g la ha : Nat) (w : World) (b1 : la < 2 ^ 64) (b2 : ha < 2 ^ 64) (hg : g < w.heap.size)
    (c0 : w.cell? ⟨g, 0, none⟩ = some (.float .f64 la)) (c1 : w.cell? ⟨g, 1, none⟩ = some (.float .f64 ha)) :
    Calls Try.prog 114 #[.slice (some ⟨g, 0, none⟩) 1 1] w (RetV w (.bool (okS la ha))) := by
  refine (span_may_any g [(la, ha)] w ⟨hg, ?_⟩ (by simp)).mono ?_
  · intro i hi
    match i, hi with
    | 0, _ => exact ⟨c0, c1, b1, b2⟩
    | (k + 1), hi => exact absurd hi (by simp)
  · rintro e w' ⟨rfl, hb⟩
    exact ⟨by simp, hb⟩

/-- A block of two cells that may be written. -/
def Free (g : Nat) (wr : World) : Prop := g < wr.heap.size ∧ wr.frozen? ⟨g, 0, none⟩ = false ∧ wr.frozen? ⟨g, 1, none⟩ = false
theorem Free.next {g : Nat} {wr w' : World} (h : Free g wr) (hb : Below wr.heap.size wr w') : Free g w' := by
  obtain ⟨_, hf⟩ := bcell hb
  exact ⟨Nat.lt_of_lt_of_le h.1 hb.size, (hf _ _ h.1).trans h.2.1, (hf _ _ h.1).trans h.2.2⟩
theorem Free.drewN {g : Nat} {wr : World} (h : Free g wr) (n : Nat) : Free g (wr.drewN n) := h
theorem Free.new (w : World) {g : Nat} (hg : w.heap.size = g) (u v : Value) (t : TypeId) : Free g (w.alloc (.cells #[u, v] t)) := by
  subst hg
  exact ⟨by simp, by simp [go_sem], by simp [go_sem]⟩

theorem inSpans_new2 (w : World) (t : TypeId) {d0 u0 d1 u1 : Nat} (h : (d0 < 2 ^ 64 ∧ u0 < 2 ^ 64) ∧ (d1 < 2 ^ 64 ∧ u1 < 2 ^ 64)) :
    InSpans (w.alloc (.cells #[.float .f64 d0, .float .f64 u0, .float .f64 d1, .float .f64 u1] t)) w.heap.size [(d0, u0), (d1, u1)] := by
  obtain ⟨⟨a, b⟩, ⟨c, d⟩⟩ := h
  refine ⟨by simp, fun i hi => ?_⟩
  have hi' : i = 0 ∨ i = 1 := by simp at hi; omega
  rcases hi' with rfl | rfl
  · exact ⟨by simp [go_sem], by simp [go_sem], a, b⟩
  · exact ⟨by simp [go_sem], by simp [go_sem], c, d⟩
theorem low2 {c0 c1 : Int × Nat} {d0 u0 d1 u1 : Nat} (h0 : Down c0.1 c0.2 d0) (h1 : Down c1.1 c1.2 d1) : LowOf [c0, c1] (lwF [(d0, u0), (d1, u1)] 1) := by
  obtain ⟨⟨j, hj, hje⟩, k⟩ := lwF_spec [(d0, u0), (d1, u1)] 1 (fun i hi => by
    rcases (show i = 0 ∨ i = 1 by omega) with rfl | rfl
    · exact down_not_nan h0
    · exact down_not_nan h1)
  refine ⟨?_, fun c hc => ?_⟩
  · rw [hje]
    rcases (show j = 0 ∨ j = 1 by omega) with rfl | rfl
    · exact ⟨c0, by simp, h0⟩
    · exact ⟨c1, by simp, h1⟩
  · simp only [List.mem_cons, List.not_mem_nil, or_false] at hc
    rcases hc with rfl | rfl
    · exact ⟨d0, h0, k 0 (by omega)⟩
    · exact ⟨d1, h1, k 1 (by omega)⟩
theorem high2 {c0 c1 : Int × Nat} {d0 u0 d1 u1 : Nat} (h0 : Up c0.1 c0.2 u0) (h1 : Up c1.1 c1.2 u1) : HighOf [c0, c1] (hgF [(d0, u0), (d1, u1)] 1) := by
  obtain ⟨⟨j, hj, hje⟩, k⟩ := hgF_spec [(d0, u0), (d1, u1)] 1 (fun i hi => by
    rcases (show i = 0 ∨ i = 1 by omega) with rfl | rfl
    · exact up_not_nan h0
    · exact up_not_nan h1)
  refine ⟨?_, fun c hc => ?_⟩
  · rw [hje]
    rcases (show j = 0 ∨ j = 1 by omega) with rfl | rfl
    · exact ⟨c0, by simp, h0⟩
    · exact ⟨c1, by simp, h1⟩
  · simp only [List.mem_cons, List.not_mem_nil, or_false] at hc
    rcases hc with rfl | rfl
    · exact ⟨u0, h0, k 0 (by omega)⟩
    · exact ⟨u1, h1, k 1 (by omega)⟩

/-- The walk's memory: the operand, the result's block, and the variable's block if it is made already. -/
def St (w : World) (la ha : Nat) (o : Option Nat) (wr : World) : Prop :=
  Kept w [(w.heap.size, 0, .float .f64 la), (w.heap.size, 1, .float .f64 ha), (w.heap.size + 1, 0, .float .f64 0), (w.heap.size + 1, 1, .float .f64 0)] wr ∧ Free (w.heap.size + 1) wr ∧
  ∀ g, o = some g → Kept w [(g, 0, .float .f64 0), (g, 1, .float .f64 0)] wr ∧ Free g wr ∧ w.heap.size + 1 < g
theorem St.next {w wr w' : World} {la ha : Nat} {o : Option Nat} (h : St w la ha o wr) (hb : Below wr.heap.size wr w') : St w la ha o w' :=
  ⟨h.1.next hb, h.2.1.next hb, fun g hg => ⟨(h.2.2 g hg).1.next hb, (h.2.2 g hg).2.1.next hb, (h.2.2 g hg).2.2⟩⟩
theorem St.box {w wr : World} {la ha : Nat} {o : Option Nat} (h : St w la ha o wr) (x : Obj) : St w la ha o (wr.alloc x) := h.next ((Below.refl _ _).alloc (Nat.le_refl _) _)
theorem St.drew {w wr : World} {la ha : Nat} {o : Option Nat} (h : St w la ha o wr) : St w la ha o wr.drew :=
  ⟨h.1.drew, h.2.1, fun g hg => ⟨(h.2.2 g hg).1.drew, (h.2.2 g hg).2.1, (h.2.2 g hg).2.2⟩⟩
theorem St.drewN {w wr : World} {la ha : Nat} {o : Option Nat} (h : St w la ha o wr) (n : Nat) : St w la ha o (wr.drewN n) :=
  ⟨h.1.drewN n, h.2.1, fun g hg => ⟨(h.2.2 g hg).1.drewN n, (h.2.2 g hg).2.1, (h.2.2 g hg).2.2⟩⟩
theorem St.var {w wr : World} {la ha : Nat} (h : St w la ha none wr) {g : Nat} (hg : wr.heap.size = g) (t : TypeId) : St w la ha (some g) (wr.alloc (.cells #[.float .f64 0, .float .f64 0] t)) := by
  subst hg
  have hs : w.heap.size + 1 < wr.heap.size := h.2.1.1
  refine ⟨(h.box _).1, (h.box _).2.1, fun g hg => ?_⟩
  injection hg with hg
  subst hg
  have k := h.1.two rfl (.float .f64 0) (.float .f64 0) t
  refine ⟨⟨k.1, fun c hc => k.2.1 c (List.mem_append_left _ hc), fun c hc => k.2.2 c (List.mem_append_left _ hc)⟩, Free.new wr rfl _ _ t, hs⟩
theorem span_outer_two (g d0 u0 d1 u1 : Nat) (W : World) (h : InSpans W g [(d0, u0), (d1, u1)]) :
    Calls Try.prog 115 #[.slice (some ⟨g, 0, none⟩) 2 2] W (RetSpan W (endsF (lwF [(d0, u0), (d1, u1)] 1) (hgF [(d0, u0), (d1, u1)] 1)).1 (endsF (lwF [(d0, u0), (d1, u1)] 1) (hgF [(d0, u0), (d1, u1)] 1)).2.1 (.int .i64 (endsF (lwF [(d0, u0), (d1, u1)] 1) (hgF [(d0, u0), (d1, u1)] 1)).2.2)) :=
  span_outer_any g [(d0, u0), (d1, u1)] W h 1 rfl (by decide) (by decide)
theorem far_of {a g : Nat} (h : a + 1 < g) : ¬ a = g ∧ ¬ g = a ∧ ¬ a + 1 = g ∧ ¬ g = a + 1 := by omega
theorem St.fresh {w wr : World} {la ha : Nat} (h : St w la ha none wr) (u v : Value) (t : TypeId) :
    Kept w [(wr.heap.size, 0, u), (wr.heap.size, 1, v), (w.heap.size, 0, .float .f64 la), (w.heap.size, 1, .float .f64 ha), (w.heap.size + 1, 0, .float .f64 0), (w.heap.size + 1, 1, .float .f64 0)] (wr.alloc (.cells #[u, v] t)) ∧
    Free wr.heap.size (wr.alloc (.cells #[u, v] t)) ∧ Free (w.heap.size + 1) (wr.alloc (.cells #[u, v] t)) ∧ w.heap.size + 1 < wr.heap.size :=
  ⟨h.1.two rfl u v t, Free.new wr rfl u v t, h.2.1.next ((Below.refl _ _).alloc (Nat.le_refl _) _), h.2.1.1⟩
theorem St.stored {w wr : World} {la ha g : Nat} (h : St w la ha (some g) wr) (u v : Value) :
    Kept w [(g, 0, u), (g, 1, v), (w.heap.size, 0, .float .f64 la), (w.heap.size, 1, .float .f64 ha), (w.heap.size + 1, 0, .float .f64 0), (w.heap.size + 1, 1, .float .f64 0)] ((wr.setCell ⟨g, 0, none⟩ u).setCell ⟨g, 1, none⟩ v) ∧
    Free g ((wr.setCell ⟨g, 0, none⟩ u).setCell ⟨g, 1, none⟩ v) ∧ Free (w.heap.size + 1) ((wr.setCell ⟨g, 0, none⟩ u).setCell ⟨g, 1, none⟩ v) ∧ w.heap.size + 1 < g := by
  obtain ⟨hk, hf, hv⟩ := h
  obtain ⟨kv, fv, hlt⟩ := hv g rfl
  obtain ⟨q1, q2, q3, q4⟩ := far_of hlt
  have a := (hk).2.1
  have c := (hk).2.2
  simp only [List.mem_cons, List.not_mem_nil, or_false, forall_eq_or_imp, forall_eq] at a c
  have av := (kv).2.1
  have cv := (kv).2.2
  simp only [List.mem_cons, List.not_mem_nil, or_false, forall_eq_or_imp, forall_eq] at av cv
  obtain ⟨c1, c2, c3, c4⟩ := c
  obtain ⟨c5, c6⟩ := cv
  obtain ⟨z0, f0, f1⟩ := fv
  obtain ⟨z1, f2, f3⟩ := hf
  refine ⟨⟨below_result hk.1 (by omega) _ _, ?_, ?_⟩, ⟨by simpa [World.setCell] using z0, ?_, ?_⟩, ⟨by simpa [World.setCell] using z1, ?_, ?_⟩, hlt⟩
  · intro c hc
    have hz : ((wr.setCell ⟨g, 0, none⟩ u).setCell ⟨g, 1, none⟩ v).heap.size = wr.heap.size := by simp [World.setCell]
    rw [hz]
    simp only [List.mem_cons, List.not_mem_nil, or_false] at hc
    rcases hc with rfl | rfl | rfl | rfl | rfl | rfl <;> (simp only; omega)
  · intro c hc
    simp only [List.mem_cons, List.not_mem_nil, or_false] at hc
    rcases hc with rfl | rfl | rfl | rfl | rfl | rfl <;> simp [go_sem, *, World.cell?_setCell_far]
  all_goals simp [go_sem, *]
theorem size_alloc (w : World) (o : Obj) : (w.alloc o).heap.size = w.heap.size + 1 := by simp
theorem inSpans_at2 (w : World) {g : Nat} (hg : w.heap.size = g) (t : TypeId) {d0 u0 d1 u1 : Nat} (h : (d0 < 2 ^ 64 ∧ u0 < 2 ^ 64) ∧ (d1 < 2 ^ 64 ∧ u1 < 2 ^ 64)) :
    InSpans (w.alloc (.cells #[.float .f64 d0, .float .f64 u0, .float .f64 d1, .float .f64 u1] t)) g [(d0, u0), (d1, u1)] := by
  subst hg
  exact inSpans_new2 w t h
theorem InSpans.box {w : World} {g : Nat} {l : List (Nat × Nat)} (h : InSpans w g l) (x : Obj) : InSpans (w.alloc x) g l := by
  refine ⟨by simp; have := h.1; omega, fun i hi => ?_⟩
  obtain ⟨a, b, c, d⟩ := h.2 i hi
  exact ⟨by rw [World.cell?_alloc_lt w (a := ⟨g, _, none⟩) (h := h.1)]; exact a, by rw [World.cell?_alloc_lt w (a := ⟨g, _, none⟩) (h := h.1)]; exact b, c, d⟩
theorem InSpans.drew {w : World} {g : Nat} {l : List (Nat × Nat)} (h : InSpans w g l) : InSpans w.drew g l := h
theorem InSpans.drewN {w : World} {g : Nat} {l : List (Nat × Nat)} (h : InSpans w g l) (n : Nat) : InSpans (w.drewN n) g l := h

/-- What is told of a square. -/
def IsSqr (ok z : Bool) (L : List (Int × Nat)) (p : Nat × Nat × Int) : Prop :=
  (ok = false → p = (0, 0, 1)) ∧ (ok = true → ∃ lo hi, LowOf L lo ∧ HighOf L hi ∧ p = (if z then 0 else (endsF lo hi).1, (endsF lo hi).2))
set_option maxRecDepth 100000 in
set_option maxHeartbeats 16000000 in
theorem span_square_any (la ha : Nat) (b1 : la < 2 ^ 64) (b2 : ha < 2 ^ 64) (w : World) :
    Calls Try.prog 74 #[.agg #[.float .f64 la, .float .f64 ha]] w (RetSp w (IsSqr (okS la ha) (zB la ha) (sqrC la ha))) := by
  obtain ⟨m1, hm1⟩ : ∃ m, okS la ha = m := ⟨_, rfl⟩
  rw [hm1]
  have HM1 := Lib.hid hm1
  clear hm1
  cases m1 with
  | false =>
    go_enter Try.func74, Try.ntmps74
    go_wp2_with fail
    refine (span_may_one5 (w.heap.size + 1 + 1) la ha _ b1 b2 (by simp) (by simp [go_sem]) (by simp [go_sem])).mono ?_
    rintro e1 w1 ⟨rfl, hb1⟩
    rw [HM1.out]
    obtain ⟨hc1, hf1⟩ := bcell hb1
    have k0 := hc1 (w.heap.size + 1) 0 (by simp <;> omega)
    have k1 := hc1 (w.heap.size + 1) 1 (by simp <;> omega)
    have k2 := hf1 (w.heap.size + 1) 0 (by simp <;> omega)
    have k3 := hf1 (w.heap.size + 1) 1 (by simp <;> omega)
    go_wp2_with fail
    exact bodyPost_ret (v := .tuple #[.agg #[.float .f64 0, .float .f64 0], .int .i64 1]) (by simp [results, Try.results74, go_sem, k0, k1]) rfl
      ⟨(0, 0, 1), ⟨fun _ => rfl, fun h => by simp at h⟩, rfl, below_result (below_box (below_box (below_box hb1))) (by omega) _ _⟩
  | true =>
    have HF := Lib.hid (okS_iff.1 HM1.out)
    obtain ⟨m2, hm2⟩ : ∃ m, leB la 0 = m := ⟨_, rfl⟩
    obtain ⟨m3, hm3⟩ : ∃ m, (Ieee.double.order ha 0 == some .gt || Ieee.double.order ha 0 == some .eq) = m := ⟨_, rfl⟩
    have HZ : Hid (zB la ha = (m2 && m3)) := Lib.hid (by unfold zB; rw [hm2, hm3])
    have o2 : (Ieee.double.order la 0 == some .lt || Ieee.double.order la 0 == some .eq) = m2 := hm2
    clear hm2
    rw [HZ.out]
    go_enter Try.func74, Try.ntmps74
    go_wp2_with fail
    refine (span_may_one5 (w.heap.size + 1 + 1) la ha _ b1 b2 (by simp) (by simp [go_sem]) (by simp [go_sem])).mono ?_
    rintro e1 w1 ⟨rfl, hb1⟩
    rw [HM1.out]
    have K1 := ((((Kept.nil w).two rfl _ _ _).two (g := w.heap.size + 1) (by simp) _ _ _).box _).next hb1
    have R1 := ((Free.new (w.alloc (.cells #[.float .f64 la, .float .f64 ha] 69)) (g := w.heap.size + 1) (by simp) (.float .f64 0) (.float .f64 0) 69).next ((Below.refl _ _).alloc (Nat.le_refl _) _)).next hb1
    have H1 : St w la ha none w1 := ⟨⟨K1.1, fun c hc => K1.2.1 c (by simp at hc ⊢; rcases hc with rfl | rfl | rfl | rfl <;> simp), fun c hc => K1.2.2 c (by simp at hc ⊢; rcases hc with rfl | rfl | rfl | rfl <;> simp)⟩, R1, fun g hg => by simp at hg⟩
    clear K1 R1
    have KK1 := H1.1
    have a1 := (KK1).2.1
    have c1 := (KK1).2.2
    simp only [List.mem_cons, List.not_mem_nil, or_false, forall_eq_or_imp, forall_eq] at a1 c1
    clear hb1
    go_upto_region 3 with (fail)
    go_cut [4, 5] from 6 (fun s4 s5 wx => ∃ (g lo hi : Nat), s4 = .pointer (some ⟨g, 0, none⟩) ∧ s5 = .int .i64 (endsF lo hi).2.2 ∧
      Kept w [(g, 0, .float .f64 (endsF lo hi).1), (g, 1, .float .f64 (endsF lo hi).2.1), (w.heap.size, 0, .float .f64 la), (w.heap.size, 1, .float .f64 ha), (w.heap.size + 1, 0, .float .f64 0), (w.heap.size + 1, 1, .float .f64 0)] wx ∧
      Free g wx ∧ Free (w.heap.size + 1) wx ∧ w.heap.size + 1 < g ∧ Hid (LowOf (sqrC la ha) lo ∧ HighOf (sqrC la ha) hi))
    case first =>
      go_region_held3 (fun w' => w'.cell? ⟨w.heap.size, 0, none⟩ = some (.float .f64 la) ∧ w'.cell? ⟨w.heap.size, 1, none⟩ = some (.float .f64 ha) ∧ w'.cell? ⟨w.heap.size + 1, 0, none⟩ = some (.float .f64 0) ∧ w'.cell? ⟨w.heap.size + 1, 1, none⟩ = some (.float .f64 0))
        (first | exact c1 | exact c2 | exact c3 | exact c4 | exact c5 | exact c6 | go_keep)
        (first
        | (go_at_call 117; (with_reducible refine (rnd_mul_any la la b1 b1 _).mono ?_); rintro e2 w2 ⟨d0, u0, rfl, hs2, hb2⟩; (first | (have H2 := H1.next hb2) | (have H2 := H1.drew.next hb2) | (have H2 := (H1.drewN _).next hb2) | (have H2 := (H1.var (g := w1.heap.size) rfl _).next hb2) | (have H2 := (H1.var (g := w1.heap.size) rfl _).drew.next hb2) | (have H2 := ((H1.var (g := w1.heap.size) rfl _).drewN _).next hb2) | (have H2 := (H1.drew.var (g := w1.heap.size) rfl _).next hb2)); have HP0 := Lib.hid hs2; clear hb2 hs2; have KK2 := H2.1; have a2 := (KK2).2.1; have c2 := (KK2).2.2; simp only [List.mem_cons, List.not_mem_nil, or_false, forall_eq_or_imp, forall_eq] at a2 c2)
        | (go_at_call 116; (with_reducible refine (span_both_any d0 u0 _).mono ?_); rintro e3 w3 ⟨rfl, hb3⟩; (first | (have H3 := H2.next hb3) | (have H3 := H2.drew.next hb3) | (have H3 := (H2.drewN _).next hb3) | (have H3 := (H2.var (g := w2.heap.size) rfl _).next hb3) | (have H3 := (H2.var (g := w2.heap.size) rfl _).drew.next hb3) | (have H3 := ((H2.var (g := w2.heap.size) rfl _).drewN _).next hb3) | (have H3 := (H2.drew.var (g := w2.heap.size) rfl _).next hb3)); clear hb3; have KK3 := H3.1; have a3 := (KK3).2.1; have c3 := (KK3).2.2; simp only [List.mem_cons, List.not_mem_nil, or_false, forall_eq_or_imp, forall_eq] at a3 c3)
        | (go_at_call 117; (with_reducible refine (rnd_mul_any ha ha b2 b2 _).mono ?_); rintro e4 w4 ⟨d1, u1, rfl, hs4, hb4⟩; (first | (have H4 := H3.next hb4) | (have H4 := H3.drew.next hb4) | (have H4 := (H3.drewN _).next hb4) | (have H4 := (H3.var (g := w3.heap.size) rfl _).next hb4) | (have H4 := (H3.var (g := w3.heap.size) rfl _).drew.next hb4) | (have H4 := ((H3.var (g := w3.heap.size) rfl _).drewN _).next hb4) | (have H4 := (H3.drew.var (g := w3.heap.size) rfl _).next hb4)); have HP1 := Lib.hid hs4; clear hb4 hs4; have KK4 := H4.1; have a4 := (KK4).2.1; have c4 := (KK4).2.2; simp only [List.mem_cons, List.not_mem_nil, or_false, forall_eq_or_imp, forall_eq] at a4 c4)
        | (go_at_call 116; (with_reducible refine (span_both_any d1 u1 _).mono ?_); rintro e5 w5 ⟨rfl, hb5⟩; (first | (have H5 := H4.next hb5) | (have H5 := H4.drew.next hb5) | (have H5 := (H4.drewN _).next hb5) | (have H5 := (H4.var (g := w4.heap.size) rfl _).next hb5) | (have H5 := (H4.var (g := w4.heap.size) rfl _).drew.next hb5) | (have H5 := ((H4.var (g := w4.heap.size) rfl _).drewN _).next hb5) | (have H5 := (H4.drew.var (g := w4.heap.size) rfl _).next hb5)); clear hb5; have KK5 := H5.1; have a5 := (KK5).2.1; have c5 := (KK5).2.2; simp only [List.mem_cons, List.not_mem_nil, or_false, forall_eq_or_imp, forall_eq] at a5 c5)
        | (go_at_call 115; have hbd : (d0 < 2 ^ 64 ∧ u0 < 2 ^ 64) ∧ (d1 < 2 ^ 64 ∧ u1 < 2 ^ 64) := ⟨⟨(prod_down HP0.out HF.out.1 HF.out.1).1.1, (prod_down HP0.out HF.out.1 HF.out.1).2.1⟩, ⟨(prod_down HP1.out HF.out.2.1 HF.out.2.1).1.1, (prod_down HP1.out HF.out.2.1 HF.out.2.1).2.1⟩⟩; (first | ((with_reducible refine (span_outer_two w5.heap.size d0 u0 d1 u1 _ (inSpans_new2 w5 _ hbd)).mono ?_); rintro e6 w6 ⟨rfl, hb6⟩; have H6 := (H5.box _).next hb6) | ((with_reducible refine (span_outer_two w5.heap.size d0 u0 d1 u1 _ (InSpans.drew (inSpans_new2 w5 _ hbd))).mono ?_); rintro e6 w6 ⟨rfl, hb6⟩; have H6 := ((H5.box _).drew).next hb6) | ((with_reducible refine (span_outer_two w5.heap.size d0 u0 d1 u1 _ (InSpans.box (inSpans_new2 w5 _ hbd) _)).mono ?_); rintro e6 w6 ⟨rfl, hb6⟩; have H6 := ((H5.box _).var (g := w5.heap.size + 1) (size_alloc w5 _) _).next hb6) | ((with_reducible refine (span_outer_two w5.heap.size d0 u0 d1 u1 _ (InSpans.drew (InSpans.box (inSpans_new2 w5 _ hbd) _))).mono ?_); rintro e6 w6 ⟨rfl, hb6⟩; have H6 := (((H5.box _).var (g := w5.heap.size + 1) (size_alloc w5 _) _).drew).next hb6) | ((with_reducible refine (span_outer_two (w5.heap.size + 1) d0 u0 d1 u1 _ (inSpans_at2 (w5.alloc (.cells #[.float .f64 0, .float .f64 0] 69)) (size_alloc w5 _) _ hbd)).mono ?_); rintro e6 w6 ⟨rfl, hb6⟩; have H6 := ((H5.var (g := w5.heap.size) rfl _).box _).next hb6) | ((with_reducible refine (span_outer_two (w5.heap.size + 1) d0 u0 d1 u1 _ (InSpans.drew (inSpans_at2 (w5.alloc (.cells #[.float .f64 0, .float .f64 0] 69)) (size_alloc w5 _) _ hbd))).mono ?_); rintro e6 w6 ⟨rfl, hb6⟩; have H6 := (((H5.var (g := w5.heap.size) rfl _).box _).drew).next hb6)); clear hb6; have KK6 := H6.1; have a6 := (KK6).2.1; have c6 := (KK6).2.2; simp only [List.mem_cons, List.not_mem_nil, or_false, forall_eq_or_imp, forall_eq] at a6 c6; have R6 := H6.2.1; obtain ⟨q5, q6, q7, q8⟩ := far_of H5.2.1.1; (try (have V6 := H6.2.2 _ rfl; have KV6 := V6.1; have av6 := (KV6).2.1; have cv6 := (KV6).2.2; simp only [List.mem_cons, List.not_mem_nil, or_false, forall_eq_or_imp, forall_eq] at av6 cv6; obtain ⟨_, fv0, fv1⟩ := V6.2.1; obtain ⟨q1, q2, q3, q4⟩ := far_of V6.2.2))))
      all_goals (go_wp2_with fail)
      all_goals go_meet
      all_goals first
        | exact ⟨_, _, _, rfl, rfl, (H6.fresh _ _ _).1, (H6.fresh _ _ _).2.1, (H6.fresh _ _ _).2.2.1, (H6.fresh (.bool true) (.bool true) 69).2.2.2, Lib.hid ⟨by unfold sqrC; exact low2 (prod_down HP0.out HF.out.1 HF.out.1).1 (prod_down HP1.out HF.out.2.1 HF.out.2.1).1, by unfold sqrC; exact high2 (prod_down HP0.out HF.out.1 HF.out.1).2 (prod_down HP1.out HF.out.2.1 HF.out.2.1).2⟩⟩
        | exact ⟨_, _, _, rfl, rfl, (H6.stored _ _).1, (H6.stored _ _).2.1, (H6.stored _ _).2.2.1, (H6.stored (.bool true) (.bool true)).2.2.2, Lib.hid ⟨by unfold sqrC; exact low2 (prod_down HP0.out HF.out.1 HF.out.1).1 (prod_down HP1.out HF.out.2.1 HF.out.2.1).1, by unfold sqrC; exact high2 (prod_down HP0.out HF.out.1 HF.out.1).2 (prod_down HP1.out HF.out.2.1 HF.out.2.1).2⟩⟩
    case rest =>
      obtain ⟨g, lo, hi, rfl, rfl, KX, FG, FR, hg, HLH⟩ := hcut
      clear a1 c1 KK1 H1
      have ax := (KX).2.1
      have cx := (KX).2.2
      simp only [List.mem_cons, List.not_mem_nil, or_false, forall_eq_or_imp, forall_eq] at ax cx
      obtain ⟨x0, x1, x2, x3, x4, x5⟩ := cx
      obtain ⟨_, g0, g1⟩ := FG
      obtain ⟨_, r0, r1⟩ := FR
      obtain ⟨q1, q2, q3, q4⟩ := far_of hg
      cases m2 <;> cases m3
      case true.true =>
        go_wp2_with fail
        exact bodyPost_ret (v := .tuple #[.agg #[.float .f64 0, .float .f64 (endsF lo hi).2.1], .int .i64 (endsF lo hi).2.2]) (by simp [results, Try.results74, go_sem, *, World.cell?_setCell_far]) rfl
          ⟨(0, (endsF lo hi).2), ⟨fun h => by simp at h, fun _ => ⟨lo, hi, HLH.out.1, HLH.out.2, rfl⟩⟩, rfl, below_result (KX.1.setCell (p := ⟨g, 0, none⟩) (by show w.heap.size ≤ g; omega) _) (Nat.le_succ _) _ _⟩
      all_goals
        go_wp2_with fail
        exact bodyPost_ret (v := .tuple #[.agg #[.float .f64 (endsF lo hi).1, .float .f64 (endsF lo hi).2.1], .int .i64 (endsF lo hi).2.2]) (by simp [results, Try.results74, go_sem, *]) rfl ⟨endsF lo hi, ⟨fun h => by simp at h, fun _ => ⟨lo, hi, HLH.out.1, HLH.out.2, rfl⟩⟩, rfl, below_result KX.1 (Nat.le_succ _) _ _⟩
end Go.Proofs.Ytejlicacndpfpaa
