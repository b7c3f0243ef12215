/-
  SpanRoots: the walk.
-/
import Derived.Test.YtcjpocepgkfkaaaGreatSqW
import Derived.Test.YtcjpocepgkfkaaaGreatSpnLw
namespace Go.Proofs.YtcjpocepgkfkaaaGreat
open Go.RowKit

set_option maxRecDepth 100000 in
set_option maxHeartbeats 3200000 in
theorem span_sqrt_no (la ha : Nat) (b1 : la < 2 ^ 64) (b2 : ha < 2 ^ 64) (h : okS la ha = false) (w : World) : Calls Tryz.prog 4 #[.agg #[.float .f64 la, .float .f64 ha]] w (RetSpan w 0 0 (.int .i64 1)) := by
  have K0 := ((Mm.nil w).var (g := w.heap.size) rfl [.float .f64 la, .float .f64 ha] 24).var (g := w.heap.size + 1) (by simp) [.float .f64 0, .float .f64 0] 24
  have HOK := Lib.hid h
  clear h
  go_enter Tryz.func4, Tryz.ntmps4
  go_wp2_with fail
  refine (span_may_one5 (w.heap.size + 1 + 1) la ha _ b1 b2 (by simp) (by simp [go_sem]) (by simp [go_sem])).mono ?_
  rintro e1 w1 ⟨rfl, hb1⟩
  rw [HOK.out]
  have K1 := (K0.box _).next hb1
  clear hb1 K0
  obtain ⟨qa1x, qb1x, qc1x, qd1x, qe1x⟩ := (K1.blk (g := w.heap.size) (vs := [.float .f64 la, .float .f64 ha]) (by simp)).two
  obtain ⟨qa1r, qb1r, qc1r, qd1r, qe1r⟩ := (K1.blk (g := w.heap.size + 1) (vs := [.float .f64 0, .float .f64 0]) (by simp)).two
  go_wp2_with fail
  have hbw := below_result (g := w.heap.size + 1) K1.1 (by omega) (.float .f64 0) (.float .f64 0)
  exact bodyPost_ret (v := .tuple #[.agg #[.float .f64 0, .float .f64 0], .int .i64 1]) (by simp [results, Tryz.results4, go_sem, qa1r, qb1r]) rfl ⟨rfl, hbw⟩

set_option maxRecDepth 100000 in
set_option maxHeartbeats 3200000 in
theorem span_sqrt_neg (la ha : Nat) (b1 : la < 2 ^ 64) (b2 : ha < 2 ^ 64) (h : okS la ha = true) (o1 : (Ieee.double.order ha 0 == some .lt) = true) (w : World) : Calls Tryz.prog 4 #[.agg #[.float .f64 la, .float .f64 ha]] w (RetSpan w 0 0 (.int .i64 1)) := by
  have K0 := ((Mm.nil w).var (g := w.heap.size) rfl [.float .f64 la, .float .f64 ha] 24).var (g := w.heap.size + 1) (by simp) [.float .f64 0, .float .f64 0] 24
  have HOK := Lib.hid h
  clear h
  go_enter Tryz.func4, Tryz.ntmps4
  go_wp2_with fail
  refine (span_may_one5 (w.heap.size + 1 + 1) la ha _ b1 b2 (by simp) (by simp [go_sem]) (by simp [go_sem])).mono ?_
  rintro e1 w1 ⟨rfl, hb1⟩
  rw [HOK.out]
  have K1 := (K0.box _).next hb1
  clear hb1 K0
  obtain ⟨qa1x, qb1x, qc1x, qd1x, qe1x⟩ := (K1.blk (g := w.heap.size) (vs := [.float .f64 la, .float .f64 ha]) (by simp)).two
  obtain ⟨qa1r, qb1r, qc1r, qd1r, qe1r⟩ := (K1.blk (g := w.heap.size + 1) (vs := [.float .f64 0, .float .f64 0]) (by simp)).two
  go_wp2_with fail
  have hbw := below_result (g := w.heap.size + 1) K1.1 (by omega) (.float .f64 0) (.float .f64 0)
  exact bodyPost_ret (v := .tuple #[.agg #[.float .f64 0, .float .f64 0], .int .i64 1]) (by simp [results, Tryz.results4, go_sem, qa1r, qb1r]) rfl ⟨rfl, hbw⟩

/-- What is told of a root: refused, or as A says. -/
def SqrtT (A : Nat × Nat × Int → Prop) (la ha : Nat) (p : Nat × Nat × Int) : Prop :=
  (okS la ha = false → p = (0, 0, 1)) ∧ (okS la ha = true → Flt.sv ha < 0 → p = (0, 0, 1)) ∧ (okS la ha = true → 0 ≤ Flt.sv ha → A p)
theorem ret_sp {W : World} {q : Nat × Nat × Int → Prop} {lo hi : Nat} {z : Int} {e : Ending} {w' : World} (h : RetSpan W lo hi (.int .i64 z) e w') (k : q (lo, hi, z)) : RetSp W q e w' := ⟨(lo, hi, z), k, h⟩
theorem neg_order {ha : Nat} (f : Flt.Fin ha) (h : Flt.sv ha < 0) : (Ieee.double.order ha 0 == some .lt) = true := by
  rw [Flt.lt_spec (fun k => Flt.not_fin_nan k f) nan_zero, sv_zero]
  exact decide_eq_true h
def SqrtA (la ha : Nat) (p : Nat × Nat × Int) : Prop := ∃ lo lu hd hi, IsRoot (pz (mx la 0)) lo lu ∧ IsRoot (pz ha) hd hi ∧ p = endsF lo hi
theorem span_sqrt_any (la ha : Nat) (b1 : la < 2 ^ 64) (b2 : ha < 2 ^ 64) (w : World) : Calls Tryz.prog 4 #[.agg #[.float .f64 la, .float .f64 ha]] w (RetSp w (SqrtT (SqrtA la ha) la ha)) := by
  cases hok : okS la ha with
  | false => exact (span_sqrt_no la ha b1 b2 hok w).mono (fun e w' h => ret_sp h ⟨fun _ => rfl, fun k => by rw [hok] at k; exact absurd k (by decide), fun k => by rw [hok] at k; exact absurd k (by decide)⟩)
  | true =>
    obtain ⟨f1, f2, _⟩ := okS_iff.1 hok
    by_cases h0 : 0 ≤ Flt.sv ha
    · exact (span_sqrt_ok la ha b1 b2 hok h0 w).mono (fun e w' ⟨p, hp, h⟩ => ⟨p, ⟨fun k => by rw [hok] at k; exact absurd k (by decide), fun _ k => by omega, fun _ _ => hp⟩, h⟩)
    · exact (span_sqrt_neg la ha b1 b2 hok (neg_order f2 (by omega)) w).mono (fun e w' h => ret_sp h ⟨fun _ => rfl, fun _ _ => rfl, fun _ k => absurd k h0⟩)
theorem ref5_sqrt_any (la ha : Nat) (b1 : la < 2 ^ 64) (b2 : ha < 2 ^ 64) (w : World) : Calls Tryz.prog 5 #[.agg #[.float .f64 la, .float .f64 ha]] w (RetSp w (SqrtT (SqrtR la ha) la ha)) := by
  cases hok : okS la ha with
  | false => exact (ref5_sqrt_no la ha hok w).mono (fun e w' h => ret_sp h ⟨fun _ => rfl, fun k => by rw [hok] at k; exact absurd k (by decide), fun k => by rw [hok] at k; exact absurd k (by decide)⟩)
  | true =>
    obtain ⟨f1, f2, _⟩ := okS_iff.1 hok
    by_cases h0 : 0 ≤ Flt.sv ha
    · exact (sqrt_any_ref la ha b1 b2 hok h0 w).mono (fun e w' ⟨p, hp, h⟩ => ⟨p, ⟨fun k => by rw [hok] at k; exact absurd k (by decide), fun _ k => by omega, fun _ _ => hp⟩, h⟩)
    · exact (ref5_sqrt_neg la ha hok (neg_order f2 (by omega)) w).mono (fun e w' h => ret_sp h ⟨fun _ => rfl, fun _ _ => rfl, fun _ k => absurd k h0⟩)
theorem ref5_square_any (la ha : Nat) (b1 : la < 2 ^ 64) (b2 : ha < 2 ^ 64) (w : World) : Calls Tryz.prog 7 #[.agg #[.float .f64 la, .float .f64 ha]] w (RetSp w (SqR la ha)) := by
  cases hok : okS la ha with
  | false => exact (ref5_square_no la ha hok w).mono (fun e w' h => ret_sp h ⟨fun _ => rfl, fun k => by rw [hok] at k; exact absurd k (by decide)⟩)
  | true => exact ref5_square_ok la ha b1 b2 hok w
theorem sqrtT_same {la ha : Nat} {p r : Nat × Nat × Int} (b1 : la < 2 ^ 64) (b2 : ha < 2 ^ 64) (hp : SqrtT (SqrtA la ha) la ha p) (hr : SqrtT (SqrtR la ha) la ha r) : p = r := by
  cases hok : okS la ha with
  | false => rw [hp.1 hok, hr.1 hok]
  | true =>
    by_cases h0 : 0 ≤ Flt.sv ha
    · obtain ⟨lo, lu, hd, hi, h1, h2, rfl⟩ := hp.2.2 hok h0
      exact sqrt_same b1 b2 hok h0 h1 h2 (hr.2.2 hok h0)
    · rw [hp.2.1 hok (by omega), hr.2.1 hok (by omega)]

set_option maxRecDepth 100000 in
set_option maxHeartbeats 3200000 in
theorem law_spanRoots (la ha : Nat) (b1 : la < 2 ^ 64) (b2 : ha < 2 ^ 64) (w : World) :
    Calls Tryz.prog 3 #[.agg #[.float .f64 la, .float .f64 ha]] w (RetV w (.bool true)) := by
  have V0 := (Mm.nil w).var (g := w.heap.size) rfl [.float .f64 la, .float .f64 ha] 24
  go_enter Tryz.func3, Tryz.ntmps3
  go_wp2_with fail
  refine (span_sqrt_any la ha b1 b2 _).mono ?_
  rintro e1 w1 ⟨⟨u1, v1, z1⟩, hp1, rfl, hb1⟩
  have HP1 := Lib.hid hp1
  have K1 := V0.next hb1
  have V1 := K1.var (g := w1.heap.size) rfl [.float .f64 u1, .float .f64 v1] 24
  clear hb1
  obtain ⟨qa1x, qb1x, qc1x, qd1x, qe1x⟩ := (K1.blk (g := w.heap.size) (vs := [.float .f64 la, .float .f64 ha]) (by simp)).two
  have ne1a : ¬ w.heap.size = w1.heap.size := Nat.ne_of_lt qe1x
  go_wp2_with fail
  refine (ref5_sqrt_any la ha b1 b2 _).mono ?_
  rintro e2 w2 ⟨r, hr2, rfl, hb2⟩
  have he2 := sqrtT_same b1 b2 HP1.out hr2
  subst he2
  have K2 := V1.next hb2
  have V2 := K2.var (g := w2.heap.size) rfl [.float .f64 u1, .float .f64 v1] 24
  clear hb2
  obtain ⟨qa2x, qb2x, qc2x, qd2x, qe2x⟩ := (K2.blk (g := w.heap.size) (vs := [.float .f64 la, .float .f64 ha]) (by simp)).two
  have ne2a : ¬ w.heap.size = w2.heap.size := Nat.ne_of_lt qe2x
  obtain ⟨pa12, pb12, pc12, pd12, pe12⟩ := (K2.blk (g := w1.heap.size) (vs := [.float .f64 u1, .float .f64 v1]) (by simp)).two
  have nf12 : ¬ w1.heap.size = w2.heap.size := Nat.ne_of_lt pe12
  go_wp2_with fail
  refine (span_square_any la ha b1 b2 _).mono ?_
  rintro e3 w3 ⟨⟨u3, v3, z3⟩, hp3, rfl, hb3⟩
  have HP3 := Lib.hid hp3
  have K3 := V2.next hb3
  have V3 := K3.var (g := w3.heap.size) rfl [.float .f64 u3, .float .f64 v3] 24
  clear hb3
  obtain ⟨qa3x, qb3x, qc3x, qd3x, qe3x⟩ := (K3.blk (g := w.heap.size) (vs := [.float .f64 la, .float .f64 ha]) (by simp)).two
  have ne3a : ¬ w.heap.size = w3.heap.size := Nat.ne_of_lt qe3x
  obtain ⟨pa13, pb13, pc13, pd13, pe13⟩ := (K3.blk (g := w1.heap.size) (vs := [.float .f64 u1, .float .f64 v1]) (by simp)).two
  have nf13 : ¬ w1.heap.size = w3.heap.size := Nat.ne_of_lt pe13
  obtain ⟨pa23, pb23, pc23, pd23, pe23⟩ := (K3.blk (g := w2.heap.size) (vs := [.float .f64 u1, .float .f64 v1]) (by simp)).two
  have nf23 : ¬ w2.heap.size = w3.heap.size := Nat.ne_of_lt pe23
  go_wp2_with fail
  refine (ref5_square_any la ha b1 b2 _).mono ?_
  rintro e4 w4 ⟨r, hr4, rfl, hb4⟩
  have he4 := sqr_same HP3.out hr4
  subst he4
  have K4 := V3.next hb4
  have V4 := K4.var (g := w4.heap.size) rfl [.float .f64 u3, .float .f64 v3] 24
  clear hb4
  obtain ⟨qa4x, qb4x, qc4x, qd4x, qe4x⟩ := (K4.blk (g := w.heap.size) (vs := [.float .f64 la, .float .f64 ha]) (by simp)).two
  have ne4a : ¬ w.heap.size = w4.heap.size := Nat.ne_of_lt qe4x
  obtain ⟨pa14, pb14, pc14, pd14, pe14⟩ := (K4.blk (g := w1.heap.size) (vs := [.float .f64 u1, .float .f64 v1]) (by simp)).two
  have nf14 : ¬ w1.heap.size = w4.heap.size := Nat.ne_of_lt pe14
  obtain ⟨pa24, pb24, pc24, pd24, pe24⟩ := (K4.blk (g := w2.heap.size) (vs := [.float .f64 u1, .float .f64 v1]) (by simp)).two
  have nf24 : ¬ w2.heap.size = w4.heap.size := Nat.ne_of_lt pe24
  obtain ⟨pa34, pb34, pc34, pd34, pe34⟩ := (K4.blk (g := w3.heap.size) (vs := [.float .f64 u3, .float .f64 v3]) (by simp)).two
  have nf34 : ¬ w3.heap.size = w4.heap.size := Nat.ne_of_lt pe34
  go_wp2_with fail
  refine (same05_eq u1 v1 z1 _).mono ?_
  rintro e5 w5 ⟨rfl, hb5⟩
  have K5 := V4.next hb5
  clear hb5
  obtain ⟨ra3, rb3, rc3, rd3, re3⟩ := (K5.blk (g := w3.heap.size) (vs := [.float .f64 u3, .float .f64 v3]) (by simp)).two
  obtain ⟨ra4, rb4, rc4, rd4, re4⟩ := (K5.blk (g := w4.heap.size) (vs := [.float .f64 u3, .float .f64 v3]) (by simp)).two
  go_wp2_with fail
  refine (same05_eq u3 v3 z3 _).mono ?_
  rintro e6 w6 ⟨rfl, hb6⟩
  have K6 := K5.next hb6
  clear hb6
  go_wp2_with fail
  refine (lives05 _).mono ?_
  rintro e7 w7 ⟨rfl, hb7⟩
  have K7 := K6.next hb7
  go_wp2_with fail
  go_ret
  exact ⟨rfl, K7.1⟩
end Go.Proofs.YtcjpocepgkfkaaaGreat
