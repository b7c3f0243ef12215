/-
  The references' spans (polestarref05): root, Sqrt, square; polestarref02.Nought.
-/
import Derived.Test.YtcjpocepgkfkaaaGreatRtP
import Derived.Test.YtcjpocepgkfkaaaGreatRootF
import Derived.Test.YtcjpocepgkfkaaaGreatFrY
import Derived.Test.YtcjpocepgkfkaaaGreatSpnZ
namespace Go.Proofs.YtcjpocepgkfkaaaGreat
open Go.RowKit

set_option maxRecDepth 100000 in
set_option maxHeartbeats 3200000 in
theorem ref2_nought_any (w : World) : Calls Tryz.prog 23 #[] w (RetFr w 0) := by
  have K0 := (Mm.nil w).var (g := w.heap.size) rfl [.bool false, .slice none 0 0, .bool false, .slice none 0 0] 49
  go_enter Tryz.func23, Tryz.ntmps23
  go_wp2_with fail
  refine (ref_of_any 1 _ (by decide)).mono ?_
  rintro e1 w1 ⟨neg1, A1, n1, c1, rfl, I1, hb1⟩
  have K1 := (K0.next hb1).int I1
  obtain ⟨⟨qa1r, qb1r, qc1r, qd1r⟩, ⟨qe1r, qf1r, qg1r, qh1r⟩, qi1r⟩ := (K1.blk (g := w.heap.size) (vs := [.bool false, .slice none 0 0, .bool false, .slice none 0 0]) (by simp)).four
  clear I1 hb1
  go_wp2_with fail
  have KE := K1.set4 (by simp) false none 0 0 neg1 A1 n1 c1
  exact bodyPost_ret (v := .agg #[.bool false, .slice none 0 0, .bool neg1, .slice A1 n1 c1]) (by simp [results, Tryz.results23, go_sem, qa1r, qb1r, qc1r, qd1r]) rfl ⟨false, none, 0, 0, neg1, A1, n1, c1, rfl, isInt_nought, KE.at_ (by simp), KE.1⟩

set_option maxRecDepth 100000 in
set_option maxHeartbeats 3200000 in
theorem ref5_sq_any (v : Nat) (b : v < 2 ^ 64) (hf : Flt.Fin v) (r : Rat) (hr : Hid (fr v * fr v = r)) (w : World) : Calls Tryz.prog 22 #[.float .f64 v] w (RetFr w r) := by
  have K0 := (Mm.nil w).var (g := w.heap.size) rfl [.bool false, .slice none 0 0, .bool false, .slice none 0 0] 49
  have HS : Hid (Sz (fr v) 67) := Lib.hid (fr_sz hf)
  clear hf
  go_enter Tryz.func22, Tryz.ntmps22
  go_wp2_with fail
  refine (ref2_float_any v b _).mono ?_
  rintro e1 w1 ⟨neg1, A1, n1, c1, ne1, B1, m1, d1, rfl, I1, J1, hb1⟩
  have K1 := ((K0.next hb1).int J1).int I1
  have K2 := K1.var (g := w1.heap.size) rfl [.bool neg1, .slice A1 n1 c1, .bool ne1, .slice B1 m1 d1] 49
  have hlt : w.heap.size < w1.heap.size := (K1.blk (g := w.heap.size) (vs := [.bool false, .slice none 0 0, .bool false, .slice none 0 0]) (by simp)).1
  have x1 : ¬ w.heap.size = w1.heap.size := by omega
  have x2 : ¬ w1.heap.size = w.heap.size := by omega
  clear I1 J1 hb1 K0
  go_wp2_with fail
  refine (ref2_times_any neg1 ne1 A1 B1 n1 c1 m1 d1 neg1 ne1 A1 B1 n1 c1 m1 d1 (fr v) (fr v) r 67 67 _ (K2.at_ (by simp)) (K2.at_ (by simp)) (K2.at_ (by simp)) (K2.at_ (by simp)) HS.out HS.out (by decide) hr).mono ?_
  rintro e3 w3 ⟨neg3, A3, n3, c3, ne3, B3, m3, d3, rfl, I3, J3, hb3⟩
  have K3 := ((K2.next hb3).int J3).int I3
  obtain ⟨⟨qa1r, qb1r, qc1r, qd1r⟩, ⟨qe1r, qf1r, qg1r, qh1r⟩, qi1r⟩ := (K3.blk (g := w.heap.size) (vs := [.bool false, .slice none 0 0, .bool false, .slice none 0 0]) (by simp)).four
  clear I3 J3 hb3
  go_wp2_with fail
  have KE := (K3.pick (L' := [(w.heap.size, [.bool false, .slice none 0 0, .bool false, .slice none 0 0])]) (l' := [(neg3, A3, n3, c3, r.num), (ne3, B3, m3, d3, (r.den : Int))]) (by simp) (by simp)).set4 (by simp) neg3 A3 n3 c3 ne3 B3 m3 d3
  exact bodyPost_ret (v := .agg #[.bool neg3, .slice A3 n3 c3, .bool ne3, .slice B3 m3 d3]) (by simp [results, Tryz.results22, go_sem, qa1r, qb1r, qc1r, qd1r]) rfl ⟨neg3, A3, n3, c3, ne3, B3, m3, d3, rfl, KE.at_ (by simp), KE.at_ (by simp), KE.1⟩

set_option maxRecDepth 100000 in
set_option maxHeartbeats 3200000 in
theorem ref5_root_any (v : Nat) (b : v < 2 ^ 64) (hf : Flt.Fin v) (w : World) : Calls Tryz.prog 14 #[.float .f64 v] w (fun e w' => ∃ d t, e = .returned (.tuple #[.float .f64 d, .bool t]) ∧ RootR v d t ∧ Below w.heap.size w w') := by
  have hq := eq_nought (fun k => Flt.not_fin_nan k hf)
  clear hf
  by_cases h0 : Flt.rg v = 0
  · have HE : Hid (RootR v 0 true) := Lib.hid ⟨fun _ => ⟨rfl, rfl⟩, fun h => absurd h0 h.2.2⟩
    rw [decide_eq_true h0] at hq
    clear h0
    go_enter Tryz.func14, Tryz.ntmps14
    go_wp2_with fail
    go_ret2
    exact ⟨0, true, rfl, HE.out, Below.refl _ _⟩
  · have HE : Hid (∀ d u, IsRoot v d u → RootR v d (Ieee.double.order d u == some .eq)) := Lib.hid (fun d u h => ⟨fun h' => absurd h' h0, fun _ => ⟨u, h, rfl⟩⟩)
    rw [decide_eq_false h0] at hq
    clear h0
    go_enter Tryz.func14, Tryz.ntmps14
    go_wp2_with fail
    refine (ref_sqrt_float v b _).mono ?_
    rintro e1 w1 ⟨d, u, rfl, hr, hb1⟩
    have HR := Lib.hid (HE.out d u hr)
    clear hr HE
    go_wp2_with fail
    go_ret2
    exact ⟨d, _, rfl, HR.out, hb1⟩

set_option maxRecDepth 100000 in
set_option maxHeartbeats 3200000 in
theorem ref5_sqrt_no (la ha : Nat) (h : okS la ha = false) (w : World) : Calls Tryz.prog 5 #[.agg #[.float .f64 la, .float .f64 ha]] w (RetSpan w 0 0 (.int .i64 1)) := by
  have K0 := ((Mm.nil w).var (g := w.heap.size) rfl [.float .f64 la, .float .f64 ha] 24).var (g := w.heap.size + 1) (by simp) [.float .f64 0, .float .f64 0] 24
  have HA : Hid (okI la ha = 1) := Lib.hid (by unfold okI; rw [h]; rfl)
  clear h
  go_enter Tryz.func5, Tryz.ntmps5
  go_wp2_with fail
  generalize (w.alloc (.cells #[.float .f64 la, .float .f64 ha] 24)).alloc (.cells #[.float .f64 0, .float .f64 0] 24) = w0 at K0 ⊢
  obtain ⟨qa0x, qb0x, qc0x, qd0x, qe0x⟩ := (K0.blk (g := w.heap.size) (vs := [.float .f64 la, .float .f64 ha]) (by simp)).two
  obtain ⟨qa0r, qb0r, qc0r, qd0r, qe0r⟩ := (K0.blk (g := w.heap.size + 1) (vs := [.float .f64 0, .float .f64 0]) (by simp)).two
  go_wp2_with fail
  refine (ref_check_any la ha _).mono ?_
  rintro e1 w1 ⟨rfl, hb1⟩
  rw [HA.out]
  have K1 := K0.next hb1
  clear hb1 K0
  obtain ⟨qa1x, qb1x, qc1x, qd1x, qe1x⟩ := (K1.blk (g := w.heap.size) (vs := [.float .f64 la, .float .f64 ha]) (by simp)).two
  obtain ⟨qa1r, qb1r, qc1r, qd1r, qe1r⟩ := (K1.blk (g := w.heap.size + 1) (vs := [.float .f64 0, .float .f64 0]) (by simp)).two
  go_wp2_with fail
  have hbw := below_result (g := w.heap.size + 1) K1.1 (by omega) (.float .f64 0) (.float .f64 0)
  exact bodyPost_ret (v := .tuple #[.agg #[.float .f64 0, .float .f64 0], .int .i64 1]) (by simp [results, Tryz.results5, go_sem, qa1r, qb1r]) rfl ⟨rfl, hbw⟩

set_option maxRecDepth 100000 in
set_option maxHeartbeats 3200000 in
theorem ref5_square_no (la ha : Nat) (h : okS la ha = false) (w : World) : Calls Tryz.prog 7 #[.agg #[.float .f64 la, .float .f64 ha]] w (RetSpan w 0 0 (.int .i64 1)) := by
  have K0 := ((Mm.nil w).var (g := w.heap.size) rfl [.float .f64 la, .float .f64 ha] 24).var (g := w.heap.size + 1) (by simp) [.float .f64 0, .float .f64 0] 24
  have HA : Hid (okI la ha = 1) := Lib.hid (by unfold okI; rw [h]; rfl)
  clear h
  go_enter Tryz.func7, Tryz.ntmps7
  go_wp2_with fail
  generalize (w.alloc (.cells #[.float .f64 la, .float .f64 ha] 24)).alloc (.cells #[.float .f64 0, .float .f64 0] 24) = w0 at K0 ⊢
  obtain ⟨qa0x, qb0x, qc0x, qd0x, qe0x⟩ := (K0.blk (g := w.heap.size) (vs := [.float .f64 la, .float .f64 ha]) (by simp)).two
  obtain ⟨qa0r, qb0r, qc0r, qd0r, qe0r⟩ := (K0.blk (g := w.heap.size + 1) (vs := [.float .f64 0, .float .f64 0]) (by simp)).two
  go_wp2_with fail
  refine (ref_check_any la ha _).mono ?_
  rintro e1 w1 ⟨rfl, hb1⟩
  rw [HA.out]
  have K1 := K0.next hb1
  clear hb1 K0
  obtain ⟨qa1x, qb1x, qc1x, qd1x, qe1x⟩ := (K1.blk (g := w.heap.size) (vs := [.float .f64 la, .float .f64 ha]) (by simp)).two
  obtain ⟨qa1r, qb1r, qc1r, qd1r, qe1r⟩ := (K1.blk (g := w.heap.size + 1) (vs := [.float .f64 0, .float .f64 0]) (by simp)).two
  go_wp2_with fail
  have hbw := below_result (g := w.heap.size + 1) K1.1 (by omega) (.float .f64 0) (.float .f64 0)
  exact bodyPost_ret (v := .tuple #[.agg #[.float .f64 0, .float .f64 0], .int .i64 1]) (by simp [results, Tryz.results7, go_sem, qa1r, qb1r]) rfl ⟨rfl, hbw⟩

set_option maxRecDepth 100000 in
set_option maxHeartbeats 3200000 in
theorem ref5_sqrt_neg (la ha : Nat) (h : okS la ha = true) (o1 : (Ieee.double.order ha 0 == some .lt) = true) (w : World) : Calls Tryz.prog 5 #[.agg #[.float .f64 la, .float .f64 ha]] w (RetSpan w 0 0 (.int .i64 1)) := by
  have K0 := ((Mm.nil w).var (g := w.heap.size) rfl [.float .f64 la, .float .f64 ha] 24).var (g := w.heap.size + 1) (by simp) [.float .f64 0, .float .f64 0] 24
  have HA : Hid (okI la ha = 0) := Lib.hid (by unfold okI; rw [h]; rfl)
  clear h
  go_enter Tryz.func5, Tryz.ntmps5
  go_wp2_with fail
  generalize (w.alloc (.cells #[.float .f64 la, .float .f64 ha] 24)).alloc (.cells #[.float .f64 0, .float .f64 0] 24) = w0 at K0 ⊢
  obtain ⟨qa0x, qb0x, qc0x, qd0x, qe0x⟩ := (K0.blk (g := w.heap.size) (vs := [.float .f64 la, .float .f64 ha]) (by simp)).two
  obtain ⟨qa0r, qb0r, qc0r, qd0r, qe0r⟩ := (K0.blk (g := w.heap.size + 1) (vs := [.float .f64 0, .float .f64 0]) (by simp)).two
  go_wp2_with fail
  refine (ref_check_any la ha _).mono ?_
  rintro e1 w1 ⟨rfl, hb1⟩
  rw [HA.out]
  have K1 := K0.next hb1
  clear hb1 K0
  obtain ⟨qa1x, qb1x, qc1x, qd1x, qe1x⟩ := (K1.blk (g := w.heap.size) (vs := [.float .f64 la, .float .f64 ha]) (by simp)).two
  obtain ⟨qa1r, qb1r, qc1r, qd1r, qe1r⟩ := (K1.blk (g := w.heap.size + 1) (vs := [.float .f64 0, .float .f64 0]) (by simp)).two
  go_wp2_with fail
  have hbw := below_result (g := w.heap.size + 1) K1.1 (by omega) (.float .f64 0) (.float .f64 0)
  exact bodyPost_ret (v := .tuple #[.agg #[.float .f64 0, .float .f64 0], .int .i64 1]) (by simp [results, Tryz.results5, go_sem, qa1r, qb1r]) rfl ⟨rfl, hbw⟩

set_option maxRecDepth 100000 in
set_option maxHeartbeats 3200000 in
theorem ref5_sqrt_pos (la ha : Nat) (b1 : la < 2 ^ 64) (b2 : ha < 2 ^ 64) (h : okS la ha = true) (h0 : 0 ≤ Flt.sv ha) (hl : 0 < Flt.sv la) (w : World) : Calls Tryz.prog 5 #[.agg #[.float .f64 la, .float .f64 ha]] w (RetSp w (SqrtR la ha)) := by
  have K0 := ((Mm.nil w).var (g := w.heap.size) rfl [.float .f64 la, .float .f64 ha] 24).var (g := w.heap.size + 1) (by simp) [.float .f64 0, .float .f64 0] 24
  obtain ⟨f1, f2, _⟩ := okS_iff.1 h
  have HA : Hid (okI la ha = 0) := Lib.hid (by unfold okI; rw [h]; rfl)
  have o1 : (Ieee.double.order ha 0 == some .lt) = false := by
    rw [Flt.lt_spec (fun k => Flt.not_fin_nan k f2) nan_zero, sv_zero]
    exact decide_eq_false (by omega)
  have o2 : (Ieee.double.order la 0 == some .gt) = true := by
    rw [Flt.gt_spec (fun k => Flt.not_fin_nan k f1) nan_zero, sv_zero]
    exact decide_eq_true hl
  have F1 := Lib.hid f1
  have F2 := Lib.hid f2
  have RZ : Hid (∀ d t, RootR ha d t → d < 9218868437227405312) := Lib.hid (fun d t hr => by
    have hi := Flt.inf_eq
    rcases rootR_small hr b2 f2 h0 with ⟨_, rfl, _⟩ | ⟨hP, u, h3, _⟩
    · decide
    · have := (root_fin2 h3 hP).1
      omega)
  have HE0 : Hid (∀ dl tl d t, RootR la dl tl → RootR ha d t → SqrtR la ha (endsR (if 0 < Flt.sv la then dl else 0) (if t then d else d + 1))) := Lib.hid (fun dl tl d t h1 h2 => ⟨dl, tl, d, t, h1, h2, rfl⟩)
  have HP := Lib.hid hl
  clear h f1 f2 h0 hl
  go_enter Tryz.func5, Tryz.ntmps5
  go_wp2_with fail
  generalize (w.alloc (.cells #[.float .f64 la, .float .f64 ha] 24)).alloc (.cells #[.float .f64 0, .float .f64 0] 24) = w0 at K0 ⊢
  obtain ⟨qa0x, qb0x, qc0x, qd0x, qe0x⟩ := (K0.blk (g := w.heap.size) (vs := [.float .f64 la, .float .f64 ha]) (by simp)).two
  obtain ⟨qa0r, qb0r, qc0r, qd0r, qe0r⟩ := (K0.blk (g := w.heap.size + 1) (vs := [.float .f64 0, .float .f64 0]) (by simp)).two
  go_wp2_with fail
  refine (ref_check_any la ha _).mono ?_
  rintro e1 w1 ⟨rfl, hb1⟩
  rw [HA.out]
  have K1 := K0.next hb1
  clear hb1 K0
  obtain ⟨qa1x, qb1x, qc1x, qd1x, qe1x⟩ := (K1.blk (g := w.heap.size) (vs := [.float .f64 la, .float .f64 ha]) (by simp)).two
  obtain ⟨qa1r, qb1r, qc1r, qd1r, qe1r⟩ := (K1.blk (g := w.heap.size + 1) (vs := [.float .f64 0, .float .f64 0]) (by simp)).two
  go_wp2_with fail
  refine (ref5_root_any la b1 F1.out _).mono ?_
  rintro e2 w2 ⟨dl, tl, rfl, hr2, hb2⟩
  have HR2 := Lib.hid hr2
  have HE : Hid (∀ d t, RootR ha d t → SqrtR la ha (endsR dl (if t then d else d + 1))) := Lib.hid (fun d t h2 => by
    have := HE0.out dl tl d t HR2.out h2
    rwa [if_pos HP.out] at this)
  have K2 := K1.next hb2
  clear hb2 K1 hr2 HE0 HP
  obtain ⟨qa2x, qb2x, qc2x, qd2x, qe2x⟩ := (K2.blk (g := w.heap.size) (vs := [.float .f64 la, .float .f64 ha]) (by simp)).two
  obtain ⟨qa2r, qb2r, qc2r, qd2r, qe2r⟩ := (K2.blk (g := w.heap.size + 1) (vs := [.float .f64 0, .float .f64 0]) (by simp)).two
  go_wp2_with fail
  refine (ref5_root_any ha b2 F2.out _).mono ?_
  rintro e3 w3 ⟨dh, th, rfl, hr3, hb3⟩
  have HR := Lib.hid hr3
  have hdh := RZ.out dh th hr3
  have K3 := K2.next hb3
  clear hb3 K2 hr3 RZ
  obtain ⟨qa3x, qb3x, qc3x, qd3x, qe3x⟩ := (K3.blk (g := w.heap.size) (vs := [.float .f64 la, .float .f64 ha]) (by simp)).two
  obtain ⟨qa3r, qb3r, qc3r, qd3r, qe3r⟩ := (K3.blk (g := w.heap.size + 1) (vs := [.float .f64 0, .float .f64 0]) (by simp)).two
  cases th with
  | true =>
    go_wp2_with fail
    refine (ref5_ends_any dl (dh) _ _ (Lib.hid rfl)).mono ?_
    rintro e5 w5 ⟨rfl, hb5⟩
    have K5 := K3.next hb5
    have HQ := Lib.hid (HE.out dh true HR.out)
    obtain ⟨qa5x, qb5x, qc5x, qd5x, qe5x⟩ := (K5.blk (g := w.heap.size) (vs := [.float .f64 la, .float .f64 ha]) (by simp)).two
    obtain ⟨qa5r, qb5r, qc5r, qd5r, qe5r⟩ := (K5.blk (g := w.heap.size + 1) (vs := [.float .f64 0, .float .f64 0]) (by simp)).two
    go_wp2_with fail
    have hbw := below_result (g := w.heap.size + 1) K5.1 (by omega) (.float .f64 (endsR dl (dh)).1) (.float .f64 (endsR dl (dh)).2.1)
    exact bodyPost_ret (v := .tuple #[.agg #[.float .f64 (endsR dl (dh)).1, .float .f64 (endsR dl (dh)).2.1], .int .i64 (endsR dl (dh)).2.2]) (by simp [results, Tryz.results5, go_sem, qa5r, qb5r]) rfl ⟨endsR dl (dh), HQ.out, rfl, hbw⟩
  | false =>
    have e1 : IntKind.u64.wrap ((dh : Int) + 1) = (dh : Int) + 1 := IntWalk.u64_in _ (by omega)
    go_wp2_with fail
    refine (ref5_ends_any dl (dh + 1) _ _ (Lib.hid rfl)).mono ?_
    rintro e5 w5 ⟨rfl, hb5⟩
    have K5 := K3.next hb5
    have HQ := Lib.hid (HE.out dh false HR.out)
    obtain ⟨qa5x, qb5x, qc5x, qd5x, qe5x⟩ := (K5.blk (g := w.heap.size) (vs := [.float .f64 la, .float .f64 ha]) (by simp)).two
    obtain ⟨qa5r, qb5r, qc5r, qd5r, qe5r⟩ := (K5.blk (g := w.heap.size + 1) (vs := [.float .f64 0, .float .f64 0]) (by simp)).two
    go_wp2_with fail
    have hbw := below_result (g := w.heap.size + 1) K5.1 (by omega) (.float .f64 (endsR dl (dh + 1)).1) (.float .f64 (endsR dl (dh + 1)).2.1)
    exact bodyPost_ret (v := .tuple #[.agg #[.float .f64 (endsR dl (dh + 1)).1, .float .f64 (endsR dl (dh + 1)).2.1], .int .i64 (endsR dl (dh + 1)).2.2]) (by simp [results, Tryz.results5, go_sem, qa5r, qb5r]) rfl ⟨endsR dl (dh + 1), HQ.out, rfl, hbw⟩

set_option maxRecDepth 100000 in
set_option maxHeartbeats 3200000 in
theorem ref5_sqrt_nul (la ha : Nat) (b1 : la < 2 ^ 64) (b2 : ha < 2 ^ 64) (h : okS la ha = true) (h0 : 0 ≤ Flt.sv ha) (hl : ¬ 0 < Flt.sv la) (w : World) : Calls Tryz.prog 5 #[.agg #[.float .f64 la, .float .f64 ha]] w (RetSp w (SqrtR la ha)) := by
  have K0 := ((Mm.nil w).var (g := w.heap.size) rfl [.float .f64 la, .float .f64 ha] 24).var (g := w.heap.size + 1) (by simp) [.float .f64 0, .float .f64 0] 24
  obtain ⟨f1, f2, _⟩ := okS_iff.1 h
  have HA : Hid (okI la ha = 0) := Lib.hid (by unfold okI; rw [h]; rfl)
  have o1 : (Ieee.double.order ha 0 == some .lt) = false := by
    rw [Flt.lt_spec (fun k => Flt.not_fin_nan k f2) nan_zero, sv_zero]
    exact decide_eq_false (by omega)
  have o2 : (Ieee.double.order la 0 == some .gt) = false := by
    rw [Flt.gt_spec (fun k => Flt.not_fin_nan k f1) nan_zero, sv_zero]
    exact decide_eq_false hl
  have F1 := Lib.hid f1
  have F2 := Lib.hid f2
  have RZ : Hid (∀ d t, RootR ha d t → d < 9218868437227405312) := Lib.hid (fun d t hr => by
    have hi := Flt.inf_eq
    rcases rootR_small hr b2 f2 h0 with ⟨_, rfl, _⟩ | ⟨hP, u, h3, _⟩
    · decide
    · have := (root_fin2 h3 hP).1
      omega)
  have HE0 : Hid (∀ dl tl d t, RootR la dl tl → RootR ha d t → SqrtR la ha (endsR (if 0 < Flt.sv la then dl else 0) (if t then d else d + 1))) := Lib.hid (fun dl tl d t h1 h2 => ⟨dl, tl, d, t, h1, h2, rfl⟩)
  have HE : Hid (∀ d t, RootR ha d t → SqrtR la ha (endsR 0 (if t then d else d + 1))) := Lib.hid (fun d t h2 => by
    obtain ⟨dl, tl, h1⟩ := rootR_some hl
    have := HE0.out dl tl d t h1 h2
    rwa [if_neg hl] at this)
  have HP := Lib.hid hl
  clear h f1 f2 h0 hl
  go_enter Tryz.func5, Tryz.ntmps5
  go_wp2_with fail
  generalize (w.alloc (.cells #[.float .f64 la, .float .f64 ha] 24)).alloc (.cells #[.float .f64 0, .float .f64 0] 24) = w0 at K0 ⊢
  obtain ⟨qa0x, qb0x, qc0x, qd0x, qe0x⟩ := (K0.blk (g := w.heap.size) (vs := [.float .f64 la, .float .f64 ha]) (by simp)).two
  obtain ⟨qa0r, qb0r, qc0r, qd0r, qe0r⟩ := (K0.blk (g := w.heap.size + 1) (vs := [.float .f64 0, .float .f64 0]) (by simp)).two
  go_wp2_with fail
  refine (ref_check_any la ha _).mono ?_
  rintro e1 w1 ⟨rfl, hb1⟩
  rw [HA.out]
  have K1 := K0.next hb1
  clear hb1 K0
  obtain ⟨qa1x, qb1x, qc1x, qd1x, qe1x⟩ := (K1.blk (g := w.heap.size) (vs := [.float .f64 la, .float .f64 ha]) (by simp)).two
  obtain ⟨qa1r, qb1r, qc1r, qd1r, qe1r⟩ := (K1.blk (g := w.heap.size + 1) (vs := [.float .f64 0, .float .f64 0]) (by simp)).two
  go_wp2_with fail
  have K2 := K1
  clear K1 HE0 HP
  refine (ref5_root_any ha b2 F2.out _).mono ?_
  rintro e3 w3 ⟨dh, th, rfl, hr3, hb3⟩
  have HR := Lib.hid hr3
  have hdh := RZ.out dh th hr3
  have K3 := K2.next hb3
  clear hb3 K2 hr3 RZ
  obtain ⟨qa3x, qb3x, qc3x, qd3x, qe3x⟩ := (K3.blk (g := w.heap.size) (vs := [.float .f64 la, .float .f64 ha]) (by simp)).two
  obtain ⟨qa3r, qb3r, qc3r, qd3r, qe3r⟩ := (K3.blk (g := w.heap.size + 1) (vs := [.float .f64 0, .float .f64 0]) (by simp)).two
  cases th with
  | true =>
    go_wp2_with fail
    refine (ref5_ends_any 0 (dh) _ _ (Lib.hid rfl)).mono ?_
    rintro e5 w5 ⟨rfl, hb5⟩
    have K5 := K3.next hb5
    have HQ := Lib.hid (HE.out dh true HR.out)
    obtain ⟨qa5x, qb5x, qc5x, qd5x, qe5x⟩ := (K5.blk (g := w.heap.size) (vs := [.float .f64 la, .float .f64 ha]) (by simp)).two
    obtain ⟨qa5r, qb5r, qc5r, qd5r, qe5r⟩ := (K5.blk (g := w.heap.size + 1) (vs := [.float .f64 0, .float .f64 0]) (by simp)).two
    go_wp2_with fail
    have hbw := below_result (g := w.heap.size + 1) K5.1 (by omega) (.float .f64 (endsR 0 (dh)).1) (.float .f64 (endsR 0 (dh)).2.1)
    exact bodyPost_ret (v := .tuple #[.agg #[.float .f64 (endsR 0 (dh)).1, .float .f64 (endsR 0 (dh)).2.1], .int .i64 (endsR 0 (dh)).2.2]) (by simp [results, Tryz.results5, go_sem, qa5r, qb5r]) rfl ⟨endsR 0 (dh), HQ.out, rfl, hbw⟩
  | false =>
    have e1 : IntKind.u64.wrap ((dh : Int) + 1) = (dh : Int) + 1 := IntWalk.u64_in _ (by omega)
    go_wp2_with fail
    refine (ref5_ends_any 0 (dh + 1) _ _ (Lib.hid rfl)).mono ?_
    rintro e5 w5 ⟨rfl, hb5⟩
    have K5 := K3.next hb5
    have HQ := Lib.hid (HE.out dh false HR.out)
    obtain ⟨qa5x, qb5x, qc5x, qd5x, qe5x⟩ := (K5.blk (g := w.heap.size) (vs := [.float .f64 la, .float .f64 ha]) (by simp)).two
    obtain ⟨qa5r, qb5r, qc5r, qd5r, qe5r⟩ := (K5.blk (g := w.heap.size + 1) (vs := [.float .f64 0, .float .f64 0]) (by simp)).two
    go_wp2_with fail
    have hbw := below_result (g := w.heap.size + 1) K5.1 (by omega) (.float .f64 (endsR 0 (dh + 1)).1) (.float .f64 (endsR 0 (dh + 1)).2.1)
    exact bodyPost_ret (v := .tuple #[.agg #[.float .f64 (endsR 0 (dh + 1)).1, .float .f64 (endsR 0 (dh + 1)).2.1], .int .i64 (endsR 0 (dh + 1)).2.2]) (by simp [results, Tryz.results5, go_sem, qa5r, qb5r]) rfl ⟨endsR 0 (dh + 1), HQ.out, rfl, hbw⟩

theorem sqrt_any_ref (la ha : Nat) (b1 : la < 2 ^ 64) (b2 : ha < 2 ^ 64) (h : okS la ha = true) (h0 : 0 ≤ Flt.sv ha) (w : World) : Calls Tryz.prog 5 #[.agg #[.float .f64 la, .float .f64 ha]] w (RetSp w (SqrtR la ha)) := by
  by_cases hl : 0 < Flt.sv la
  · exact ref5_sqrt_pos la ha b1 b2 h h0 hl w
  · exact ref5_sqrt_nul la ha b1 b2 h h0 hl w
end Go.Proofs.YtcjpocepgkfkaaaGreat
