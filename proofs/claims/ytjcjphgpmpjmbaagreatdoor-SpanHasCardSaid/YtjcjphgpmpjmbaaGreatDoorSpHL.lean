/-
  SpanHas answers true.
-/
import Derived.Test.YtjcjphgpmpjmbaaGreatDoorSpHW
import Derived.Test.YtjcjphgpmpjmbaaGreatDoorSfO
namespace Go.Proofs.YtjcjphgpmpjmbaaGreatDoor
open Go.RowKit

/-- The quotient, or the refusal where the divisor is nought. -/
def RetQa (W : World) (x y : Rat) (e : Ending) (w' : World) : Prop :=
  ∃ (neg : Bool) (A : Option Addr) (n c : Nat) (neg' : Bool) (A' : Option Addr) (n' c' : Nat) (ec t1 t2 : Int), e = .returned (.tuple #[.agg #[.bool neg, .slice A n c, .bool neg', .slice A' n' c'], .int .i64 ec]) ∧ IsInt w' neg A n c t1 ∧ IsInt w' neg' A' n' c' t2 ∧ (ec = 0 → y ≠ 0 ∧ t1 = (x / y).num ∧ t2 = ((x / y).den : Int)) ∧ Below W.heap.size W w'
theorem frac_quo_all (neg : Bool) (A : Option Addr) (n c : Nat) (l : List Nat) (neg' : Bool) (A' : Option Addr) (n' c' : Nat) (l' : List Nat) (nfg : Bool) (C : Option Addr) (p q : Nat) (k : List Nat) (nfg' : Bool) (C' : Option Addr) (p' q' : Nat) (k' : List Nat) (x y : Rat) (w : World) (hx : OkF w ((neg, A, n, c, l), (neg', A', n', c', l')) x) (hy : OkF w ((nfg, C, p, q, k), (nfg', C', p', q', k')) y) (hs : y ≠ 0 → Sz (x / y) 2048) :
    Calls Tryz.prog 24 #[.agg #[.bool neg, .slice A n c, .bool neg', .slice A' n' c'], .agg #[.bool nfg, .slice C p q, .bool nfg', .slice C' p' q']] w (RetQa w x y) := by
  by_cases h0 : y = 0
  · subst h0
    refine (frac_quo_nought neg A n c l neg' A' n' c' l' nfg C p q k nfg' C' p' q' k' x w hx hy).mono ?_
    rintro e w' ⟨rfl, hb⟩
    exact ⟨false, none, 0, 0, false, none, 0, 0, 3, 0, 0, rfl, isInt_nought, isInt_nought, fun c => absurd c (by decide), hb⟩
  · refine (frac_quo_any neg A n c l neg' A' n' c' l' nfg C p q k nfg' C' p' q' k' x y (x / y) w (Lib.hid h0) hx hy (hs h0) (Lib.hid rfl)).mono ?_
    rintro e w' ⟨s1, A1, n1, c1, l1, s2, A2, n2, c2, l2, rfl, hO, hb⟩
    obtain ⟨i1, i2, _⟩ := hO.ints
    exact ⟨s1, A1, n1, c1, s2, A2, n2, c2, 0, _, _, rfl, i1, i2, fun _ => ⟨h0, rfl, rfl⟩, hb⟩
theorem have_quo (p : Nat × Nat × Int) (neg : Bool) (A : Option Addr) (n c : Nat) (neg' : Bool) (A' : Option Addr) (n' c' : Nat) (ec t1 t2 : Int) (x y : Rat) (w : World) (i1 : IsInt w neg A n c t1) (i2 : IsInt w neg' A' n' c' t2) (hT : Tab w) (hg : Good p (x / y)) (hec : ec = 0 → y ≠ 0 ∧ t1 = (x / y).num ∧ t2 = ((x / y).den : Int)) (hs : y ≠ 0 → Sz (x / y) 2048) :
    Calls Tryz.prog 20 #[.agg #[.float .f64 p.1, .float .f64 p.2.1], .int .i64 p.2.2, .agg #[.bool neg, .slice A n c, .bool neg', .slice A' n' c'], .int .i64 ec] w (RetV w (.bool true)) := by
  by_cases h0 : ec = 0
  · obtain ⟨hy, e1, e2⟩ := hec h0
    rw [e1] at i1
    rw [e2] at i2
    obtain ⟨l, l', hO⟩ := okF_of i1 i2 (hs hy)
    rw [h0]
    exact have_good p neg A n c l neg' A' n' c' l' (x / y) w hO hT hg
  · exact have_no p.1 p.2.1 p.2.2 ec neg A n c neg' A' n' c' w (fun k => h0 k.2)
set_option maxRecDepth 100000 in
set_option maxHeartbeats 25600000 in
theorem law_spanHas (la ha lb hb' : Nat) (u v : Int) (w : World) (a1 : la < 2 ^ 64) (a2 : ha < 2 ^ 64) (a3 : lb < 2 ^ 64) (a4 : hb' < 2 ^ 64) (hu : -9223372036854775808 ≤ u ∧ u ≤ 9223372036854775807) (hv : -9223372036854775808 ≤ v ∧ v ≤ 9223372036854775807) (hT : Tab w) :
    Calls Tryz.prog 4 #[.agg #[.float .f64 la, .float .f64 ha], .agg #[.float .f64 lb, .float .f64 hb'], .int .i64 u, .int .i64 v] w (RetV w (.bool true)) := by
  have K := ((Mm.nil w).var (g := w.heap.size) rfl [.float .f64 la, .float .f64 ha] 24).var (g := w.heap.size + 1) (by simp) [.float .f64 lb, .float .f64 hb'] 24
  obtain ⟨z, hz⟩ : ∃ z, IntKind.i64.wrap (v - u) = z := ⟨_, rfl⟩
  have hzb : -9223372036854775808 ≤ z ∧ z ≤ 9223372036854775807 := by rw [← hz, IntKind.wrap_i64]; omega
  have HT := Lib.hid hT
  clear hT
  go_enter Tryz.func4, Tryz.ntmps4
  go_upto_region 1 with (fail)
  generalize (w.alloc (.cells #[.float .f64 la, .float .f64 ha] 24)).alloc (.cells #[.float .f64 lb, .float .f64 hb'] 24) = w0 at K ⊢
  obtain ⟨pa, pb, pc, pd, _⟩ := (K.blk (g := w.heap.size) (vs := [.float .f64 la, .float .f64 ha]) (by simp)).two
  go_wp2_with fail
  refine (law_within la ha u v _ a1 a2 hu hv (HT.out.next K.1)).mono ?_
  rintro e1 v1 h1
  obtain ⟨s9, A9, n9, p9, l9, z9, B9, m9, d9, k9, ok1, rfl, HW1, hb⟩ : ∃ (s9 : Bool) (A9 : Option Addr) (n9 p9 : Nat) (l9 : List Nat) (z9 : Bool) (B9 : Option Addr) (m9 d9 : Nat) (k9 : List Nat) (ok1 : Bool), e1 = .returned (.tuple #[.agg #[.bool s9, .slice A9 n9 p9, .bool z9, .slice B9 m9 d9], .bool ok1]) ∧ Hid (ok1 = true → OkF v1 ((s9, A9, n9, p9, l9), (z9, B9, m9, d9, k9)) (part la ha u v) ∧ okS la ha = true ∧ 1 ≤ v ∧ 0 ≤ u ∧ u ≤ v) ∧ Below w0.heap.size w0 v1 := by
    rcases h1 with ⟨q1, q2, q3, q4, s9, A9, n9, p9, l9, z9, B9, m9, d9, k9, rfl, hO, hb⟩ | ⟨rfl, hb⟩
    · exact ⟨s9, A9, n9, p9, l9, z9, B9, m9, d9, k9, true, rfl, Lib.hid (fun _ => ⟨hO, q1, q2, q3, q4⟩), hb⟩
    · exact ⟨false, none, 0, 0, [], false, none, 0, 0, [], false, rfl, Lib.hid (fun c => by cases c), hb⟩
  clear h1 pa pb pc pd
  have HWO : Hid (ok1 = true → OkF (v1.alloc (.cells #[.bool s9, .slice A9 n9 p9, .bool z9, .slice B9 m9 d9] 29)) ((s9, A9, n9, p9, l9), (z9, B9, m9, d9, k9)) (part la ha u v) ∧ okS la ha = true ∧ 1 ≤ v ∧ 0 ≤ u ∧ u ≤ v) := Lib.hid (fun c => ⟨(HW1.out c).1.next ((Below.refl _ _).alloc (Nat.le_refl _) _), (HW1.out c).2⟩)
  clear HW1
  have hltg9 : w.heap.size + 1 < v1.heap.size := ((K.next hb).blk (g := w.heap.size + 1) (vs := [.float .f64 lb, .float .f64 hb']) (by simp)).1
  replace K := (K.next hb).var (g := v1.heap.size) rfl [.bool s9, .slice A9 n9 p9, .bool z9, .slice B9 m9 d9] 29
  clear hb
  go_upto_region 2 with (fail)
  generalize v1.heap.size = g9 at K hltg9 ⊢
  generalize v1.alloc (.cells #[.bool s9, .slice A9 n9 p9, .bool z9, .slice B9 m9 d9] 29) = wg9 at K HWO ⊢
  obtain ⟨pa, pb, pc, pd, _⟩ := (K.blk (g := w.heap.size + 1) (vs := [.float .f64 lb, .float .f64 hb']) (by simp)).two
  go_wp2_with fail
  refine (law_within lb hb' z v _ a3 a4 hzb hv (HT.out.next K.1)).mono ?_
  rintro e2 v2 h2
  obtain ⟨s11, A11, n11, p11, l11, z11, B11, m11, d11, k11, ok2, rfl, HW2, hb⟩ : ∃ (s11 : Bool) (A11 : Option Addr) (n11 p11 : Nat) (l11 : List Nat) (z11 : Bool) (B11 : Option Addr) (m11 d11 : Nat) (k11 : List Nat) (ok2 : Bool), e2 = .returned (.tuple #[.agg #[.bool s11, .slice A11 n11 p11, .bool z11, .slice B11 m11 d11], .bool ok2]) ∧ Hid (ok2 = true → OkF v2 ((s11, A11, n11, p11, l11), (z11, B11, m11, d11, k11)) (part lb hb' z v) ∧ okS lb hb' = true ∧ 1 ≤ v ∧ 0 ≤ z ∧ z ≤ v) ∧ Below wg9.heap.size wg9 v2 := by
    rcases h2 with ⟨q1, q2, q3, q4, s11, A11, n11, p11, l11, z11, B11, m11, d11, k11, rfl, hO, hb⟩ | ⟨rfl, hb⟩
    · exact ⟨s11, A11, n11, p11, l11, z11, B11, m11, d11, k11, true, rfl, Lib.hid (fun _ => ⟨hO, q1, q2, q3, q4⟩), hb⟩
    · exact ⟨false, none, 0, 0, [], false, none, 0, 0, [], false, rfl, Lib.hid (fun c => by cases c), hb⟩
  have HWP : Hid (ok2 = true → OkF (v2.alloc (.cells #[.bool s11, .slice A11 n11 p11, .bool z11, .slice B11 m11 d11] 29)) ((s11, A11, n11, p11, l11), (z11, B11, m11, d11, k11)) (part lb hb' z v) ∧ okS lb hb' = true ∧ 1 ≤ v ∧ 0 ≤ z ∧ z ≤ v) := Lib.hid (fun c => ⟨(HW2.out c).1.next ((Below.refl _ _).alloc (Nat.le_refl _) _), (HW2.out c).2⟩)
  have HWX : Hid (ok1 = true → OkF (v2.alloc (.cells #[.bool s11, .slice A11 n11 p11, .bool z11, .slice B11 m11 d11] 29)) ((s9, A9, n9, p9, l9), (z9, B9, m9, d9, k9)) (part la ha u v) ∧ okS la ha = true ∧ 1 ≤ v ∧ 0 ≤ u ∧ u ≤ v) := Lib.hid (fun c => ⟨(HWO.out c).1.next (below_next hb ((Below.refl _ _).alloc (Nat.le_refl _) _)), (HWO.out c).2⟩)
  clear h2 pa pb pc pd HW2 HWO
  have hltg11 : g9 < v2.heap.size := ((K.next hb).blk (g := g9) (vs := [.bool s9, .slice A9 n9 p9, .bool z9, .slice B9 m9 d9]) (by simp)).1
  replace K := (K.next hb).var (g := v2.heap.size) rfl [.bool s11, .slice A11 n11 p11, .bool z11, .slice B11 m11 d11] 29
  clear hb
  go_upto_region 3 with (fail)
  generalize v2.heap.size = g11 at K hltg11 ⊢
  generalize v2.alloc (.cells #[.bool s11, .slice A11 n11 p11, .bool z11, .slice B11 m11 d11] 29) = wg11 at K HWX HWP ⊢
  cases ok1 with
  | false =>
    go_wp2_with fail
    refine (lives05 _).mono ?_
    rintro e3 v3 ⟨rfl, hb⟩
    go_wp2_with fail
    go_ret
    exact ⟨rfl, (K.next hb).1⟩
  | true =>
    cases ok2 with
    | false =>
      go_wp2_with fail
      refine (lives05 _).mono ?_
      rintro e3 v3 ⟨rfl, hb⟩
      go_wp2_with fail
      go_ret
      exact ⟨rfl, (K.next hb).1⟩
    | true =>
      obtain ⟨O9, qs1, qv, qu1, qu2⟩ := HWX.out rfl
      obtain ⟨O11, qs2, _, qz1, qz2⟩ := HWP.out rfl
      obtain ⟨fa1, fa2, fal⟩ := okS_iff.1 qs1
      obtain ⟨fb1, fb2, fbl⟩ := okS_iff.1 qs2
      have hIx := part_inn fal qv qu1 qu2
      have hIy := part_inn fbl qv qz1 qz2
      have s205 : ∀ {l' h' : Nat} {t : Int}, Flt.Fin l' → Flt.Fin h' → t.natAbs < 2 ^ (32 * 2) → Sz (part l' h' t v) 205 := fun f g k => by
        have s1 := (fr_sz g).sub (fr_sz f)
        have s2 := s1.mul (Sz.divInt (m := 2) (show v ≠ 0 by omega) k (by omega))
        exact (((fr_sz f).add s2)).mono (by decide)
      have hSx := s205 (t := u) fa1 fa2 (by omega)
      have hSy := s205 (t := z) fb1 fb2 (by omega)
      generalize part la ha u v = x at O9 hIx hSx
      generalize part lb hb' z v = y at O11 hIy hSy
      obtain ⟨i1, i2, _⟩ := O9.ints
      obtain ⟨j1, j2, _⟩ := O11.ints
      replace K := (((K.int j2).int j1).int i2).int i1
      have HIX := Lib.hid hIx
      have HIY := Lib.hid hIy
      have HX := Lib.hid (hSx.mono (show 205 ≤ 2048 by decide))
      have HY := Lib.hid (hSy.mono (show 205 ≤ 2048 by decide))
      have HS1 : Hid (Sz (x + y) 2048) := Lib.hid ((hSx.add hSy).mono (by decide))
      have HS2 : Hid (Sz (x - y) 2048) := Lib.hid ((hSx.sub hSy).mono (by decide))
      have HS3 : Hid (Sz (x * y) 2048) := Lib.hid ((hSx.mul hSy).mono (by decide))
      have HS4 : Hid (y ≠ 0 → Sz (x / y) 2048) := Lib.hid (fun h => (hSx.div hSy h).mono (by decide))
      have HS5 : Hid (Sz (x * x) 2048) := Lib.hid ((hSx.mul hSx).mono (by decide))
      have HFA : Hid (Flt.Fin la ∧ Flt.Fin ha ∧ Flt.sv la ≤ Flt.sv ha) := Lib.hid ⟨fa1, fa2, fal⟩
      have HFB : Hid (Flt.Fin lb ∧ Flt.Fin hb' ∧ Flt.sv lb ≤ Flt.sv hb') := Lib.hid ⟨fb1, fb2, fbl⟩
      clear O9 O11 i1 i2 j1 j2 hIx hIy hSx hSy s205 fa1 fa2 fal fb1 fb2 fbl HWX HWP qs1 qs2 qu1 qu2 qz1 qz2
      go_upto_region 5 with (fail)
      obtain ⟨pa, pb, pc, pd, _⟩ := (K.blk (g := w.heap.size) (vs := [.float .f64 la, .float .f64 ha]) (by simp)).two
      obtain ⟨qa, qb, qc, qd, _⟩ := (K.blk (g := w.heap.size + 1) (vs := [.float .f64 lb, .float .f64 hb']) (by simp)).two
      go_wp2_with fail
      refine (span_add_any la ha lb hb' a1 a2 a3 a4 _).mono ?_
      rintro e13 v13 ⟨⟨a13, b13, c13⟩, hp, rfl, hb⟩
      have HG13 : Hid (Good (a13, b13, c13) (x + y)) := Lib.hid (good_add hp HIX.out HIY.out)
      clear hp pa pb pc pd qa qb qc qd
      have hltg13 : g11 < v13.heap.size := ((K.next hb).blk (g := g11) (vs := [.bool s11, .slice A11 n11 p11, .bool z11, .slice B11 m11 d11]) (by simp)).1
      replace K := (K.next hb).var (g := v13.heap.size) rfl [.float .f64 a13, .float .f64 b13] 24
      clear hb
      go_upto_region 6 with (fail)
      generalize v13.heap.size = g13 at K hltg13 ⊢
      generalize v13.alloc (.cells #[.float .f64 a13, .float .f64 b13] 24) = wg13 at K ⊢
      obtain ⟨l9, k9, O9⟩ := okF_of (K.at_ (neg := s9) (A := A9) (n := n9) (c := p9) (z := (x).num) (by simp)) (K.at_ (neg := z9) (A := B9) (n := m9) (c := d9) (z := (((x).den : Nat) : Int)) (by simp)) HX.out
      obtain ⟨l11, k11, O11⟩ := okF_of (K.at_ (neg := s11) (A := A11) (n := n11) (c := p11) (z := (y).num) (by simp)) (K.at_ (neg := z11) (A := B11) (n := m11) (c := d11) (z := (((y).den : Nat) : Int)) (by simp)) HY.out
      obtain ⟨⟨pa, pb, pc, pd⟩, ⟨pe, pf, pg, ph⟩, _⟩ := (K.blk (g := g9) (vs := [.bool s9, .slice A9 n9 p9, .bool z9, .slice B9 m9 d9]) (by simp)).four
      obtain ⟨⟨qa, qb, qc, qd⟩, ⟨qe, qf, qg, qh⟩, _⟩ := (K.blk (g := g11) (vs := [.bool s11, .slice A11 n11 p11, .bool z11, .slice B11 m11 d11]) (by simp)).four
      go_wp2_with fail
      refine (frac_add_any s9 A9 n9 p9 l9 z9 B9 m9 d9 k9 s11 A11 n11 p11 l11 z11 B11 m11 d11 k11 x y (x + y) _ O9 O11 HS1.out (Lib.hid rfl)).mono ?_
      rintro e15 v15 ⟨s15, A15, n15, p15, l15, z15, B15, m15, d15, k15, rfl, O15, hb⟩
      obtain ⟨i1, i2, _⟩ := O15.ints
      clear pa pb pc pd pe pf pg ph qa qb qc qd qe qf qg qh O9 O11 O15
      have hltg15 : g13 < v15.heap.size := ((K.next hb).blk (g := g13) (vs := [.float .f64 a13, .float .f64 b13]) (by simp)).1
      replace K := (((K.next hb).int i2).int i1).var (g := v15.heap.size) rfl [.bool s15, .slice A15 n15 p15, .bool z15, .slice B15 m15 d15] 29
      clear hb
      go_upto_region 7 with (fail)
      generalize v15.heap.size = g15 at K hltg15 ⊢
      generalize v15.alloc (.cells #[.bool s15, .slice A15 n15 p15, .bool z15, .slice B15 m15 d15] 29) = wg15 at K ⊢
      clear i1 i2
      obtain ⟨pa, pb, pc, pd, _⟩ := (K.blk (g := w.heap.size) (vs := [.float .f64 la, .float .f64 ha]) (by simp)).two
      obtain ⟨qa, qb, qc, qd, _⟩ := (K.blk (g := w.heap.size + 1) (vs := [.float .f64 lb, .float .f64 hb']) (by simp)).two
      go_wp2_with fail
      refine (span_sub_any la ha lb hb' a1 a2 a3 a4 _).mono ?_
      rintro e17 v17 ⟨⟨a17, b17, c17⟩, hp, rfl, hb⟩
      have HG17 : Hid (Good (a17, b17, c17) (x - y)) := Lib.hid (good_sub hp HIX.out HIY.out)
      clear hp pa pb pc pd qa qb qc qd
      have hltg17 : g15 < v17.heap.size := ((K.next hb).blk (g := g15) (vs := [.bool s15, .slice A15 n15 p15, .bool z15, .slice B15 m15 d15]) (by simp)).1
      replace K := (K.next hb).var (g := v17.heap.size) rfl [.float .f64 a17, .float .f64 b17] 24
      clear hb
      go_upto_region 8 with (fail)
      generalize v17.heap.size = g17 at K hltg17 ⊢
      generalize v17.alloc (.cells #[.float .f64 a17, .float .f64 b17] 24) = wg17 at K ⊢
      obtain ⟨l9, k9, O9⟩ := okF_of (K.at_ (neg := s9) (A := A9) (n := n9) (c := p9) (z := (x).num) (by simp)) (K.at_ (neg := z9) (A := B9) (n := m9) (c := d9) (z := (((x).den : Nat) : Int)) (by simp)) HX.out
      obtain ⟨l11, k11, O11⟩ := okF_of (K.at_ (neg := s11) (A := A11) (n := n11) (c := p11) (z := (y).num) (by simp)) (K.at_ (neg := z11) (A := B11) (n := m11) (c := d11) (z := (((y).den : Nat) : Int)) (by simp)) HY.out
      obtain ⟨⟨pa, pb, pc, pd⟩, ⟨pe, pf, pg, ph⟩, _⟩ := (K.blk (g := g9) (vs := [.bool s9, .slice A9 n9 p9, .bool z9, .slice B9 m9 d9]) (by simp)).four
      obtain ⟨⟨qa, qb, qc, qd⟩, ⟨qe, qf, qg, qh⟩, _⟩ := (K.blk (g := g11) (vs := [.bool s11, .slice A11 n11 p11, .bool z11, .slice B11 m11 d11]) (by simp)).four
      go_wp2_with fail
      refine (frac_sub_any s9 A9 n9 p9 l9 z9 B9 m9 d9 k9 s11 A11 n11 p11 l11 z11 B11 m11 d11 k11 x y (x - y) _ O9 O11 HS2.out (Lib.hid rfl)).mono ?_
      rintro e19 v19 ⟨s19, A19, n19, p19, l19, z19, B19, m19, d19, k19, rfl, O19, hb⟩
      obtain ⟨i1, i2, _⟩ := O19.ints
      clear pa pb pc pd pe pf pg ph qa qb qc qd qe qf qg qh O9 O11 O19
      have hltg19 : g17 < v19.heap.size := ((K.next hb).blk (g := g17) (vs := [.float .f64 a17, .float .f64 b17]) (by simp)).1
      replace K := (((K.next hb).int i2).int i1).var (g := v19.heap.size) rfl [.bool s19, .slice A19 n19 p19, .bool z19, .slice B19 m19 d19] 29
      clear hb
      go_upto_region 9 with (fail)
      generalize v19.heap.size = g19 at K hltg19 ⊢
      generalize v19.alloc (.cells #[.bool s19, .slice A19 n19 p19, .bool z19, .slice B19 m19 d19] 29) = wg19 at K ⊢
      clear i1 i2
      obtain ⟨l15, k15, O15⟩ := okF_of (K.at_ (neg := s15) (A := A15) (n := n15) (c := p15) (z := (x + y).num) (by simp)) (K.at_ (neg := z15) (A := B15) (n := m15) (c := d15) (z := (((x + y).den : Nat) : Int)) (by simp)) HS1.out
      obtain ⟨pa, pb, pc, pd, _⟩ := (K.blk (g := g13) (vs := [.float .f64 a13, .float .f64 b13]) (by simp)).two
      obtain ⟨⟨qa, qb, qc, qd⟩, ⟨qe, qf, qg, qh⟩, _⟩ := (K.blk (g := g15) (vs := [.bool s15, .slice A15 n15 p15, .bool z15, .slice B15 m15 d15]) (by simp)).four
      have hTx := Lib.hid (HT.out.next K.1)
      go_wp2_with fail
      refine (have_good (a13, b13, c13) s15 A15 n15 p15 l15 z15 B15 m15 d15 k15 (x + y) _ O15 hTx.out HG13.out).mono ?_
      rintro e20 v20 ⟨rfl, hb⟩
      replace K := K.next hb
      clear hb hTx pa pb pc pd qa qb qc qd qe qf qg qh O15
      obtain ⟨l19, k19, O19⟩ := okF_of (K.at_ (neg := s19) (A := A19) (n := n19) (c := p19) (z := (x - y).num) (by simp)) (K.at_ (neg := z19) (A := B19) (n := m19) (c := d19) (z := (((x - y).den : Nat) : Int)) (by simp)) HS2.out
      obtain ⟨pa, pb, pc, pd, _⟩ := (K.blk (g := g17) (vs := [.float .f64 a17, .float .f64 b17]) (by simp)).two
      obtain ⟨⟨qa, qb, qc, qd⟩, ⟨qe, qf, qg, qh⟩, _⟩ := (K.blk (g := g19) (vs := [.bool s19, .slice A19 n19 p19, .bool z19, .slice B19 m19 d19]) (by simp)).four
      have hTx := Lib.hid (HT.out.next K.1)
      go_wp2_with fail
      refine (have_good (a17, b17, c17) s19 A19 n19 p19 l19 z19 B19 m19 d19 k19 (x - y) _ O19 hTx.out HG17.out).mono ?_
      rintro e21 v21 ⟨rfl, hb⟩
      replace K := K.next hb
      clear hb hTx pa pb pc pd qa qb qc qd qe qf qg qh O19
      go_upto_region 11 with (fail)
      obtain ⟨pa, pb, pc, pd, _⟩ := (K.blk (g := w.heap.size) (vs := [.float .f64 la, .float .f64 ha]) (by simp)).two
      obtain ⟨qa, qb, qc, qd, _⟩ := (K.blk (g := w.heap.size + 1) (vs := [.float .f64 lb, .float .f64 hb']) (by simp)).two
      obtain ⟨ra, rb, rc, rd, _⟩ := (K.blk (g := g13) (vs := [.float .f64 a13, .float .f64 b13]) (by simp)).two
      go_wp2_with fail
      refine (span_mul_any la ha lb hb' a1 a2 a3 a4 _).mono ?_
      rintro e22 v22 ⟨⟨a22, b22, c22⟩, hp, rfl, hb⟩
      have HG22 : Hid (Good (a22, b22, c22) (x * y)) := Lib.hid (good_mul hp HIX.out HIY.out)
      clear hp pa pb pc pd qa qb qc qd ra rb rc rd
      obtain ⟨ra, rb, rc, rd, _⟩ := ((K.next hb).blk (g := g13) (vs := [.float .f64 a13, .float .f64 b13]) (by simp)).two
      replace K := (((K.next hb).pick (L' := [(g13, [.float .f64 a13, .float .f64 b13]), (w.heap.size, [.float .f64 la, .float .f64 ha]), (w.heap.size + 1, [.float .f64 lb, .float .f64 hb']), (g9, [.bool s9, .slice A9 n9 p9, .bool z9, .slice B9 m9 d9]), (g11, [.bool s11, .slice A11 n11 p11, .bool z11, .slice B11 m11 d11]), (g15, [.bool s15, .slice A15 n15 p15, .bool z15, .slice B15 m15 d15]), (g17, [.float .f64 a17, .float .f64 b17]), (g19, [.bool s19, .slice A19 n19 p19, .bool z19, .slice B19 m19 d19])]) (l' := [(s9, A9, n9, p9, (x).num), (z9, B9, m9, d9, (((x).den : Nat) : Int)), (s11, A11, n11, p11, (y).num), (z11, B11, m11, d11, (((y).den : Nat) : Int)), (s19, A19, n19, p19, (x - y).num), (z19, B19, m19, d19, (((x - y).den : Nat) : Int))]) (by simp) (by simp)).set (by simp <;> omega) (j := 0) (.float .f64 _) (.float .f64 a22) rfl (by simp)).set (by simp <;> omega) (j := 1) (.float .f64 _) (.float .f64 b22) rfl (by simp)
      clear hb
      go_upto_region 12 with (fail)
      generalize (v22.setCell ⟨g13, 0, none⟩ (.float .f64 a22)).setCell ⟨g13, 1, none⟩ (.float .f64 b22) = v22s at K ⊢
      simp only [List.set_cons_zero, List.set_cons_succ] at K
      clear ra rb rc rd
      obtain ⟨l9, k9, O9⟩ := okF_of (K.at_ (neg := s9) (A := A9) (n := n9) (c := p9) (z := (x).num) (by simp)) (K.at_ (neg := z9) (A := B9) (n := m9) (c := d9) (z := (((x).den : Nat) : Int)) (by simp)) HX.out
      obtain ⟨l11, k11, O11⟩ := okF_of (K.at_ (neg := s11) (A := A11) (n := n11) (c := p11) (z := (y).num) (by simp)) (K.at_ (neg := z11) (A := B11) (n := m11) (c := d11) (z := (((y).den : Nat) : Int)) (by simp)) HY.out
      obtain ⟨⟨pa, pb, pc, pd⟩, ⟨pe, pf, pg, ph⟩, _⟩ := (K.blk (g := g9) (vs := [.bool s9, .slice A9 n9 p9, .bool z9, .slice B9 m9 d9]) (by simp)).four
      obtain ⟨⟨qa, qb, qc, qd⟩, ⟨qe, qf, qg, qh⟩, _⟩ := (K.blk (g := g11) (vs := [.bool s11, .slice A11 n11 p11, .bool z11, .slice B11 m11 d11]) (by simp)).four
      obtain ⟨⟨ra, rb, rc, rd⟩, ⟨re, rf, rg, rh⟩, _⟩ := (K.blk (g := g15) (vs := [.bool s15, .slice A15 n15 p15, .bool z15, .slice B15 m15 d15]) (by simp)).four
      go_wp2_with fail
      refine (frac_mul_any s9 A9 n9 p9 l9 z9 B9 m9 d9 k9 s11 A11 n11 p11 l11 z11 B11 m11 d11 k11 x y (x * y) _ O9 O11 HS3.out (Lib.hid rfl)).mono ?_
      rintro e23 v23 ⟨s23, A23, n23, p23, l23, z23, B23, m23, d23, k23, rfl, O23, hb⟩
      obtain ⟨i1, i2, _⟩ := O23.ints
      clear pa pb pc pd pe pf pg ph qa qb qc qd qe qf qg qh ra rb rc rd re rf rg rh O9 O11 O23
      obtain ⟨⟨ra, rb, rc, rd⟩, ⟨re, rf, rg, rh⟩, _⟩ := ((K.next hb).blk (g := g15) (vs := [.bool s15, .slice A15 n15 p15, .bool z15, .slice B15 m15 d15]) (by simp)).four
      replace K := ((((K.next hb).int i2).int i1).pick (L' := [(g15, [.bool s15, .slice A15 n15 p15, .bool z15, .slice B15 m15 d15]), (g13, [.float .f64 a22, .float .f64 b22]), (w.heap.size, [.float .f64 la, .float .f64 ha]), (w.heap.size + 1, [.float .f64 lb, .float .f64 hb']), (g9, [.bool s9, .slice A9 n9 p9, .bool z9, .slice B9 m9 d9]), (g11, [.bool s11, .slice A11 n11 p11, .bool z11, .slice B11 m11 d11]), (g17, [.float .f64 a17, .float .f64 b17]), (g19, [.bool s19, .slice A19 n19 p19, .bool z19, .slice B19 m19 d19])]) (l' := [(s9, A9, n9, p9, (x).num), (z9, B9, m9, d9, (((x).den : Nat) : Int)), (s11, A11, n11, p11, (y).num), (z11, B11, m11, d11, (((y).den : Nat) : Int)), (s19, A19, n19, p19, (x - y).num), (z19, B19, m19, d19, (((x - y).den : Nat) : Int)), (s23, A23, n23, p23, (x * y).num), (z23, B23, m23, d23, (((x * y).den : Nat) : Int))]) (by simp) (by simp)).set4 (by simp <;> omega) s23 A23 n23 p23 z23 B23 m23 d23
      clear hb
      go_upto_region 13 with (fail)
      generalize (((v23.setCell ⟨g15, 0, none⟩ (.bool s23)).setCell ⟨g15, 1, none⟩ (.slice A23 n23 p23)).setCell ⟨g15, 2, none⟩ (.bool z23)).setCell ⟨g15, 3, none⟩ (.slice B23 m23 d23) = v23s at K ⊢
      clear ra rb rc rd re rf rg rh i1 i2
      obtain ⟨pa, pb, pc, pd, _⟩ := (K.blk (g := w.heap.size) (vs := [.float .f64 la, .float .f64 ha]) (by simp)).two
      obtain ⟨qa, qb, qc, qd, _⟩ := (K.blk (g := w.heap.size + 1) (vs := [.float .f64 lb, .float .f64 hb']) (by simp)).two
      obtain ⟨ra, rb, rc, rd, _⟩ := (K.blk (g := g17) (vs := [.float .f64 a17, .float .f64 b17]) (by simp)).two
      go_wp2_with fail
      refine (span_quo_any la ha lb hb' a1 a2 a3 a4 _).mono ?_
      rintro e24 v24 ⟨⟨a24, b24, c24⟩, hp, rfl, hb⟩
      have HG24 : Hid (Good (a24, b24, c24) (x / y)) := Lib.hid (good_quo (fun _ => HFB.out) hp HIX.out HIY.out)
      clear hp pa pb pc pd qa qb qc qd ra rb rc rd
      obtain ⟨ra, rb, rc, rd, _⟩ := ((K.next hb).blk (g := g17) (vs := [.float .f64 a17, .float .f64 b17]) (by simp)).two
      replace K := (((K.next hb).pick (L' := [(g17, [.float .f64 a17, .float .f64 b17]), (g15, [.bool s23, .slice A23 n23 p23, .bool z23, .slice B23 m23 d23]), (g13, [.float .f64 a22, .float .f64 b22]), (w.heap.size, [.float .f64 la, .float .f64 ha]), (w.heap.size + 1, [.float .f64 lb, .float .f64 hb']), (g9, [.bool s9, .slice A9 n9 p9, .bool z9, .slice B9 m9 d9]), (g11, [.bool s11, .slice A11 n11 p11, .bool z11, .slice B11 m11 d11]), (g19, [.bool s19, .slice A19 n19 p19, .bool z19, .slice B19 m19 d19])]) (l' := [(s9, A9, n9, p9, (x).num), (z9, B9, m9, d9, (((x).den : Nat) : Int)), (s11, A11, n11, p11, (y).num), (z11, B11, m11, d11, (((y).den : Nat) : Int)), (s19, A19, n19, p19, (x - y).num), (z19, B19, m19, d19, (((x - y).den : Nat) : Int)), (s23, A23, n23, p23, (x * y).num), (z23, B23, m23, d23, (((x * y).den : Nat) : Int))]) (by simp) (by simp)).set (by simp <;> omega) (j := 0) (.float .f64 _) (.float .f64 a24) rfl (by simp)).set (by simp <;> omega) (j := 1) (.float .f64 _) (.float .f64 b24) rfl (by simp)
      clear hb
      go_upto_region 14 with (fail)
      generalize (v24.setCell ⟨g17, 0, none⟩ (.float .f64 a24)).setCell ⟨g17, 1, none⟩ (.float .f64 b24) = v24s at K ⊢
      simp only [List.set_cons_zero, List.set_cons_succ] at K
      clear ra rb rc rd
      obtain ⟨l9, k9, O9⟩ := okF_of (K.at_ (neg := s9) (A := A9) (n := n9) (c := p9) (z := (x).num) (by simp)) (K.at_ (neg := z9) (A := B9) (n := m9) (c := d9) (z := (((x).den : Nat) : Int)) (by simp)) HX.out
      obtain ⟨l11, k11, O11⟩ := okF_of (K.at_ (neg := s11) (A := A11) (n := n11) (c := p11) (z := (y).num) (by simp)) (K.at_ (neg := z11) (A := B11) (n := m11) (c := d11) (z := (((y).den : Nat) : Int)) (by simp)) HY.out
      obtain ⟨⟨pa, pb, pc, pd⟩, ⟨pe, pf, pg, ph⟩, _⟩ := (K.blk (g := g9) (vs := [.bool s9, .slice A9 n9 p9, .bool z9, .slice B9 m9 d9]) (by simp)).four
      obtain ⟨⟨qa, qb, qc, qd⟩, ⟨qe, qf, qg, qh⟩, _⟩ := (K.blk (g := g11) (vs := [.bool s11, .slice A11 n11 p11, .bool z11, .slice B11 m11 d11]) (by simp)).four
      obtain ⟨⟨ra, rb, rc, rd⟩, ⟨re, rf, rg, rh⟩, _⟩ := (K.blk (g := g19) (vs := [.bool s19, .slice A19 n19 p19, .bool z19, .slice B19 m19 d19]) (by simp)).four
      go_wp2_with fail
      refine (frac_quo_all s9 A9 n9 p9 l9 z9 B9 m9 d9 k9 s11 A11 n11 p11 l11 z11 B11 m11 d11 k11 x y _ O9 O11 HS4.out).mono ?_
      rintro e25 v25 ⟨s25, A25, n25, p25, z25, B25, m25, d25, ec, t1, t2, rfl, i1, i2, hec, hb⟩
      have HEC := Lib.hid hec
      clear pa pb pc pd pe pf pg ph qa qb qc qd qe qf qg qh ra rb rc rd re rf rg rh O9 O11 hec
      obtain ⟨⟨ra, rb, rc, rd⟩, ⟨re, rf, rg, rh⟩, _⟩ := ((K.next hb).blk (g := g19) (vs := [.bool s19, .slice A19 n19 p19, .bool z19, .slice B19 m19 d19]) (by simp)).four
      replace K := ((((K.next hb).int i2).int i1).pick (L' := [(g19, [.bool s19, .slice A19 n19 p19, .bool z19, .slice B19 m19 d19]), (g17, [.float .f64 a24, .float .f64 b24]), (g15, [.bool s23, .slice A23 n23 p23, .bool z23, .slice B23 m23 d23]), (g13, [.float .f64 a22, .float .f64 b22]), (w.heap.size, [.float .f64 la, .float .f64 ha]), (w.heap.size + 1, [.float .f64 lb, .float .f64 hb']), (g9, [.bool s9, .slice A9 n9 p9, .bool z9, .slice B9 m9 d9]), (g11, [.bool s11, .slice A11 n11 p11, .bool z11, .slice B11 m11 d11])]) (l' := [(s9, A9, n9, p9, (x).num), (z9, B9, m9, d9, (((x).den : Nat) : Int)), (s11, A11, n11, p11, (y).num), (z11, B11, m11, d11, (((y).den : Nat) : Int)), (s23, A23, n23, p23, (x * y).num), (z23, B23, m23, d23, (((x * y).den : Nat) : Int)), (s25, A25, n25, p25, t1), (z25, B25, m25, d25, t2)]) (by simp) (by simp)).set4 (by simp <;> omega) s25 A25 n25 p25 z25 B25 m25 d25
      clear hb
      go_upto_region 15 with (fail)
      generalize (((v25.setCell ⟨g19, 0, none⟩ (.bool s25)).setCell ⟨g19, 1, none⟩ (.slice A25 n25 p25)).setCell ⟨g19, 2, none⟩ (.bool z25)).setCell ⟨g19, 3, none⟩ (.slice B25 m25 d25) = v25s at K ⊢
      clear ra rb rc rd re rf rg rh i1 i2
      obtain ⟨l23, k23, O23⟩ := okF_of (K.at_ (neg := s23) (A := A23) (n := n23) (c := p23) (z := (x * y).num) (by simp)) (K.at_ (neg := z23) (A := B23) (n := m23) (c := d23) (z := (((x * y).den : Nat) : Int)) (by simp)) HS3.out
      obtain ⟨pa, pb, pc, pd, _⟩ := (K.blk (g := g13) (vs := [.float .f64 a22, .float .f64 b22]) (by simp)).two
      obtain ⟨⟨qa, qb, qc, qd⟩, ⟨qe, qf, qg, qh⟩, _⟩ := (K.blk (g := g15) (vs := [.bool s23, .slice A23 n23 p23, .bool z23, .slice B23 m23 d23]) (by simp)).four
      have hTx := Lib.hid (HT.out.next K.1)
      go_wp2_with fail
      refine (have_good (a22, b22, c22) s23 A23 n23 p23 l23 z23 B23 m23 d23 k23 (x * y) _ O23 hTx.out HG22.out).mono ?_
      rintro e26 v26 ⟨rfl, hb⟩
      replace K := K.next hb
      clear hb hTx pa pb pc pd qa qb qc qd qe qf qg qh O23
      obtain ⟨pa, pb, pc, pd, _⟩ := (K.blk (g := g17) (vs := [.float .f64 a24, .float .f64 b24]) (by simp)).two
      obtain ⟨⟨qa, qb, qc, qd⟩, ⟨qe, qf, qg, qh⟩, _⟩ := (K.blk (g := g19) (vs := [.bool s25, .slice A25 n25 p25, .bool z25, .slice B25 m25 d25]) (by simp)).four
      have hTx := Lib.hid (HT.out.next K.1)
      go_wp2_with fail
      refine (have_quo (a24, b24, c24) s25 A25 n25 p25 z25 B25 m25 d25 ec t1 t2 x y _ (K.at_ (by simp)) (K.at_ (by simp)) hTx.out HG24.out HEC.out HS4.out).mono ?_
      rintro e27 v27 ⟨rfl, hb⟩
      replace K := K.next hb
      clear hb hTx pa pb pc pd qa qb qc qd qe qf qg qh
      go_upto_region 17 with (fail)
      obtain ⟨pa, pb, pc, pd, _⟩ := (K.blk (g := w.heap.size) (vs := [.float .f64 la, .float .f64 ha]) (by simp)).two
      obtain ⟨ra, rb, rc, rd, _⟩ := (K.blk (g := g13) (vs := [.float .f64 a22, .float .f64 b22]) (by simp)).two
      go_wp2_with fail
      refine (span_square_any la ha a1 a2 _).mono ?_
      rintro e28 v28 ⟨⟨a28, b28, c28⟩, hp, rfl, hb⟩
      have HG28 : Hid (Good (a28, b28, c28) (x * x)) := Lib.hid (good_sqr (fun _ => HFA.out) hp HIX.out)
      clear hp pa pb pc pd ra rb rc rd
      obtain ⟨ra, rb, rc, rd, _⟩ := ((K.next hb).blk (g := g13) (vs := [.float .f64 a22, .float .f64 b22]) (by simp)).two
      replace K := (((K.next hb).pick (L' := [(g13, [.float .f64 a22, .float .f64 b22]), (g19, [.bool s25, .slice A25 n25 p25, .bool z25, .slice B25 m25 d25]), (g17, [.float .f64 a24, .float .f64 b24]), (g15, [.bool s23, .slice A23 n23 p23, .bool z23, .slice B23 m23 d23]), (w.heap.size, [.float .f64 la, .float .f64 ha]), (w.heap.size + 1, [.float .f64 lb, .float .f64 hb']), (g9, [.bool s9, .slice A9 n9 p9, .bool z9, .slice B9 m9 d9]), (g11, [.bool s11, .slice A11 n11 p11, .bool z11, .slice B11 m11 d11])]) (l' := [(s9, A9, n9, p9, (x).num), (z9, B9, m9, d9, (((x).den : Nat) : Int)), (s11, A11, n11, p11, (y).num), (z11, B11, m11, d11, (((y).den : Nat) : Int))]) (by simp) (by simp)).set (by simp <;> omega) (j := 0) (.float .f64 _) (.float .f64 a28) rfl (by simp)).set (by simp <;> omega) (j := 1) (.float .f64 _) (.float .f64 b28) rfl (by simp)
      clear hb
      go_upto_region 18 with (fail)
      generalize (v28.setCell ⟨g13, 0, none⟩ (.float .f64 a28)).setCell ⟨g13, 1, none⟩ (.float .f64 b28) = v28s at K ⊢
      simp only [List.set_cons_zero, List.set_cons_succ] at K
      clear ra rb rc rd
      obtain ⟨l9, k9, O9⟩ := okF_of (K.at_ (neg := s9) (A := A9) (n := n9) (c := p9) (z := (x).num) (by simp)) (K.at_ (neg := z9) (A := B9) (n := m9) (c := d9) (z := (((x).den : Nat) : Int)) (by simp)) HX.out
      obtain ⟨⟨pa, pb, pc, pd⟩, ⟨pe, pf, pg, ph⟩, _⟩ := (K.blk (g := g9) (vs := [.bool s9, .slice A9 n9 p9, .bool z9, .slice B9 m9 d9]) (by simp)).four
      obtain ⟨⟨ra, rb, rc, rd⟩, ⟨re, rf, rg, rh⟩, _⟩ := (K.blk (g := g15) (vs := [.bool s23, .slice A23 n23 p23, .bool z23, .slice B23 m23 d23]) (by simp)).four
      go_wp2_with fail
      refine (frac_mul_any s9 A9 n9 p9 l9 z9 B9 m9 d9 k9 s9 A9 n9 p9 l9 z9 B9 m9 d9 k9 x x (x * x) _ O9 O9 HS5.out (Lib.hid rfl)).mono ?_
      rintro e29 v29 ⟨s29, A29, n29, p29, l29, z29, B29, m29, d29, k29, rfl, O29, hb⟩
      obtain ⟨i1, i2, _⟩ := O29.ints
      clear pa pb pc pd pe pf pg ph ra rb rc rd re rf rg rh O9 O29
      obtain ⟨⟨ra, rb, rc, rd⟩, ⟨re, rf, rg, rh⟩, _⟩ := ((K.next hb).blk (g := g15) (vs := [.bool s23, .slice A23 n23 p23, .bool z23, .slice B23 m23 d23]) (by simp)).four
      replace K := ((((K.next hb).int i2).int i1).pick (L' := [(g15, [.bool s23, .slice A23 n23 p23, .bool z23, .slice B23 m23 d23]), (g13, [.float .f64 a28, .float .f64 b28]), (g19, [.bool s25, .slice A25 n25 p25, .bool z25, .slice B25 m25 d25]), (g17, [.float .f64 a24, .float .f64 b24]), (w.heap.size, [.float .f64 la, .float .f64 ha]), (w.heap.size + 1, [.float .f64 lb, .float .f64 hb']), (g9, [.bool s9, .slice A9 n9 p9, .bool z9, .slice B9 m9 d9]), (g11, [.bool s11, .slice A11 n11 p11, .bool z11, .slice B11 m11 d11])]) (l' := [(s9, A9, n9, p9, (x).num), (z9, B9, m9, d9, (((x).den : Nat) : Int)), (s11, A11, n11, p11, (y).num), (z11, B11, m11, d11, (((y).den : Nat) : Int)), (s29, A29, n29, p29, (x * x).num), (z29, B29, m29, d29, (((x * x).den : Nat) : Int))]) (by simp) (by simp)).set4 (by simp <;> omega) s29 A29 n29 p29 z29 B29 m29 d29
      clear hb
      go_upto_region 19 with (fail)
      generalize (((v29.setCell ⟨g15, 0, none⟩ (.bool s29)).setCell ⟨g15, 1, none⟩ (.slice A29 n29 p29)).setCell ⟨g15, 2, none⟩ (.bool z29)).setCell ⟨g15, 3, none⟩ (.slice B29 m29 d29) = v29s at K ⊢
      clear ra rb rc rd re rf rg rh i1 i2
      obtain ⟨l9, k9, O9⟩ := okF_of (K.at_ (neg := s9) (A := A9) (n := n9) (c := p9) (z := (x).num) (by simp)) (K.at_ (neg := z9) (A := B9) (n := m9) (c := d9) (z := (((x).den : Nat) : Int)) (by simp)) HX.out
      obtain ⟨⟨pa, pb, pc, pd⟩, ⟨pe, pf, pg, ph⟩, _⟩ := (K.blk (g := g9) (vs := [.bool s9, .slice A9 n9 p9, .bool z9, .slice B9 m9 d9]) (by simp)).four
      obtain ⟨ra, rb, rc, rd, _⟩ := (K.blk (g := g17) (vs := [.float .f64 a24, .float .f64 b24]) (by simp)).two
      go_wp2_with fail
      refine (span_of_any s9 A9 n9 p9 l9 z9 B9 m9 d9 k9 _ O9.1).mono ?_
      rintro e30 v30 ⟨⟨a30, b30, c30⟩, hp, rfl, hb⟩
      have HG30 : Hid (Good (a30, b30, c30) x) := Lib.hid (by have := good_of hp; rw [O9.2.2] at this; exact this)
      clear hp pa pb pc pd pe pf pg ph ra rb rc rd O9
      obtain ⟨ra, rb, rc, rd, _⟩ := ((K.next hb).blk (g := g17) (vs := [.float .f64 a24, .float .f64 b24]) (by simp)).two
      replace K := (((K.next hb).pick (L' := [(g17, [.float .f64 a24, .float .f64 b24]), (g15, [.bool s29, .slice A29 n29 p29, .bool z29, .slice B29 m29 d29]), (g13, [.float .f64 a28, .float .f64 b28]), (g19, [.bool s25, .slice A25 n25 p25, .bool z25, .slice B25 m25 d25]), (w.heap.size, [.float .f64 la, .float .f64 ha]), (w.heap.size + 1, [.float .f64 lb, .float .f64 hb']), (g9, [.bool s9, .slice A9 n9 p9, .bool z9, .slice B9 m9 d9]), (g11, [.bool s11, .slice A11 n11 p11, .bool z11, .slice B11 m11 d11])]) (l' := [(s9, A9, n9, p9, (x).num), (z9, B9, m9, d9, (((x).den : Nat) : Int)), (s11, A11, n11, p11, (y).num), (z11, B11, m11, d11, (((y).den : Nat) : Int)), (s29, A29, n29, p29, (x * x).num), (z29, B29, m29, d29, (((x * x).den : Nat) : Int))]) (by simp) (by simp)).set (by simp <;> omega) (j := 0) (.float .f64 _) (.float .f64 a30) rfl (by simp)).set (by simp <;> omega) (j := 1) (.float .f64 _) (.float .f64 b30) rfl (by simp)
      clear hb
      go_upto_region 20 with (fail)
      generalize (v30.setCell ⟨g17, 0, none⟩ (.float .f64 a30)).setCell ⟨g17, 1, none⟩ (.float .f64 b30) = v30s at K ⊢
      simp only [List.set_cons_zero, List.set_cons_succ] at K
      clear ra rb rc rd
      obtain ⟨l29, k29, O29⟩ := okF_of (K.at_ (neg := s29) (A := A29) (n := n29) (c := p29) (z := (x * x).num) (by simp)) (K.at_ (neg := z29) (A := B29) (n := m29) (c := d29) (z := (((x * x).den : Nat) : Int)) (by simp)) HS5.out
      obtain ⟨pa, pb, pc, pd, _⟩ := (K.blk (g := g13) (vs := [.float .f64 a28, .float .f64 b28]) (by simp)).two
      obtain ⟨⟨qa, qb, qc, qd⟩, ⟨qe, qf, qg, qh⟩, _⟩ := (K.blk (g := g15) (vs := [.bool s29, .slice A29 n29 p29, .bool z29, .slice B29 m29 d29]) (by simp)).four
      have hTx := Lib.hid (HT.out.next K.1)
      go_wp2_with fail
      refine (have_good (a28, b28, c28) s29 A29 n29 p29 l29 z29 B29 m29 d29 k29 (x * x) _ O29 hTx.out HG28.out).mono ?_
      rintro e31 v31 ⟨rfl, hb⟩
      replace K := K.next hb
      clear hb hTx pa pb pc pd qa qb qc qd qe qf qg qh O29
      obtain ⟨l9, k9, O9⟩ := okF_of (K.at_ (neg := s9) (A := A9) (n := n9) (c := p9) (z := (x).num) (by simp)) (K.at_ (neg := z9) (A := B9) (n := m9) (c := d9) (z := (((x).den : Nat) : Int)) (by simp)) HX.out
      obtain ⟨pa, pb, pc, pd, _⟩ := (K.blk (g := g17) (vs := [.float .f64 a30, .float .f64 b30]) (by simp)).two
      obtain ⟨⟨qa, qb, qc, qd⟩, ⟨qe, qf, qg, qh⟩, _⟩ := (K.blk (g := g9) (vs := [.bool s9, .slice A9 n9 p9, .bool z9, .slice B9 m9 d9]) (by simp)).four
      have hTx := Lib.hid (HT.out.next K.1)
      go_wp2_with fail
      refine (have_good (a30, b30, c30) s9 A9 n9 p9 l9 z9 B9 m9 d9 k9 (x) _ O9 hTx.out HG30.out).mono ?_
      rintro e32 v32 ⟨rfl, hb⟩
      replace K := K.next hb
      clear hb hTx pa pb pc pd qa qb qc qd qe qf qg qh O9
      go_wp2_with fail
      refine (lives05 _).mono ?_
      rintro e33 v33 ⟨rfl, hb⟩
      go_wp2_with fail
      go_ret
      exact ⟨rfl, (K.next hb).1⟩
end Go.Proofs.YtjcjphgpmpjmbaaGreatDoor
