/-
  SpanGrows: the walk.
-/
import Derived.Test.YtjcknikgfcjhhaaSpnGq
import Derived.Test.YtjcknikgfcjhhaaSpnLw
namespace Go.Proofs.Ytjcknikgfcjhhaa
open Go.RowKit

theorem Kept.drop2 {w wr : World} {a b : Nat × Nat × Value} {l : List (Nat × Nat × Value)} (h : Kept w (a :: b :: l) wr) : Kept w l wr :=
  ⟨h.1, fun c hc => h.2.1 c (List.mem_cons_of_mem _ (List.mem_cons_of_mem _ hc)), fun c hc => h.2.2 c (List.mem_cons_of_mem _ (List.mem_cons_of_mem _ hc))⟩

theorem rg_lt {a b v : Nat} (h : v = Flt.rg a ∨ v = Flt.rg b) : v < 2 ^ 64 := by
  unfold Flt.rg at h
  rcases h with h | h <;> omega
theorem Kept.store0 {w wr : World} {g : Nat} {u v : Value} {l : List (Nat × Nat × Value)} (h : Kept w ((g, 0, u) :: (g, 1, v) :: l) wr) (hl : ∀ c ∈ l, c.1 < g) (x : Value) (hg : w.heap.size ≤ g) :
    Kept w ((g, 0, x) :: (g, 1, v) :: l) (wr.setCell ⟨g, 0, none⟩ x) := by
  have c0 := h.2.2 (g, 0, u) List.mem_cons_self
  have hz : (wr.setCell ⟨g, 0, none⟩ x).heap.size = wr.heap.size := by simp [World.setCell]
  refine ⟨h.1.setCell (p := ⟨g, 0, none⟩) hg _, fun c hc => ?_, fun c hc => ?_⟩
  · rw [hz]
    rw [List.mem_cons] at hc
    rcases hc with rfl | hc
    · exact h.2.1 (g, 0, u) List.mem_cons_self
    · exact h.2.1 c (List.mem_cons_of_mem _ hc)
  · rw [List.mem_cons] at hc
    rcases hc with rfl | hc
    · have c0 : wr.cell? ⟨g, 0, none⟩ = some u := c0
      simp [go_sem, c0]
    · have e := h.2.2 c (List.mem_cons_of_mem _ hc)
      rw [World.cell?_setCell_other wr ⟨g, 0, none⟩ ⟨c.1, c.2.1, none⟩ x ?_]
      · exact e
      · rw [List.mem_cons] at hc
        rcases hc with rfl | hc
        · intro k; injection k with _ k; exact absurd (show (0 : Nat) = 1 from k) (by decide)
        · have := hl c hc
          intro k; injection k with k _
          omega
set_option maxRecDepth 100000 in
set_option maxHeartbeats 16000000 in
theorem law_spanGrows (la ha lb hb lc hc ld hd : Nat) (b1 : la < 2 ^ 64) (b2 : ha < 2 ^ 64) (b3 : lb < 2 ^ 64) (b4 : hb < 2 ^ 64) (b5 : lc < 2 ^ 64) (b6 : hc < 2 ^ 64) (b7 : ld < 2 ^ 64) (b8 : hd < 2 ^ 64) (w : World) :
    Calls Try.prog 7 #[.agg #[.float .f64 la, .float .f64 ha], .agg #[.float .f64 lb, .float .f64 hb], .agg #[.float .f64 lc, .float .f64 hc], .agg #[.float .f64 ld, .float .f64 hd]] w (RetV w (.bool true)) := by
  obtain ⟨X, hX⟩ : ∃ x, joinF la ha lc hc = x := ⟨_, rfl⟩
  obtain ⟨Y, hY⟩ : ∃ y, joinF lb hb ld hd = y := ⟨_, rfl⟩
  have lX := joinF_lt b1 b2 b5 b6
  have lY := joinF_lt b3 b4 b7 b8
  rw [hX] at lX
  rw [hY] at lY
  have CX : Hid (X.2.2 = 0 ∨ X.2.2 = 1) := Lib.hid (by rw [← hX]; exact join_code)
  have CY : Hid (Y.2.2 = 0 ∨ Y.2.2 = 1) := Lib.hid (by rw [← hY]; exact join_code)
  have HX := Lib.hid hX
  have HY := Lib.hid hY
  clear hX hY
  obtain ⟨x0, x1, xe⟩ := X
  obtain ⟨y0, y1, ye⟩ := Y
  obtain ⟨lx0, lx1⟩ := lX
  obtain ⟨ly0, ly1⟩ := lY
  go_enter Try.func7, Try.ntmps7
  go_wp2_with fail
  refine (span_join_any la ha lc hc b1 b2 b5 b6 _).mono ?_
  rintro e1 w1 ⟨rfl, hb1⟩
  rw [HX.out]
  have K1 := (((((Kept.nil w).two rfl _ _ _).two (g := w.heap.size + 1) (by simp) _ _ _).two (g := w.heap.size + 1 + 1) (by simp) _ _ _).two (g := w.heap.size + 1 + 1 + 1) (by simp) _ _ _).next hb1
  have a1 := (K1).2.1
  have c1 := (K1).2.2
  simp only [List.mem_cons, List.not_mem_nil, or_false, forall_eq_or_imp, forall_eq] at a1 c1
  clear hb1
  go_wp2_with fail
  refine (span_join_any lb hb ld hd b3 b4 b7 b8 _).mono ?_
  rintro e2 w2 ⟨rfl, hb2⟩
  rw [HY.out]
  have K2 := (K1.two rfl _ _ _).next hb2
  have K3 := K2.two rfl (.float .f64 y0) (.float .f64 y1) 24
  clear a1 c1 hb2 K2 K1
  have a3 := (K3).2.1
  have c3 := (K3).2.2
  simp only [List.mem_cons, List.not_mem_nil, or_false, forall_eq_or_imp, forall_eq] at a3 c3
  rcases CX.out with hxe | hxe
  case inr =>
    have hxe : xe = 1 := hxe
    subst hxe
    go_wp2_with fail
    refine (lives05 _).mono ?_
    rintro e4 w4 ⟨rfl, hb4⟩
    have K4 := K3.next hb4
    go_wp2_with fail
    go_ret
    exact ⟨rfl, K4.1⟩
  have hxe : xe = 0 := hxe
  subst hxe
  rcases CY.out with hye | hye
  case inr =>
    have hye : ye = 1 := hye
    subst hye
    go_wp2_with fail
    refine (lives05 _).mono ?_
    rintro e4 w4 ⟨rfl, hb4⟩
    have K4 := K3.next hb4
    go_wp2_with fail
    go_ret
    exact ⟨rfl, K4.1⟩
  have hye : ye = 0 := hye
  subst hye
  have WX := Lib.hid (join_within HX.out)
  have WY := Lib.hid (join_within HY.out)
  clear CX CY
  go_wp2_with fail
  go_loopw [13] (fun i wr => ∃ k : Nat, i = .int .i64 (k : Int) ∧ k ≤ 4 ∧ Kept w [(w2.heap.size, 0, .float .f64 y0), (w2.heap.size, 1, .float .f64 y1), (w1.heap.size, 0, .float .f64 x0), (w1.heap.size, 1, .float .f64 x1), (w.heap.size + 1 + 1 + 1, 0, .float .f64 ld), (w.heap.size + 1 + 1 + 1, 1, .float .f64 hd), (w.heap.size + 1 + 1, 0, .float .f64 lc), (w.heap.size + 1 + 1, 1, .float .f64 hc), (w.heap.size + 1, 0, .float .f64 lb), (w.heap.size + 1, 1, .float .f64 hb), (w.heap.size, 0, .float .f64 la), (w.heap.size, 1, .float .f64 ha)] wr) (fun i _ => 4 - (intOf i).toNat)
  case atStart => exact ⟨0, rfl, by omega, K3⟩
  case round =>
    obtain ⟨k, rfl, hk, K4⟩ := hrel
    clear a3 c3 K3
    have a4 := (K4).2.1
    have c4 := (K4).2.2
    simp only [List.mem_cons, List.not_mem_nil, or_false, forall_eq_or_imp, forall_eq] at a4 c4
    by_cases hk4 : k = 4
    · subst hk4
      go_wp2_with fail
      refine (span_square_any la ha b1 b2 _).mono ?_
      rintro e5 w5 ⟨⟨p0, p1, p2⟩, hp, rfl, hb5⟩
      obtain ⟨lp0, lp1⟩ := sqr_lt hp
      have K5 := K4.next hb5
      have HP := Lib.hid hp
      have SO := Lib.hid (sqr_ok WX.out.1 hp)
      clear a4 c4 hb5 hp
      have a5 := (K5).2.1
      have c5 := (K5).2.2
      simp only [List.mem_cons, List.not_mem_nil, or_false, forall_eq_or_imp, forall_eq] at a5 c5
      go_wp2_with fail
      refine (span_square_any x0 x1 lx0 lx1 _).mono ?_
      rintro e6 w6 ⟨⟨q0, q1, q2⟩, hq, rfl, hb6⟩
      obtain ⟨lq0, lq1⟩ := sqr_lt hq
      have K6 := (K5.two rfl _ _ _).next hb6
      have K7 := K6.two rfl (.float .f64 q0) (.float .f64 q1) 24
      have HG := Lib.hid (sqr_grow WX.out.1 WX.out.2.2.1 WX.out.2.2.2.1 HP.out hq)
      have HA : Hid (Flt.Fin (Flt.rg la) ∧ Flt.Fin (Flt.rg ha) ∧ Flt.rg la < 2 ^ 64 ∧ Flt.rg ha < 2 ^ 64) := Lib.hid ⟨fin_rg (okS_iff.1 WX.out.1).1, fin_rg (okS_iff.1 WX.out.1).2.1, rg_lt (a := la) (b := la) (.inl rfl), rg_lt (a := ha) (b := ha) (.inl rfl)⟩
      obtain ⟨m2, hm2⟩ : ∃ m, leB la 0 = m := ⟨_, rfl⟩
      obtain ⟨m3, hm3⟩ : ∃ m, (Ieee.double.order ha 0 == some .gt || Ieee.double.order ha 0 == some .eq) = m := ⟨_, rfl⟩
      have HZ : Hid (zB la ha = (m2 && m3)) := Lib.hid (by unfold zB; rw [hm2, hm3])
      have o2 : (Ieee.double.order la 0 == some .lt || Ieee.double.order la 0 == some .eq) = m2 := hm2
      clear hm2 a5 c5 hb6 hq K6
      have a7 := (K7).2.1
      have c7 := (K7).2.2
      simp only [List.mem_cons, List.not_mem_nil, or_false, forall_eq_or_imp, forall_eq] at a7 c7
      by_cases h0 : q2 = 0
      · subst h0
        have hp0 : p2 = 0 := (HG.out rfl).1
        subst hp0
        have HI := Lib.hid (HG.out rfl).2
        go_wp2_with fail
        refine (span_in_any p0 p1 q0 q1 lp0 lp1 lq0 lq1 _).mono ?_
        rintro e8 w8 ⟨rfl, hb8⟩
        rw [HI.out]
        have K8 := K7.next hb8
        clear a7 c7 hb8 K7
        have a8 := (K8).2.1
        have c8 := (K8).2.2
        simp only [List.mem_cons, List.not_mem_nil, or_false, forall_eq_or_imp, forall_eq] at a8 c8
        go_wp2_with fail
        refine (span_sqrt_ok p0 p1 lp0 lp1 SO.out.1 SO.out.2 _).mono ?_
        rintro e9 w9 ⟨⟨r0, r1, r2⟩, ⟨rlo, rlu, rhd, rhi, k1, k2, hr⟩, rfl, hb9⟩
        have K9 := K8.next hb9
        have K10 := K9.two rfl (.float .f64 r0) (.float .f64 r1) 24
        have lr := endsF_lt (IsRoot.lt5 k1).1 (IsRoot.lt5 k2).2
        rw [← hr] at lr
        obtain ⟨lr0, lr1⟩ := lr
        have HR := root_in WX.out.1 HP.out rfl k1 k2
        rw [← hr] at HR
        obtain ⟨hr2, hin⟩ := HR
        have hr2 : r2 = 0 := hr2
        subst hr2
        have HIN0 := Lib.hid hin
        clear hin
        clear k1 k2 hr hb9 K9
        have a10 := (K10).2.1
        have c10 := (K10).2.2
        simp only [List.mem_cons, List.not_mem_nil, or_false, forall_eq_or_imp, forall_eq] at a10 c10
        have s0 := K10.2.2 (w.heap.size, 0, .float .f64 la) (by simp)
        have s1 := K10.2.2 (w.heap.size, 1, .float .f64 ha) (by simp)
        have z0 : w.heap.size < w9.heap.size + 1 := by have := K10.2.1 (w.heap.size, 0, .float .f64 la) (by simp); simpa using this
        have n1 : ¬ w.heap.size = w9.heap.size + 1 := by omega
        have n2 : ¬ w9.heap.size + 1 = w.heap.size := by omega
        have zl : Hid (∀ c ∈ ([(w9.heap.size, 0, .float .f64 r0), (w9.heap.size, 1, .float .f64 r1), (w6.heap.size, 0, .float .f64 q0), (w6.heap.size, 1, .float .f64 q1), (w5.heap.size, 0, .float .f64 p0), (w5.heap.size, 1, .float .f64 p1), (w2.heap.size, 0, .float .f64 y0), (w2.heap.size, 1, .float .f64 y1), (w1.heap.size, 0, .float .f64 x0), (w1.heap.size, 1, .float .f64 x1), (w.heap.size + 1 + 1 + 1, 0, .float .f64 ld), (w.heap.size + 1 + 1 + 1, 1, .float .f64 hd), (w.heap.size + 1 + 1, 0, .float .f64 lc), (w.heap.size + 1 + 1, 1, .float .f64 hc), (w.heap.size + 1, 0, .float .f64 lb), (w.heap.size + 1, 1, .float .f64 hb), (w.heap.size, 0, .float .f64 la), (w.heap.size, 1, .float .f64 ha)] : List (Nat × Nat × Value)), c.1 < w9.heap.size + 1) := Lib.hid (fun c hc => by have := K10.2.1 c hc; simpa using this)
        go_upto_region 17 with (fail)
        go_cut [24] from 101 (fun s24 wx => ∃ g, s24 = .pointer (some ⟨g, 0, none⟩) ∧ Kept w ((g, 0, .float .f64 (loF (Flt.rg la) (Flt.rg ha))) :: (g, 1, .float .f64 (upF (Flt.rg la) (Flt.rg ha))) :: [(w9.heap.size, 0, .float .f64 r0), (w9.heap.size, 1, .float .f64 r1), (w6.heap.size, 0, .float .f64 q0), (w6.heap.size, 1, .float .f64 q1), (w5.heap.size, 0, .float .f64 p0), (w5.heap.size, 1, .float .f64 p1), (w2.heap.size, 0, .float .f64 y0), (w2.heap.size, 1, .float .f64 y1), (w1.heap.size, 0, .float .f64 x0), (w1.heap.size, 1, .float .f64 x1), (w.heap.size + 1 + 1 + 1, 0, .float .f64 ld), (w.heap.size + 1 + 1 + 1, 1, .float .f64 hd), (w.heap.size + 1 + 1, 0, .float .f64 lc), (w.heap.size + 1 + 1, 1, .float .f64 hc), (w.heap.size + 1, 0, .float .f64 lb), (w.heap.size + 1, 1, .float .f64 hb), (w.heap.size, 0, .float .f64 la), (w.heap.size, 1, .float .f64 ha)]) wx ∧ Free g wx ∧ Hid (∀ c ∈ ([(w9.heap.size, 0, .float .f64 r0), (w9.heap.size, 1, .float .f64 r1), (w6.heap.size, 0, .float .f64 q0), (w6.heap.size, 1, .float .f64 q1), (w5.heap.size, 0, .float .f64 p0), (w5.heap.size, 1, .float .f64 p1), (w2.heap.size, 0, .float .f64 y0), (w2.heap.size, 1, .float .f64 y1), (w1.heap.size, 0, .float .f64 x0), (w1.heap.size, 1, .float .f64 x1), (w.heap.size + 1 + 1 + 1, 0, .float .f64 ld), (w.heap.size + 1 + 1 + 1, 1, .float .f64 hd), (w.heap.size + 1 + 1, 0, .float .f64 lc), (w.heap.size + 1 + 1, 1, .float .f64 hc), (w.heap.size + 1, 0, .float .f64 lb), (w.heap.size + 1, 1, .float .f64 hb), (w.heap.size, 0, .float .f64 la), (w.heap.size, 1, .float .f64 ha)] : List (Nat × Nat × Value)), c.1 < g))
        case first =>
          go_region_held3 (fun w' => w'.cell? ⟨w.heap.size, 0, none⟩ = some (.float .f64 la) ∧ w'.cell? ⟨w.heap.size, 1, none⟩ = some (.float .f64 ha))
            (first | exact ⟨s0, s1⟩ | go_keep)
            (first
              | (go_at_call 27; (with_reducible refine (abs_any la b1 _).mono ?_); rintro e11 w11 ⟨rfl, rfl⟩)
              | (go_at_call 27; (with_reducible refine (abs_any ha b2 _).mono ?_); rintro e11 w11 ⟨rfl, rfl⟩)
              | (go_at_call 26; (with_reducible refine (min_of (Flt.rg la) (Flt.rg ha) HA.out.1 HA.out.2.1 (Flt.sgn_rg _) _).mono ?_); rintro e11 w11 ⟨rfl, rfl⟩)
              | (go_at_call 28; (with_reducible refine (max_of (Flt.rg la) (Flt.rg ha) HA.out.2.2.1 HA.out.2.2.2 HA.out.1 HA.out.2.1 (Flt.sgn_rg _) (Flt.sgn_rg _) _).mono ?_); rintro e11 w11 ⟨rfl, rfl⟩))
          all_goals (go_wp2_with fail)
          all_goals go_meet
          all_goals first
            | exact ⟨w9.heap.size + 1, rfl, K10.two (size_alloc _ _) _ _ _, Free.new _ (size_alloc _ _) _ _ _, zl⟩
            | exact ⟨w9.heap.size + 1, rfl, (K10.two (size_alloc _ _) _ _ _).drew, Free.new _ (size_alloc _ _) _ _ _, zl⟩
        case rest =>
          obtain ⟨g, rfl, K11, FG, HL⟩ := hcut
          clear a10 c10 s0 s1 z0 n1 n2 zl K10
          have a11 := (K11).2.1
          have c11 := (K11).2.2
          simp only [List.mem_cons, List.not_mem_nil, or_false, forall_eq_or_imp, forall_eq] at a11 c11
          obtain ⟨fg, g0, g1⟩ := FG
          have lm1 : upF (Flt.rg la) (Flt.rg ha) < 2 ^ 64 := rg_lt (upF_or _ _)
          cases m2 <;> cases m3
          case true.true =>
            have hm : mLo la ha = 0 := by unfold mLo; rw [HZ.out]; rfl
            have HIN : Hid (inB 0 (upF (Flt.rg la) (Flt.rg ha)) r0 r1 = true) := Lib.hid (by rw [← hm]; exact HIN0.out)
            have lm0 : (0 : Nat) < 2 ^ 64 := by decide
            go_upto_region 20 with (fail)
            have K12 := K11.store0 HL.out (.float .f64 0) (Nat.le_of_lt (HL.out (w.heap.size, 0, .float .f64 la) (by simp)))
            generalize World.setCell _ ⟨g, 0, none⟩ (.float .f64 0) = wz at K12 ⊢
            clear a11 c11
            have a12 := (K12).2.1
            have c12 := (K12).2.2
            simp only [List.mem_cons, List.not_mem_nil, or_false, forall_eq_or_imp, forall_eq] at a12 c12
            go_wp2_with fail
            refine (span_in_any la ha x0 x1 b1 b2 lx0 lx1 _).mono ?_
            rintro e13 w13 ⟨rfl, hb13⟩
            rw [WX.out.2.2.2.2.2.1]
            have K13 := K12.next hb13
            clear a12 c12 hb13
            have a13 := (K13).2.1
            have c13 := (K13).2.2
            simp only [List.mem_cons, List.not_mem_nil, or_false, forall_eq_or_imp, forall_eq] at a13 c13
            go_wp2_with fail
            refine (span_in_any lc hc x0 x1 b5 b6 lx0 lx1 _).mono ?_
            rintro e14 w14 ⟨rfl, hb14⟩
            rw [WX.out.2.2.2.2.2.2]
            have K14 := K13.next hb14
            clear a13 c13 hb14
            have a14 := (K14).2.1
            have c14 := (K14).2.2
            simp only [List.mem_cons, List.not_mem_nil, or_false, forall_eq_or_imp, forall_eq] at a14 c14
            go_wp2_with fail
            refine (span_in_any 0 (upF (Flt.rg la) (Flt.rg ha)) r0 r1 lm0 lm1 lr0 lr1 _).mono ?_
            rintro e15 w15 ⟨rfl, hb15⟩
            rw [HIN.out]
            have K15 := K14.next hb15
            clear a14 c14 hb15
            go_wp2_with fail
            refine (lives05 _).mono ?_
            rintro e16 w16 ⟨rfl, hb16⟩
            have K16 := K15.next hb16
            go_wp2_with fail
            go_ret
            exact ⟨rfl, K16.1⟩
          all_goals
            have hm : mLo la ha = loF (Flt.rg la) (Flt.rg ha) := by unfold mLo; rw [HZ.out]; rfl
            have HIN : Hid (inB (loF (Flt.rg la) (Flt.rg ha)) (upF (Flt.rg la) (Flt.rg ha)) r0 r1 = true) := Lib.hid (by rw [← hm]; exact HIN0.out)
            have lm0 : loF (Flt.rg la) (Flt.rg ha) < 2 ^ 64 := rg_lt (loF_or _ _)
            clear a11 c11
            have a12 := (K11).2.1
            have c12 := (K11).2.2
            simp only [List.mem_cons, List.not_mem_nil, or_false, forall_eq_or_imp, forall_eq] at a12 c12
            go_wp2_with fail
            refine (span_in_any la ha x0 x1 b1 b2 lx0 lx1 _).mono ?_
            rintro e13 w13 ⟨rfl, hb13⟩
            rw [WX.out.2.2.2.2.2.1]
            have K13 := K11.next hb13
            clear a12 c12 hb13
            have a13 := (K13).2.1
            have c13 := (K13).2.2
            simp only [List.mem_cons, List.not_mem_nil, or_false, forall_eq_or_imp, forall_eq] at a13 c13
            go_wp2_with fail
            refine (span_in_any lc hc x0 x1 b5 b6 lx0 lx1 _).mono ?_
            rintro e14 w14 ⟨rfl, hb14⟩
            rw [WX.out.2.2.2.2.2.2]
            have K14 := K13.next hb14
            clear a13 c13 hb14
            have a14 := (K14).2.1
            have c14 := (K14).2.2
            simp only [List.mem_cons, List.not_mem_nil, or_false, forall_eq_or_imp, forall_eq] at a14 c14
            go_wp2_with fail
            refine (span_in_any (loF (Flt.rg la) (Flt.rg ha)) (upF (Flt.rg la) (Flt.rg ha)) r0 r1 lm0 lm1 lr0 lr1 _).mono ?_
            rintro e15 w15 ⟨rfl, hb15⟩
            rw [HIN.out]
            have K15 := K14.next hb15
            clear a14 c14 hb15
            go_wp2_with fail
            refine (lives05 _).mono ?_
            rintro e16 w16 ⟨rfl, hb16⟩
            have K16 := K15.next hb16
            go_wp2_with fail
            go_ret
            exact ⟨rfl, K16.1⟩
      · by_cases h1 : p2 = 0
        · subst h1
          go_wp2_with fail
          refine (span_sqrt_ok p0 p1 lp0 lp1 SO.out.1 SO.out.2 _).mono ?_
          rintro e9 w9 ⟨⟨r0, r1, r2⟩, ⟨rlo, rlu, rhd, rhi, k1, k2, hr⟩, rfl, hb9⟩
          have K9 := K7.next hb9
          have K10 := K9.two rfl (.float .f64 r0) (.float .f64 r1) 24
          have lr := endsF_lt (IsRoot.lt5 k1).1 (IsRoot.lt5 k2).2
          rw [← hr] at lr
          obtain ⟨lr0, lr1⟩ := lr
          have HR := root_in WX.out.1 HP.out rfl k1 k2
          rw [← hr] at HR
          obtain ⟨hr2, hin⟩ := HR
          have hr2 : r2 = 0 := hr2
          subst hr2
          have HIN0 := Lib.hid hin
          clear hin
          clear k1 k2 hr hb9 K9
          have a10 := (K10).2.1
          have c10 := (K10).2.2
          simp only [List.mem_cons, List.not_mem_nil, or_false, forall_eq_or_imp, forall_eq] at a10 c10
          have s0 := K10.2.2 (w.heap.size, 0, .float .f64 la) (by simp)
          have s1 := K10.2.2 (w.heap.size, 1, .float .f64 ha) (by simp)
          have z0 : w.heap.size < w9.heap.size + 1 := by have := K10.2.1 (w.heap.size, 0, .float .f64 la) (by simp); simpa using this
          have n1 : ¬ w.heap.size = w9.heap.size + 1 := by omega
          have n2 : ¬ w9.heap.size + 1 = w.heap.size := by omega
          have zl : Hid (∀ c ∈ ([(w9.heap.size, 0, .float .f64 r0), (w9.heap.size, 1, .float .f64 r1), (w6.heap.size, 0, .float .f64 q0), (w6.heap.size, 1, .float .f64 q1), (w5.heap.size, 0, .float .f64 p0), (w5.heap.size, 1, .float .f64 p1), (w2.heap.size, 0, .float .f64 y0), (w2.heap.size, 1, .float .f64 y1), (w1.heap.size, 0, .float .f64 x0), (w1.heap.size, 1, .float .f64 x1), (w.heap.size + 1 + 1 + 1, 0, .float .f64 ld), (w.heap.size + 1 + 1 + 1, 1, .float .f64 hd), (w.heap.size + 1 + 1, 0, .float .f64 lc), (w.heap.size + 1 + 1, 1, .float .f64 hc), (w.heap.size + 1, 0, .float .f64 lb), (w.heap.size + 1, 1, .float .f64 hb), (w.heap.size, 0, .float .f64 la), (w.heap.size, 1, .float .f64 ha)] : List (Nat × Nat × Value)), c.1 < w9.heap.size + 1) := Lib.hid (fun c hc => by have := K10.2.1 c hc; simpa using this)
          go_upto_region 17 with (fail)
          go_cut [24] from 101 (fun s24 wx => ∃ g, s24 = .pointer (some ⟨g, 0, none⟩) ∧ Kept w ((g, 0, .float .f64 (loF (Flt.rg la) (Flt.rg ha))) :: (g, 1, .float .f64 (upF (Flt.rg la) (Flt.rg ha))) :: [(w9.heap.size, 0, .float .f64 r0), (w9.heap.size, 1, .float .f64 r1), (w6.heap.size, 0, .float .f64 q0), (w6.heap.size, 1, .float .f64 q1), (w5.heap.size, 0, .float .f64 p0), (w5.heap.size, 1, .float .f64 p1), (w2.heap.size, 0, .float .f64 y0), (w2.heap.size, 1, .float .f64 y1), (w1.heap.size, 0, .float .f64 x0), (w1.heap.size, 1, .float .f64 x1), (w.heap.size + 1 + 1 + 1, 0, .float .f64 ld), (w.heap.size + 1 + 1 + 1, 1, .float .f64 hd), (w.heap.size + 1 + 1, 0, .float .f64 lc), (w.heap.size + 1 + 1, 1, .float .f64 hc), (w.heap.size + 1, 0, .float .f64 lb), (w.heap.size + 1, 1, .float .f64 hb), (w.heap.size, 0, .float .f64 la), (w.heap.size, 1, .float .f64 ha)]) wx ∧ Free g wx ∧ Hid (∀ c ∈ ([(w9.heap.size, 0, .float .f64 r0), (w9.heap.size, 1, .float .f64 r1), (w6.heap.size, 0, .float .f64 q0), (w6.heap.size, 1, .float .f64 q1), (w5.heap.size, 0, .float .f64 p0), (w5.heap.size, 1, .float .f64 p1), (w2.heap.size, 0, .float .f64 y0), (w2.heap.size, 1, .float .f64 y1), (w1.heap.size, 0, .float .f64 x0), (w1.heap.size, 1, .float .f64 x1), (w.heap.size + 1 + 1 + 1, 0, .float .f64 ld), (w.heap.size + 1 + 1 + 1, 1, .float .f64 hd), (w.heap.size + 1 + 1, 0, .float .f64 lc), (w.heap.size + 1 + 1, 1, .float .f64 hc), (w.heap.size + 1, 0, .float .f64 lb), (w.heap.size + 1, 1, .float .f64 hb), (w.heap.size, 0, .float .f64 la), (w.heap.size, 1, .float .f64 ha)] : List (Nat × Nat × Value)), c.1 < g))
          case first =>
            go_region_held3 (fun w' => w'.cell? ⟨w.heap.size, 0, none⟩ = some (.float .f64 la) ∧ w'.cell? ⟨w.heap.size, 1, none⟩ = some (.float .f64 ha))
              (first | exact ⟨s0, s1⟩ | go_keep)
              (first
                | (go_at_call 27; (with_reducible refine (abs_any la b1 _).mono ?_); rintro e11 w11 ⟨rfl, rfl⟩)
                | (go_at_call 27; (with_reducible refine (abs_any ha b2 _).mono ?_); rintro e11 w11 ⟨rfl, rfl⟩)
                | (go_at_call 26; (with_reducible refine (min_of (Flt.rg la) (Flt.rg ha) HA.out.1 HA.out.2.1 (Flt.sgn_rg _) _).mono ?_); rintro e11 w11 ⟨rfl, rfl⟩)
                | (go_at_call 28; (with_reducible refine (max_of (Flt.rg la) (Flt.rg ha) HA.out.2.2.1 HA.out.2.2.2 HA.out.1 HA.out.2.1 (Flt.sgn_rg _) (Flt.sgn_rg _) _).mono ?_); rintro e11 w11 ⟨rfl, rfl⟩))
            all_goals (go_wp2_with fail)
            all_goals go_meet
            all_goals first
              | exact ⟨w9.heap.size + 1, rfl, K10.two (size_alloc _ _) _ _ _, Free.new _ (size_alloc _ _) _ _ _, zl⟩
              | exact ⟨w9.heap.size + 1, rfl, (K10.two (size_alloc _ _) _ _ _).drew, Free.new _ (size_alloc _ _) _ _ _, zl⟩
          case rest =>
            obtain ⟨g, rfl, K11, FG, HL⟩ := hcut
            clear a10 c10 s0 s1 z0 n1 n2 zl K10
            have a11 := (K11).2.1
            have c11 := (K11).2.2
            simp only [List.mem_cons, List.not_mem_nil, or_false, forall_eq_or_imp, forall_eq] at a11 c11
            obtain ⟨fg, g0, g1⟩ := FG
            have lm1 : upF (Flt.rg la) (Flt.rg ha) < 2 ^ 64 := rg_lt (upF_or _ _)
            cases m2 <;> cases m3
            case true.true =>
              have hm : mLo la ha = 0 := by unfold mLo; rw [HZ.out]; rfl
              have HIN : Hid (inB 0 (upF (Flt.rg la) (Flt.rg ha)) r0 r1 = true) := Lib.hid (by rw [← hm]; exact HIN0.out)
              have lm0 : (0 : Nat) < 2 ^ 64 := by decide
              go_upto_region 20 with (fail)
              have K12 := K11.store0 HL.out (.float .f64 0) (Nat.le_of_lt (HL.out (w.heap.size, 0, .float .f64 la) (by simp)))
              generalize World.setCell _ ⟨g, 0, none⟩ (.float .f64 0) = wz at K12 ⊢
              clear a11 c11
              have a12 := (K12).2.1
              have c12 := (K12).2.2
              simp only [List.mem_cons, List.not_mem_nil, or_false, forall_eq_or_imp, forall_eq] at a12 c12
              go_wp2_with fail
              refine (span_in_any la ha x0 x1 b1 b2 lx0 lx1 _).mono ?_
              rintro e13 w13 ⟨rfl, hb13⟩
              rw [WX.out.2.2.2.2.2.1]
              have K13 := K12.next hb13
              clear a12 c12 hb13
              have a13 := (K13).2.1
              have c13 := (K13).2.2
              simp only [List.mem_cons, List.not_mem_nil, or_false, forall_eq_or_imp, forall_eq] at a13 c13
              go_wp2_with fail
              refine (span_in_any lc hc x0 x1 b5 b6 lx0 lx1 _).mono ?_
              rintro e14 w14 ⟨rfl, hb14⟩
              rw [WX.out.2.2.2.2.2.2]
              have K14 := K13.next hb14
              clear a13 c13 hb14
              have a14 := (K14).2.1
              have c14 := (K14).2.2
              simp only [List.mem_cons, List.not_mem_nil, or_false, forall_eq_or_imp, forall_eq] at a14 c14
              go_wp2_with fail
              refine (span_in_any 0 (upF (Flt.rg la) (Flt.rg ha)) r0 r1 lm0 lm1 lr0 lr1 _).mono ?_
              rintro e15 w15 ⟨rfl, hb15⟩
              rw [HIN.out]
              have K15 := K14.next hb15
              clear a14 c14 hb15
              go_wp2_with fail
              refine (lives05 _).mono ?_
              rintro e16 w16 ⟨rfl, hb16⟩
              have K16 := K15.next hb16
              go_wp2_with fail
              go_ret
              exact ⟨rfl, K16.1⟩
            all_goals
              have hm : mLo la ha = loF (Flt.rg la) (Flt.rg ha) := by unfold mLo; rw [HZ.out]; rfl
              have HIN : Hid (inB (loF (Flt.rg la) (Flt.rg ha)) (upF (Flt.rg la) (Flt.rg ha)) r0 r1 = true) := Lib.hid (by rw [← hm]; exact HIN0.out)
              have lm0 : loF (Flt.rg la) (Flt.rg ha) < 2 ^ 64 := rg_lt (loF_or _ _)
              clear a11 c11
              have a12 := (K11).2.1
              have c12 := (K11).2.2
              simp only [List.mem_cons, List.not_mem_nil, or_false, forall_eq_or_imp, forall_eq] at a12 c12
              go_wp2_with fail
              refine (span_in_any la ha x0 x1 b1 b2 lx0 lx1 _).mono ?_
              rintro e13 w13 ⟨rfl, hb13⟩
              rw [WX.out.2.2.2.2.2.1]
              have K13 := K11.next hb13
              clear a12 c12 hb13
              have a13 := (K13).2.1
              have c13 := (K13).2.2
              simp only [List.mem_cons, List.not_mem_nil, or_false, forall_eq_or_imp, forall_eq] at a13 c13
              go_wp2_with fail
              refine (span_in_any lc hc x0 x1 b5 b6 lx0 lx1 _).mono ?_
              rintro e14 w14 ⟨rfl, hb14⟩
              rw [WX.out.2.2.2.2.2.2]
              have K14 := K13.next hb14
              clear a13 c13 hb14
              have a14 := (K14).2.1
              have c14 := (K14).2.2
              simp only [List.mem_cons, List.not_mem_nil, or_false, forall_eq_or_imp, forall_eq] at a14 c14
              go_wp2_with fail
              refine (span_in_any (loF (Flt.rg la) (Flt.rg ha)) (upF (Flt.rg la) (Flt.rg ha)) r0 r1 lm0 lm1 lr0 lr1 _).mono ?_
              rintro e15 w15 ⟨rfl, hb15⟩
              rw [HIN.out]
              have K15 := K14.next hb15
              clear a14 c14 hb15
              go_wp2_with fail
              refine (lives05 _).mono ?_
              rintro e16 w16 ⟨rfl, hb16⟩
              have K16 := K15.next hb16
              go_wp2_with fail
              go_ret
              exact ⟨rfl, K16.1⟩
        · go_wp2_with fail
          refine (span_sqrt_ok p0 p1 lp0 lp1 SO.out.1 SO.out.2 _).mono ?_
          rintro e9 w9 ⟨⟨r0, r1, r2⟩, ⟨rlo, rlu, rhd, rhi, k1, k2, hr⟩, rfl, hb9⟩
          have K9 := K7.next hb9
          have K10 := K9.two rfl (.float .f64 r0) (.float .f64 r1) 24
          have lr := endsF_lt (IsRoot.lt5 k1).1 (IsRoot.lt5 k2).2
          rw [← hr] at lr
          obtain ⟨lr0, lr1⟩ := lr
          clear k1 k2 hr hb9 K9
          have a10 := (K10).2.1
          have c10 := (K10).2.2
          simp only [List.mem_cons, List.not_mem_nil, or_false, forall_eq_or_imp, forall_eq] at a10 c10
          have s0 := K10.2.2 (w.heap.size, 0, .float .f64 la) (by simp)
          have s1 := K10.2.2 (w.heap.size, 1, .float .f64 ha) (by simp)
          have z0 : w.heap.size < w9.heap.size + 1 := by have := K10.2.1 (w.heap.size, 0, .float .f64 la) (by simp); simpa using this
          have n1 : ¬ w.heap.size = w9.heap.size + 1 := by omega
          have n2 : ¬ w9.heap.size + 1 = w.heap.size := by omega
          have zl : Hid (∀ c ∈ ([(w9.heap.size, 0, .float .f64 r0), (w9.heap.size, 1, .float .f64 r1), (w6.heap.size, 0, .float .f64 q0), (w6.heap.size, 1, .float .f64 q1), (w5.heap.size, 0, .float .f64 p0), (w5.heap.size, 1, .float .f64 p1), (w2.heap.size, 0, .float .f64 y0), (w2.heap.size, 1, .float .f64 y1), (w1.heap.size, 0, .float .f64 x0), (w1.heap.size, 1, .float .f64 x1), (w.heap.size + 1 + 1 + 1, 0, .float .f64 ld), (w.heap.size + 1 + 1 + 1, 1, .float .f64 hd), (w.heap.size + 1 + 1, 0, .float .f64 lc), (w.heap.size + 1 + 1, 1, .float .f64 hc), (w.heap.size + 1, 0, .float .f64 lb), (w.heap.size + 1, 1, .float .f64 hb), (w.heap.size, 0, .float .f64 la), (w.heap.size, 1, .float .f64 ha)] : List (Nat × Nat × Value)), c.1 < w9.heap.size + 1) := Lib.hid (fun c hc => by have := K10.2.1 c hc; simpa using this)
          go_upto_region 17 with (fail)
          go_cut [24] from 101 (fun s24 wx => ∃ g, s24 = .pointer (some ⟨g, 0, none⟩) ∧ Kept w ((g, 0, .float .f64 (loF (Flt.rg la) (Flt.rg ha))) :: (g, 1, .float .f64 (upF (Flt.rg la) (Flt.rg ha))) :: [(w9.heap.size, 0, .float .f64 r0), (w9.heap.size, 1, .float .f64 r1), (w6.heap.size, 0, .float .f64 q0), (w6.heap.size, 1, .float .f64 q1), (w5.heap.size, 0, .float .f64 p0), (w5.heap.size, 1, .float .f64 p1), (w2.heap.size, 0, .float .f64 y0), (w2.heap.size, 1, .float .f64 y1), (w1.heap.size, 0, .float .f64 x0), (w1.heap.size, 1, .float .f64 x1), (w.heap.size + 1 + 1 + 1, 0, .float .f64 ld), (w.heap.size + 1 + 1 + 1, 1, .float .f64 hd), (w.heap.size + 1 + 1, 0, .float .f64 lc), (w.heap.size + 1 + 1, 1, .float .f64 hc), (w.heap.size + 1, 0, .float .f64 lb), (w.heap.size + 1, 1, .float .f64 hb), (w.heap.size, 0, .float .f64 la), (w.heap.size, 1, .float .f64 ha)]) wx ∧ Free g wx ∧ Hid (∀ c ∈ ([(w9.heap.size, 0, .float .f64 r0), (w9.heap.size, 1, .float .f64 r1), (w6.heap.size, 0, .float .f64 q0), (w6.heap.size, 1, .float .f64 q1), (w5.heap.size, 0, .float .f64 p0), (w5.heap.size, 1, .float .f64 p1), (w2.heap.size, 0, .float .f64 y0), (w2.heap.size, 1, .float .f64 y1), (w1.heap.size, 0, .float .f64 x0), (w1.heap.size, 1, .float .f64 x1), (w.heap.size + 1 + 1 + 1, 0, .float .f64 ld), (w.heap.size + 1 + 1 + 1, 1, .float .f64 hd), (w.heap.size + 1 + 1, 0, .float .f64 lc), (w.heap.size + 1 + 1, 1, .float .f64 hc), (w.heap.size + 1, 0, .float .f64 lb), (w.heap.size + 1, 1, .float .f64 hb), (w.heap.size, 0, .float .f64 la), (w.heap.size, 1, .float .f64 ha)] : List (Nat × Nat × Value)), c.1 < g))
          case first =>
            go_region_held3 (fun w' => w'.cell? ⟨w.heap.size, 0, none⟩ = some (.float .f64 la) ∧ w'.cell? ⟨w.heap.size, 1, none⟩ = some (.float .f64 ha))
              (first | exact ⟨s0, s1⟩ | go_keep)
              (first
                | (go_at_call 27; (with_reducible refine (abs_any la b1 _).mono ?_); rintro e11 w11 ⟨rfl, rfl⟩)
                | (go_at_call 27; (with_reducible refine (abs_any ha b2 _).mono ?_); rintro e11 w11 ⟨rfl, rfl⟩)
                | (go_at_call 26; (with_reducible refine (min_of (Flt.rg la) (Flt.rg ha) HA.out.1 HA.out.2.1 (Flt.sgn_rg _) _).mono ?_); rintro e11 w11 ⟨rfl, rfl⟩)
                | (go_at_call 28; (with_reducible refine (max_of (Flt.rg la) (Flt.rg ha) HA.out.2.2.1 HA.out.2.2.2 HA.out.1 HA.out.2.1 (Flt.sgn_rg _) (Flt.sgn_rg _) _).mono ?_); rintro e11 w11 ⟨rfl, rfl⟩))
            all_goals (go_wp2_with fail)
            all_goals go_meet
            all_goals first
              | exact ⟨w9.heap.size + 1, rfl, K10.two (size_alloc _ _) _ _ _, Free.new _ (size_alloc _ _) _ _ _, zl⟩
              | exact ⟨w9.heap.size + 1, rfl, (K10.two (size_alloc _ _) _ _ _).drew, Free.new _ (size_alloc _ _) _ _ _, zl⟩
          case rest =>
            obtain ⟨g, rfl, K11, FG, HL⟩ := hcut
            clear a10 c10 s0 s1 z0 n1 n2 zl K10
            have a11 := (K11).2.1
            have c11 := (K11).2.2
            simp only [List.mem_cons, List.not_mem_nil, or_false, forall_eq_or_imp, forall_eq] at a11 c11
            obtain ⟨fg, g0, g1⟩ := FG
            have lm1 : upF (Flt.rg la) (Flt.rg ha) < 2 ^ 64 := rg_lt (upF_or _ _)
            cases m2 <;> cases m3
            case true.true =>
              have hm : mLo la ha = 0 := by unfold mLo; rw [HZ.out]; rfl
              go_upto_region 20 with (fail)
              have K12 := K11.store0 HL.out (.float .f64 0) (Nat.le_of_lt (HL.out (w.heap.size, 0, .float .f64 la) (by simp)))
              generalize World.setCell _ ⟨g, 0, none⟩ (.float .f64 0) = wz at K12 ⊢
              clear a11 c11
              have a12 := (K12).2.1
              have c12 := (K12).2.2
              simp only [List.mem_cons, List.not_mem_nil, or_false, forall_eq_or_imp, forall_eq] at a12 c12
              go_wp2_with fail
              refine (span_in_any la ha x0 x1 b1 b2 lx0 lx1 _).mono ?_
              rintro e13 w13 ⟨rfl, hb13⟩
              rw [WX.out.2.2.2.2.2.1]
              have K13 := K12.next hb13
              clear a12 c12 hb13
              have a13 := (K13).2.1
              have c13 := (K13).2.2
              simp only [List.mem_cons, List.not_mem_nil, or_false, forall_eq_or_imp, forall_eq] at a13 c13
              go_wp2_with fail
              refine (span_in_any lc hc x0 x1 b5 b6 lx0 lx1 _).mono ?_
              rintro e14 w14 ⟨rfl, hb14⟩
              rw [WX.out.2.2.2.2.2.2]
              have K14 := K13.next hb14
              clear a13 c13 hb14
              have a14 := (K14).2.1
              have c14 := (K14).2.2
              simp only [List.mem_cons, List.not_mem_nil, or_false, forall_eq_or_imp, forall_eq] at a14 c14
              go_wp2_with fail
              refine (lives05 _).mono ?_
              rintro e16 w16 ⟨rfl, hb16⟩
              have K16 := K14.next hb16
              go_wp2_with fail
              go_ret
              exact ⟨rfl, K16.1⟩
            all_goals
              have hm : mLo la ha = loF (Flt.rg la) (Flt.rg ha) := by unfold mLo; rw [HZ.out]; rfl
              clear a11 c11
              have a12 := (K11).2.1
              have c12 := (K11).2.2
              simp only [List.mem_cons, List.not_mem_nil, or_false, forall_eq_or_imp, forall_eq] at a12 c12
              go_wp2_with fail
              refine (span_in_any la ha x0 x1 b1 b2 lx0 lx1 _).mono ?_
              rintro e13 w13 ⟨rfl, hb13⟩
              rw [WX.out.2.2.2.2.2.1]
              have K13 := K11.next hb13
              clear a12 c12 hb13
              have a13 := (K13).2.1
              have c13 := (K13).2.2
              simp only [List.mem_cons, List.not_mem_nil, or_false, forall_eq_or_imp, forall_eq] at a13 c13
              go_wp2_with fail
              refine (span_in_any lc hc x0 x1 b5 b6 lx0 lx1 _).mono ?_
              rintro e14 w14 ⟨rfl, hb14⟩
              rw [WX.out.2.2.2.2.2.2]
              have K14 := K13.next hb14
              clear a13 c13 hb14
              have a14 := (K14).2.1
              have c14 := (K14).2.2
              simp only [List.mem_cons, List.not_mem_nil, or_false, forall_eq_or_imp, forall_eq] at a14 c14
              go_wp2_with fail
              refine (lives05 _).mono ?_
              rintro e16 w16 ⟨rfl, hb16⟩
              have K16 := K14.next hb16
              go_wp2_with fail
              go_ret
              exact ⟨rfl, K16.1⟩
    · have hkl : k < 4 := by omega
      clear hk4
      go_wp2_with fail
      refine (do_any k hkl la ha lb hb b1 b2 b3 b4 _).mono ?_
      rintro e5 w5 ⟨⟨p0, p1, p2⟩, hp, rfl, hb5⟩
      obtain ⟨lp0, lp1⟩ := do_lt hp
      have K5 := K4.next hb5
      have HP := Lib.hid hp
      clear a4 c4 hb5 hp
      have a5 := (K5).2.1
      have c5 := (K5).2.2
      simp only [List.mem_cons, List.not_mem_nil, or_false, forall_eq_or_imp, forall_eq] at a5 c5
      go_wp2_with fail
      refine (do_any k hkl x0 x1 y0 y1 lx0 lx1 ly0 ly1 _).mono ?_
      rintro e6 w6 ⟨⟨q0, q1, q2⟩, hq, rfl, hb6⟩
      obtain ⟨lq0, lq1⟩ := do_lt hq
      have K6 := (K5.two rfl _ _ _).next hb6
      have K7 := K6.two rfl (.float .f64 q0) (.float .f64 q1) 24
      have HG := Lib.hid (do_grow WX.out.1 WY.out.1 WX.out.2.2.1 WY.out.2.2.1 WX.out.2.2.2.1 WY.out.2.2.2.1 HP.out hq)
      clear a5 c5 hb6 hq HP K6
      have a7 := (K7).2.1
      have c7 := (K7).2.2
      simp only [List.mem_cons, List.not_mem_nil, or_false, forall_eq_or_imp, forall_eq] at a7 c7
      by_cases h0 : q2 = 0
      · subst h0
        have hp0 : p2 = 0 := (HG.out rfl).1
        subst hp0
        have HI := Lib.hid (HG.out rfl).2
        go_wp2_with fail
        refine (span_in_any p0 p1 q0 q1 lp0 lp1 lq0 lq1 _).mono ?_
        rintro e8 w8 ⟨rfl, hb8⟩
        rw [HI.out]
        have K8 := K7.next hb8
        clear hb8
        go_wp2_with fail
        go_roundw
        case rel => exact ⟨k + 1, by go_num, hkl, K8.drop2.drop2⟩
        case measure => simp [intOf]; omega
      · go_wp2_with fail
        go_roundw
        case rel => exact ⟨k + 1, by go_num, hkl, K7.drop2.drop2⟩
        case measure => simp [intOf]; omega
end Go.Proofs.Ytjcknikgfcjhhaa
