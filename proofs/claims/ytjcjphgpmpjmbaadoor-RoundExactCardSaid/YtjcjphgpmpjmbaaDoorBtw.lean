/-
  Does an exact result lie between two floats? (polestarlaw04.between)
-/
import Derived.Test.YtjcjphgpmpjmbaaDoorWth
import Derived.Test.YtjcjphgpmpjmbaaDoorSpnR
import Derived.Test.YtjcjphgpmpjmbaaDoorSpnP
namespace Go.Proofs.YtjcjphgpmpjmbaaDoor
open Go.RowKit

theorem inf_of_fin {x : Nat} (h : Flt.nanB x = false) {b : Bool} (hb : Flt.finB x = b) : Flt.infB x = !b := by
  rw [← hb]
  unfold Flt.nanB at h
  unfold Flt.infB Flt.finB
  by_cases k : Flt.rg x < Flt.inf
  · rw [decide_eq_true k, decide_eq_false (by omega)]; rfl
  · rw [decide_eq_false k]
    simp at h ⊢
    omega
theorem frs_one {w : World} {g : Nat} {F : Nat → FrE} (h : Frs w g 1 F) : g < w.heap.size ∧ w.cell? ⟨g, 0, none⟩ = some (.bool (F 0).1.1) ∧ w.cell? ⟨g, 1, none⟩ = some (.slice (F 0).1.2.1 (F 0).1.2.2.1 (F 0).1.2.2.2) ∧ w.cell? ⟨g, 2, none⟩ = some (.bool (F 0).2.1.1) ∧ w.cell? ⟨g, 3, none⟩ = some (.slice (F 0).2.1.2.1 (F 0).2.1.2.2.1 (F 0).2.1.2.2.2) ∧ FrE.at_ w (F 0) := by
  obtain ⟨⟨h0, h1, h2, h3⟩, h4⟩ := h.2 0 (by decide)
  exact ⟨h.1, h0, h1, h2, h3, h4⟩
theorem one_float (w : World) (x : Nat) (t : TypeId) (hx : x < 2 ^ 64) (i : Nat) (hi : i < 1) : (w.alloc (.cells #[.float .f64 x] t)).cell? ⟨w.heap.size, i, none⟩ = some (.float .f64 ((fun _ => x) i)) ∧ (fun _ => x) i < 2 ^ 64 := by
  obtain rfl : i = 0 := by omega
  exact ⟨by simp [go_sem], hx⟩

set_option maxRecDepth 100000 in
set_option maxHeartbeats 3200000 in
theorem law_between_core (neg : Bool) (A : Option Addr) (n c : Nat) (l : List Nat) (neg' : Bool) (A' : Option Addr) (n' c' : Nat) (l' : List Nat) (r : Rat) (d u : Nat) (L H : Int) (w : World) (hd : d < 2 ^ 64) (hu : u < 2 ^ 64) (hO : OkF w ((neg, A, n, c, l), (neg', A', n', c', l')) r) (hT : Tab w) (nd : Flt.nanB d = false) (nu : Flt.nanB u = false)
    (sd : Flt.infB d = true → Flt.sgn d = true) (su : Flt.infB u = true → Flt.sgn u = false)
    (hL : Flt.Fin d → rcmp (fr d) r = L) (hL' : ¬ Flt.Fin d → L = -1) (hH : Flt.Fin u → rcmp (fr u) r = H) (hH' : ¬ Flt.Fin u → H = 1)
    (hE : (L = 0 ∧ H = 0 ∧ (Ieee.double.order d u == some .eq) = true) ∨ (L = -1 ∧ H = 1 ∧ (Ieee.double.order d u == some .eq) = false)) :
    Calls Tryd.prog 11 #[.agg #[.bool neg, .slice A n c, .bool neg', .slice A' n' c'], .float .f64 d, .float .f64 u] w (RetV w (.bool true)) := by
  have K0 := (Mm.nil w).var (g := w.heap.size) rfl [.bool neg, .slice A n c, .bool neg', .slice A' n' c'] 26
  obtain ⟨bd, hbd⟩ : ∃ b, Flt.finB d = b := ⟨_, rfl⟩
  obtain ⟨bu, hbu⟩ : ∃ b, Flt.finB u = b := ⟨_, rfl⟩
  have hfb := inf_of_fin nd hbd
  have hfu := inf_of_fin nu hbu
  have HO := Lib.hid hO
  have HT := Lib.hid hT
  have HE := Lib.hid hE
  have SD : Hid ((Flt.infB d && !Flt.sgn d) = false) := Lib.hid (by
    cases h : Flt.infB d with
    | true => rw [sd h]; rfl
    | false => rfl)
  have SU : Hid ((Flt.infB u && Flt.sgn u) = false) := Lib.hid (by
    cases h : Flt.infB u with
    | true => rw [su h]; rfl
    | false => rfl)
  have HD1 : Hid (bd = true → Flt.Fin d ∧ rcmp (fr d) r = L) := Lib.hid (fun e => by have := Flt.finB_iff.1 (hbd.trans e); exact ⟨this, hL this⟩)
  have HD2 : Hid (bd = false → L = -1) := Lib.hid (fun e => hL' (Flt.finB_false.1 (hbd.trans e)))
  have HU1 : Hid (bu = true → Flt.Fin u ∧ rcmp (fr u) r = H) := Lib.hid (fun e => by have := Flt.finB_iff.1 (hbu.trans e); exact ⟨this, hH this⟩)
  have HU2 : Hid (bu = false → H = 1) := Lib.hid (fun e => hH' (Flt.finB_false.1 (hbu.trans e)))
  clear hO hT hL hL' hH hH' hE sd su hbd hbu
  go_enter Tryd.func11, Tryd.ntmps11
  go_upto_if 18 with (first | (go_at_call 14; refine (isNaN_any _ _).mono ?_; rintro e w' ⟨rfl, rfl⟩; (first | rw [nd] | rw [nu])) | fail)
  generalize w.alloc (.cells #[.bool neg, .slice A n c, .bool neg', .slice A' n' c'] 26) = w0 at K0 ⊢
  go_upto_if 21 with (first | (go_at_call 34; refine (isInf0_any _ hd _).mono ?_; rintro e w' ⟨rfl, rfl⟩; rw [hfb]) | fail)
  go_cut [7, 9, 10, 21] from 22 to 34 (fun s7 _ _ _ wx => s7 = .int .i64 L ∧ Mm w [(w.heap.size, [.bool neg, .slice A n c, .bool neg', .slice A' n' c'])] [] wx)
  case first =>
    cases bd with
    | false =>
      have hl := HD2.out rfl
      clear HE
      subst hl
      go_wp2_with fail
      go_meet
      exact ⟨rfl, K0⟩
    | true =>
      obtain ⟨hff, hv0⟩ := HD1.out rfl
      have hv := Lib.hid hv0
      clear hv0
      have HT1 := Lib.hid (HT.out.next K0.1)
      have HO1 := Lib.hid (HO.out.next K0.1)
      have hsz0 := K0.1.size
      go_wp2_with fail
      refine (law_worth w0.heap.size 1 1 (fun _ => d) _ (by simp) (by decide) (by decide) (one_float w0 d 27 hd) (HT1.out.box _)).mono ?_
      have hbx : Below w0.heap.size w0 (w0.alloc (.cells #[.float .f64 d] 27)) := (Below.refl _ _).alloc (Nat.le_refl _) _
      rintro e1 w1 (⟨_, g1, c1, F, rfl, hc1, hF, hV, hg1, hb1⟩ | ⟨⟨j, hj, hno⟩, _⟩)
      · have hb2 : Below w0.heap.size w0 w1 := below_box hb1
        have K1 := K0.next hb2
        have HO2 := HO1.out.next hb2
        have hV0 := hV 0 (by decide)
        obtain ⟨hg2, q0, q1, q2, q3, i1, i2⟩ := frs_one hF
        obtain ⟨⟨⟨s1, A1, n1, p1⟩, ⟨s2, A2, n2, p2⟩, y⟩, hy⟩ : ∃ f, F 0 = f := ⟨_, rfl⟩
        rw [hy] at q0 q1 q2 q3 i1 i2 hV0
        simp only at q0 q1 q2 q3 i1 i2 hV0
        rw [hV0] at i1 i2
        obtain ⟨l1, l2, O1⟩ := okF_of i1 i2 ((fr_sz hff).mono (by decide))
        obtain ⟨⟨qa1, qb1, qc1, qd1⟩, _, _⟩ := (K1.blk (g := w.heap.size) (vs := [.bool neg, .slice A n c, .bool neg', .slice A' n' c']) (by simp)).four
        clear hF hV hb1 hb2 hbx i1 i2 hy K0 HO1 HT1 HE
        go_wp2_with fail
        go_region_held3 (fun w' => w'.cell? ⟨g1, 0, none⟩ = some (.bool s1) ∧ w'.cell? ⟨g1, 1, none⟩ = some (.slice A1 n1 p1) ∧ w'.cell? ⟨g1, 2, none⟩ = some (.bool s2) ∧ w'.cell? ⟨g1, 3, none⟩ = some (.slice A2 n2 p2) ∧ w'.cell? ⟨w.heap.size, 0, none⟩ = some (.bool neg) ∧ w'.cell? ⟨w.heap.size, 1, none⟩ = some (.slice A n c) ∧ w'.cell? ⟨w.heap.size, 2, none⟩ = some (.bool neg') ∧ w'.cell? ⟨w.heap.size, 3, none⟩ = some (.slice A' n' c'))
          (go_keep)
          (first
            | (go_at_call 21; (with_reducible refine (frac_cmp_any s1 A1 n1 p1 l1 s2 A2 n2 p2 l2 neg A n c l neg' A' n' c' l' (fr d) r L _ ?_ ?_ hv).mono ?_); (first | (with_reducible exact O1) | (exact O1.next (below_drewN (Below.refl _ _) 1)) | (exact O1.next (below_drewN (Below.refl _ _) _))); (first | (with_reducible exact HO2) | (exact HO2.next (below_drewN (Below.refl _ _) 1)) | (exact HO2.next (below_drewN (Below.refl _ _) _))); rintro e2 w2 ⟨rfl, hb3⟩; (first | (with_reducible have K2 := K1.next hb3) | (with_reducible have K2 := K1.drew.next hb3) | (with_reducible have K2 := (K1.drewN _).next hb3)); have z0 := ((bcell hb3).1 g1 0 hg2).trans q0; have z1 := ((bcell hb3).1 g1 1 hg2).trans q1; have z2 := ((bcell hb3).1 g1 2 hg2).trans q2; have z3 := ((bcell hb3).1 g1 3 hg2).trans q3; obtain ⟨⟨za, zb, zc, zd⟩, _, _⟩ := (K2.blk (g := w.heap.size) (vs := [.bool neg, .slice A n c, .bool neg', .slice A' n' c']) (by simp)).four)
            | fail)
        all_goals (go_wp2_with fail)
        all_goals go_meet
        all_goals exact ⟨rfl, K2⟩
      · exact absurd hff hno
  case rest =>
    obtain ⟨rfl, K0⟩ := hcut
    go_upto_if 37 with (first | (go_at_call 34; refine (isInf0_any _ hu _).mono ?_; rintro e w' ⟨rfl, rfl⟩; rw [hfu]) | fail)
    go_cut [8, 11, 12, 37] from 38 to 50 (fun s7 _ _ _ wx => s7 = .int .i64 H ∧ Mm w [(w.heap.size, [.bool neg, .slice A n c, .bool neg', .slice A' n' c'])] [] wx)
    case first =>
      cases bu with
      | false =>
        have hl := HU2.out rfl
        clear HE
        subst hl
        go_wp2_with fail
        go_meet
        exact ⟨rfl, K0⟩
      | true =>
        obtain ⟨hff, hv0⟩ := HU1.out rfl
        have hv := Lib.hid hv0
        clear hv0
        have HT1 := Lib.hid (HT.out.next K0.1)
        have HO1 := Lib.hid (HO.out.next K0.1)
        have hsz0 := K0.1.size
        go_wp2_with fail
        refine (law_worth wc.heap.size 1 1 (fun _ => u) _ (by simp) (by decide) (by decide) (one_float wc u 27 hu) (HT1.out.box _)).mono ?_
        have hbx : Below wc.heap.size wc (wc.alloc (.cells #[.float .f64 u] 27)) := (Below.refl _ _).alloc (Nat.le_refl _) _
        rintro e1 w1 (⟨_, g1, c1, F, rfl, hc1, hF, hV, hg1, hb1⟩ | ⟨⟨j, hj, hno⟩, _⟩)
        · have hb2 : Below wc.heap.size wc w1 := below_box hb1
          have K1 := K0.next hb2
          have HO2 := HO1.out.next hb2
          have hV0 := hV 0 (by decide)
          obtain ⟨hg2, q0, q1, q2, q3, i1, i2⟩ := frs_one hF
          obtain ⟨⟨⟨s1, A1, n1, p1⟩, ⟨s2, A2, n2, p2⟩, y⟩, hy⟩ : ∃ f, F 0 = f := ⟨_, rfl⟩
          rw [hy] at q0 q1 q2 q3 i1 i2 hV0
          simp only at q0 q1 q2 q3 i1 i2 hV0
          rw [hV0] at i1 i2
          obtain ⟨l1, l2, O1⟩ := okF_of i1 i2 ((fr_sz hff).mono (by decide))
          obtain ⟨⟨qa1, qb1, qc1, qd1⟩, _, _⟩ := (K1.blk (g := w.heap.size) (vs := [.bool neg, .slice A n c, .bool neg', .slice A' n' c']) (by simp)).four
          clear hF hV hb1 hb2 hbx i1 i2 hy K0 HO1 HT1 HE
          go_wp2_with fail
          go_region_held3 (fun w' => w'.cell? ⟨g1, 0, none⟩ = some (.bool s1) ∧ w'.cell? ⟨g1, 1, none⟩ = some (.slice A1 n1 p1) ∧ w'.cell? ⟨g1, 2, none⟩ = some (.bool s2) ∧ w'.cell? ⟨g1, 3, none⟩ = some (.slice A2 n2 p2) ∧ w'.cell? ⟨w.heap.size, 0, none⟩ = some (.bool neg) ∧ w'.cell? ⟨w.heap.size, 1, none⟩ = some (.slice A n c) ∧ w'.cell? ⟨w.heap.size, 2, none⟩ = some (.bool neg') ∧ w'.cell? ⟨w.heap.size, 3, none⟩ = some (.slice A' n' c'))
            (go_keep)
            (first
              | (go_at_call 21; (with_reducible refine (frac_cmp_any s1 A1 n1 p1 l1 s2 A2 n2 p2 l2 neg A n c l neg' A' n' c' l' (fr u) r H _ ?_ ?_ hv).mono ?_); (first | (with_reducible exact O1) | (exact O1.next (below_drewN (Below.refl _ _) 1)) | (exact O1.next (below_drewN (Below.refl _ _) _))); (first | (with_reducible exact HO2) | (exact HO2.next (below_drewN (Below.refl _ _) 1)) | (exact HO2.next (below_drewN (Below.refl _ _) _))); rintro e2 w2 ⟨rfl, hb3⟩; (first | (with_reducible have K2 := K1.next hb3) | (with_reducible have K2 := K1.drew.next hb3) | (with_reducible have K2 := (K1.drewN _).next hb3)); have z0 := ((bcell hb3).1 g1 0 hg2).trans q0; have z1 := ((bcell hb3).1 g1 1 hg2).trans q1; have z2 := ((bcell hb3).1 g1 2 hg2).trans q2; have z3 := ((bcell hb3).1 g1 3 hg2).trans q3; obtain ⟨⟨za, zb, zc, zd⟩, _, _⟩ := (K2.blk (g := w.heap.size) (vs := [.bool neg, .slice A n c, .bool neg', .slice A' n' c']) (by simp)).four)
              | fail)
          all_goals (go_wp2_with fail)
          all_goals go_meet
          all_goals exact ⟨rfl, K2⟩
        · exact absurd hff hno
    case rest =>
      obtain ⟨rfl, K0⟩ := hcut
      rcases HE.out with ⟨rfl, rfl, ho⟩ | ⟨rfl, rfl, ho⟩
      · go_wp2_with (first | (go_at_call 34; (with_reducible refine (isInf1_any d _).mono ?_); rintro e w' ⟨rfl, rfl⟩; rw [SD.out]) | (go_at_call 34; (with_reducible refine (isInf2_any u hu _).mono ?_); rintro e w' ⟨rfl, rfl⟩; rw [SU.out]) | fail)
        go_ret
        exact ⟨rfl, K0.1⟩
      · go_wp2_with (first | (go_at_call 34; (with_reducible refine (isInf1_any d _).mono ?_); rintro e w' ⟨rfl, rfl⟩; rw [SD.out]) | (go_at_call 34; (with_reducible refine (isInf2_any u hu _).mono ?_); rintro e w' ⟨rfl, rfl⟩; rw [SU.out]) | fail)
        go_ret
        exact ⟨rfl, K0.1⟩
end Go.Proofs.YtjcjphgpmpjmbaaDoor
