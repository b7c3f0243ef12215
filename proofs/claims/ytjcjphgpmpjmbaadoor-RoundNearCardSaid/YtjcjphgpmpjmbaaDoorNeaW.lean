/-
  Does an exact result lie between two floats? (polestarlaw04.between) Fractions between floats, plainly; what is beside what is beside. RoundNear answers true.
-/
import Derived.Test.YtjcjphgpmpjmbaaDoorWth
import Derived.Test.YtjcjphgpmpjmbaaDoorSpnR
import Derived.Test.YtjcjphgpmpjmbaaDoorBesW
import Derived.Test.YtjcjphgpmpjmbaaDoorTzG
import Derived.Test.YtjcjphgpmpjmbaaDoorExFa
import Derived.Test.YtjcjphgpmpjmbaaDoorBey
namespace Go.Proofs.YtjcjphgpmpjmbaaDoor
open Go.RowKit

theorem inf_of_fin {x : Nat} (h : Flt.nanB x = false) {b : Bool} (hb : Flt.finB x = b) : Flt.infB x = !b := by
  rw [← hb]
  unfold Flt.nanB at h
  unfold Flt.infB Flt.finB
  by_cases k : Flt.rg x < Flt.inf
  · rw [decide_eq_true k, decide_eq_false (by omega)]; rfl
  · rw [decide_eq_false k]
    simp at h ⊢
    omega
theorem frs_one {w : World} {g : Nat} {F : Nat → FrE} (h : Frs w g 1 F) : g < w.heap.size ∧ w.cell? ⟨g, 0, none⟩ = some (.bool (F 0).1.1) ∧ w.cell? ⟨g, 1, none⟩ = some (.slice (F 0).1.2.1 (F 0).1.2.2.1 (F 0).1.2.2.2) ∧ w.cell? ⟨g, 2, none⟩ = some (.bool (F 0).2.1.1) ∧ w.cell? ⟨g, 3, none⟩ = some (.slice (F 0).2.1.2.1 (F 0).2.1.2.2.1 (F 0).2.1.2.2.2) ∧ FrE.at_ w (F 0) := by
  obtain ⟨⟨h0, h1, h2, h3⟩, h4⟩ := h.2 0 (by decide)
  exact ⟨h.1, h0, h1, h2, h3, h4⟩
theorem one_float (w : World) (x : Nat) (t : TypeId) (hx : x < 2 ^ 64) (i : Nat) (hi : i < 1) : (w.alloc (.cells #[.float .f64 x] t)).cell? ⟨w.heap.size, i, none⟩ = some (.float .f64 ((fun _ => x) i)) ∧ (fun _ => x) i < 2 ^ 64 := by
  obtain rfl : i = 0 := by omega
  exact ⟨by simp [go_sem], hx⟩

set_option maxRecDepth 100000 in
set_option maxHeartbeats 3200000 in
theorem law_between_core (neg : Bool) (A : Option Addr) (n c : Nat) (l : List Nat) (neg' : Bool) (A' : Option Addr) (n' c' : Nat) (l' : List Nat) (r : Rat) (d u : Nat) (L H : Int) (w : World) (hd : d < 2 ^ 64) (hu : u < 2 ^ 64) (hO : OkF w ((neg, A, n, c, l), (neg', A', n', c', l')) r) (hT : Tab w) (nd : Flt.nanB d = false) (nu : Flt.nanB u = false)
    (sd : Flt.infB d = true → Flt.sgn d = true) (su : Flt.infB u = true → Flt.sgn u = false)
    (hL : Flt.Fin d → rcmp (fr d) r = L) (hL' : ¬ Flt.Fin d → L = -1) (hH : Flt.Fin u → rcmp (fr u) r = H) (hH' : ¬ Flt.Fin u → H = 1)
    (hE : (L = 0 ∧ H = 0 ∧ (Ieee.double.order d u == some .eq) = true) ∨ (L = -1 ∧ H = 1 ∧ (Ieee.double.order d u == some .eq) = false)) :
    Calls Tryd.prog 11 #[.agg #[.bool neg, .slice A n c, .bool neg', .slice A' n' c'], .float .f64 d, .float .f64 u] w (RetV w (.bool true)) := by
  have K0 := (Mm.nil w).var (g := w.heap.size) rfl [.bool neg, .slice A n c, .bool neg', .slice A' n' c'] 26
  obtain ⟨bd, hbd⟩ : ∃ b, Flt.finB d = b := ⟨_, rfl⟩
  obtain ⟨bu, hbu⟩ : ∃ b, Flt.finB u = b := ⟨_, rfl⟩
  have hfb := inf_of_fin nd hbd
  have hfu := inf_of_fin nu hbu
  have HO := Lib.hid hO
  have HT := Lib.hid hT
  have HE := Lib.hid hE
  have SD : Hid ((Flt.infB d && !Flt.sgn d) = false) := Lib.hid (by
    cases h : Flt.infB d with
    | true => rw [sd h]; rfl
    | false => rfl)
  have SU : Hid ((Flt.infB u && Flt.sgn u) = false) := Lib.hid (by
    cases h : Flt.infB u with
    | true => rw [su h]; rfl
    | false => rfl)
  have HD1 : Hid (bd = true → Flt.Fin d ∧ rcmp (fr d) r = L) := Lib.hid (fun e => by have := Flt.finB_iff.1 (hbd.trans e); exact ⟨this, hL this⟩)
  have HD2 : Hid (bd = false → L = -1) := Lib.hid (fun e => hL' (Flt.finB_false.1 (hbd.trans e)))
  have HU1 : Hid (bu = true → Flt.Fin u ∧ rcmp (fr u) r = H) := Lib.hid (fun e => by have := Flt.finB_iff.1 (hbu.trans e); exact ⟨this, hH this⟩)
  have HU2 : Hid (bu = false → H = 1) := Lib.hid (fun e => hH' (Flt.finB_false.1 (hbu.trans e)))
  clear hO hT hL hL' hH hH' hE sd su hbd hbu
  go_enter Tryd.func11, Tryd.ntmps11
  go_upto_if 18 with (first | (go_at_call 14; refine (isNaN_any _ _).mono ?_; rintro e w' ⟨rfl, rfl⟩; (first | rw [nd] | rw [nu])) | fail)
  generalize w.alloc (.cells #[.bool neg, .slice A n c, .bool neg', .slice A' n' c'] 26) = w0 at K0 ⊢
  go_upto_if 21 with (first | (go_at_call 34; refine (isInf0_any _ hd _).mono ?_; rintro e w' ⟨rfl, rfl⟩; rw [hfb]) | fail)
  go_cut [7, 9, 10, 21] from 22 to 34 (fun s7 _ _ _ wx => s7 = .int .i64 L ∧ Mm w [(w.heap.size, [.bool neg, .slice A n c, .bool neg', .slice A' n' c'])] [] wx)
  case first =>
    cases bd with
    | false =>
      have hl := HD2.out rfl
      clear HE
      subst hl
      go_wp2_with fail
      go_meet
      exact ⟨rfl, K0⟩
    | true =>
      obtain ⟨hff, hv0⟩ := HD1.out rfl
      have hv := Lib.hid hv0
      clear hv0
      have HT1 := Lib.hid (HT.out.next K0.1)
      have HO1 := Lib.hid (HO.out.next K0.1)
      have hsz0 := K0.1.size
      go_wp2_with fail
      refine (law_worth w0.heap.size 1 1 (fun _ => d) _ (by simp) (by decide) (by decide) (one_float w0 d 27 hd) (HT1.out.box _)).mono ?_
      have hbx : Below w0.heap.size w0 (w0.alloc (.cells #[.float .f64 d] 27)) := (Below.refl _ _).alloc (Nat.le_refl _) _
      rintro e1 w1 (⟨_, g1, c1, F, rfl, hc1, hF, hV, hg1, hb1⟩ | ⟨⟨j, hj, hno⟩, _⟩)
      · have hb2 : Below w0.heap.size w0 w1 := below_box hb1
        have K1 := K0.next hb2
        have HO2 := HO1.out.next hb2
        have hV0 := hV 0 (by decide)
        obtain ⟨hg2, q0, q1, q2, q3, i1, i2⟩ := frs_one hF
        obtain ⟨⟨⟨s1, A1, n1, p1⟩, ⟨s2, A2, n2, p2⟩, y⟩, hy⟩ : ∃ f, F 0 = f := ⟨_, rfl⟩
        rw [hy] at q0 q1 q2 q3 i1 i2 hV0
        simp only at q0 q1 q2 q3 i1 i2 hV0
        rw [hV0] at i1 i2
        obtain ⟨l1, l2, O1⟩ := okF_of i1 i2 ((fr_sz hff).mono (by decide))
        obtain ⟨⟨qa1, qb1, qc1, qd1⟩, _, _⟩ := (K1.blk (g := w.heap.size) (vs := [.bool neg, .slice A n c, .bool neg', .slice A' n' c']) (by simp)).four
        clear hF hV hb1 hb2 hbx i1 i2 hy K0 HO1 HT1 HE
        go_wp2_with fail
        go_region_held3 (fun w' => w'.cell? ⟨g1, 0, none⟩ = some (.bool s1) ∧ w'.cell? ⟨g1, 1, none⟩ = some (.slice A1 n1 p1) ∧ w'.cell? ⟨g1, 2, none⟩ = some (.bool s2) ∧ w'.cell? ⟨g1, 3, none⟩ = some (.slice A2 n2 p2) ∧ w'.cell? ⟨w.heap.size, 0, none⟩ = some (.bool neg) ∧ w'.cell? ⟨w.heap.size, 1, none⟩ = some (.slice A n c) ∧ w'.cell? ⟨w.heap.size, 2, none⟩ = some (.bool neg') ∧ w'.cell? ⟨w.heap.size, 3, none⟩ = some (.slice A' n' c'))
          (go_keep)
          (first
            | (go_at_call 21; (with_reducible refine (frac_cmp_any s1 A1 n1 p1 l1 s2 A2 n2 p2 l2 neg A n c l neg' A' n' c' l' (fr d) r L _ ?_ ?_ hv).mono ?_); (first | (with_reducible exact O1) | (exact O1.next (below_drewN (Below.refl _ _) 1)) | (exact O1.next (below_drewN (Below.refl _ _) _))); (first | (with_reducible exact HO2) | (exact HO2.next (below_drewN (Below.refl _ _) 1)) | (exact HO2.next (below_drewN (Below.refl _ _) _))); rintro e2 w2 ⟨rfl, hb3⟩; (first | (with_reducible have K2 := K1.next hb3) | (with_reducible have K2 := K1.drew.next hb3) | (with_reducible have K2 := (K1.drewN _).next hb3)); have z0 := ((bcell hb3).1 g1 0 hg2).trans q0; have z1 := ((bcell hb3).1 g1 1 hg2).trans q1; have z2 := ((bcell hb3).1 g1 2 hg2).trans q2; have z3 := ((bcell hb3).1 g1 3 hg2).trans q3; obtain ⟨⟨za, zb, zc, zd⟩, _, _⟩ := (K2.blk (g := w.heap.size) (vs := [.bool neg, .slice A n c, .bool neg', .slice A' n' c']) (by simp)).four)
            | fail)
        all_goals (go_wp2_with fail)
        all_goals go_meet
        all_goals exact ⟨rfl, K2⟩
      · exact absurd hff hno
  case rest =>
    obtain ⟨rfl, K0⟩ := hcut
    go_upto_if 37 with (first | (go_at_call 34; refine (isInf0_any _ hu _).mono ?_; rintro e w' ⟨rfl, rfl⟩; rw [hfu]) | fail)
    go_cut [8, 11, 12, 37] from 38 to 50 (fun s7 _ _ _ wx => s7 = .int .i64 H ∧ Mm w [(w.heap.size, [.bool neg, .slice A n c, .bool neg', .slice A' n' c'])] [] wx)
    case first =>
      cases bu with
      | false =>
        have hl := HU2.out rfl
        clear HE
        subst hl
        go_wp2_with fail
        go_meet
        exact ⟨rfl, K0⟩
      | true =>
        obtain ⟨hff, hv0⟩ := HU1.out rfl
        have hv := Lib.hid hv0
        clear hv0
        have HT1 := Lib.hid (HT.out.next K0.1)
        have HO1 := Lib.hid (HO.out.next K0.1)
        have hsz0 := K0.1.size
        go_wp2_with fail
        refine (law_worth wc.heap.size 1 1 (fun _ => u) _ (by simp) (by decide) (by decide) (one_float wc u 27 hu) (HT1.out.box _)).mono ?_
        have hbx : Below wc.heap.size wc (wc.alloc (.cells #[.float .f64 u] 27)) := (Below.refl _ _).alloc (Nat.le_refl _) _
        rintro e1 w1 (⟨_, g1, c1, F, rfl, hc1, hF, hV, hg1, hb1⟩ | ⟨⟨j, hj, hno⟩, _⟩)
        · have hb2 : Below wc.heap.size wc w1 := below_box hb1
          have K1 := K0.next hb2
          have HO2 := HO1.out.next hb2
          have hV0 := hV 0 (by decide)
          obtain ⟨hg2, q0, q1, q2, q3, i1, i2⟩ := frs_one hF
          obtain ⟨⟨⟨s1, A1, n1, p1⟩, ⟨s2, A2, n2, p2⟩, y⟩, hy⟩ : ∃ f, F 0 = f := ⟨_, rfl⟩
          rw [hy] at q0 q1 q2 q3 i1 i2 hV0
          simp only at q0 q1 q2 q3 i1 i2 hV0
          rw [hV0] at i1 i2
          obtain ⟨l1, l2, O1⟩ := okF_of i1 i2 ((fr_sz hff).mono (by decide))
          obtain ⟨⟨qa1, qb1, qc1, qd1⟩, _, _⟩ := (K1.blk (g := w.heap.size) (vs := [.bool neg, .slice A n c, .bool neg', .slice A' n' c']) (by simp)).four
          clear hF hV hb1 hb2 hbx i1 i2 hy K0 HO1 HT1 HE
          go_wp2_with fail
          go_region_held3 (fun w' => w'.cell? ⟨g1, 0, none⟩ = some (.bool s1) ∧ w'.cell? ⟨g1, 1, none⟩ = some (.slice A1 n1 p1) ∧ w'.cell? ⟨g1, 2, none⟩ = some (.bool s2) ∧ w'.cell? ⟨g1, 3, none⟩ = some (.slice A2 n2 p2) ∧ w'.cell? ⟨w.heap.size, 0, none⟩ = some (.bool neg) ∧ w'.cell? ⟨w.heap.size, 1, none⟩ = some (.slice A n c) ∧ w'.cell? ⟨w.heap.size, 2, none⟩ = some (.bool neg') ∧ w'.cell? ⟨w.heap.size, 3, none⟩ = some (.slice A' n' c'))
            (go_keep)
            (first
              | (go_at_call 21; (with_reducible refine (frac_cmp_any s1 A1 n1 p1 l1 s2 A2 n2 p2 l2 neg A n c l neg' A' n' c' l' (fr u) r H _ ?_ ?_ hv).mono ?_); (first | (with_reducible exact O1) | (exact O1.next (below_drewN (Below.refl _ _) 1)) | (exact O1.next (below_drewN (Below.refl _ _) _))); (first | (with_reducible exact HO2) | (exact HO2.next (below_drewN (Below.refl _ _) 1)) | (exact HO2.next (below_drewN (Below.refl _ _) _))); rintro e2 w2 ⟨rfl, hb3⟩; (first | (with_reducible have K2 := K1.next hb3) | (with_reducible have K2 := K1.drew.next hb3) | (with_reducible have K2 := (K1.drewN _).next hb3)); have z0 := ((bcell hb3).1 g1 0 hg2).trans q0; have z1 := ((bcell hb3).1 g1 1 hg2).trans q1; have z2 := ((bcell hb3).1 g1 2 hg2).trans q2; have z3 := ((bcell hb3).1 g1 3 hg2).trans q3; obtain ⟨⟨za, zb, zc, zd⟩, _, _⟩ := (K2.blk (g := w.heap.size) (vs := [.bool neg, .slice A n c, .bool neg', .slice A' n' c']) (by simp)).four)
              | fail)
          all_goals (go_wp2_with fail)
          all_goals go_meet
          all_goals exact ⟨rfl, K2⟩
        · exact absurd hff hno
    case rest =>
      obtain ⟨rfl, K0⟩ := hcut
      rcases HE.out with ⟨rfl, rfl, ho⟩ | ⟨rfl, rfl, ho⟩
      · go_wp2_with (first | (go_at_call 34; (with_reducible refine (isInf1_any d _).mono ?_); rintro e w' ⟨rfl, rfl⟩; rw [SD.out]) | (go_at_call 34; (with_reducible refine (isInf2_any u hu _).mono ?_); rintro e w' ⟨rfl, rfl⟩; rw [SU.out]) | fail)
        go_ret
        exact ⟨rfl, K0.1⟩
      · go_wp2_with (first | (go_at_call 34; (with_reducible refine (isInf1_any d _).mono ?_); rintro e w' ⟨rfl, rfl⟩; rw [SD.out]) | (go_at_call 34; (with_reducible refine (isInf2_any u hu _).mono ?_); rintro e w' ⟨rfl, rfl⟩; rw [SU.out]) | fail)
        go_ret
        exact ⟨rfl, K0.1⟩
end Go.Proofs.YtjcjphgpmpjmbaaDoor

namespace Go.Proofs.YtjcjphgpmpjmbaaDoor
open Go.RowKit

theorem sub_nan {v t : Nat} (ht : IsOp Ieee.double.sub v v t) (hf : ¬ Flt.Fin v) : Flt.nanB t = true := by
  obtain ⟨_, h⟩ := ht
  rw [Flt.sub_eq] at h
  have hn : Flt.Nan t := by
    by_cases hi : Flt.rg v = Flt.inf
    · rw [Flt.add_inf_both hi (by rw [Flt.rg_opp]; exact hi), Flt.sgn_opp, if_neg (by cases Flt.sgn v <;> simp)] at h
      exact h
    · rw [Flt.add_nan_left (by unfold Flt.Fin at hf; unfold Flt.Nan; omega)] at h
      exact h
  exact Flt.nanB_iff.2 hn
theorem fr_wide (v : Nat) (r : Rat) : fr v = Rat.divInt (Flt.sv v * (r.den : Int)) (((2 ^ Flt.K74 : Nat) : Int) * (r.den : Int)) ∧ r = Rat.divInt (r.num * ((2 ^ Flt.K74 : Nat) : Int)) (((2 ^ Flt.K74 : Nat) : Int) * (r.den : Int)) := by
  constructor
  · unfold fr
    rw [Rat.divInt_mul_right (den_ne r)]
  · rw [Int.mul_comm ((2 ^ Flt.K74 : Nat) : Int) (r.den : Int), Rat.divInt_mul_right unit_ne]
    exact (Rat.num_divInt_den r).symm
theorem wide_pos (r : Rat) : 0 < ((2 ^ Flt.K74 : Nat) : Int) * (r.den : Int) := by
  refine Int.mul_pos ?_ ?_
  · have := Nat.two_pow_pos Flt.K74; omega
  · have := r.den_nz; omega
theorem fr_lt {v : Nat} {r : Rat} : fr v < r ↔ Flt.sv v * (r.den : Int) < r.num * ((2 ^ Flt.K74 : Nat) : Int) := by
  obtain ⟨h1, h2⟩ := fr_wide v r
  have h3 := divInt_lt (a := Flt.sv v * (r.den : Int)) (b := r.num * ((2 ^ Flt.K74 : Nat) : Int)) (wide_pos r)
  rw [← h1, ← h2] at h3
  exact h3
theorem lt_fr {v : Nat} {r : Rat} : r < fr v ↔ r.num * ((2 ^ Flt.K74 : Nat) : Int) < Flt.sv v * (r.den : Int) := by
  obtain ⟨h1, h2⟩ := fr_wide v r
  have h3 := divInt_lt (a := r.num * ((2 ^ Flt.K74 : Nat) : Int)) (b := Flt.sv v * (r.den : Int)) (wide_pos r)
  rw [← h1, ← h2] at h3
  exact h3
theorem fr_eq {v : Nat} {r : Rat} (h : fr v = r) : Flt.sv v * (r.den : Int) = r.num * ((2 ^ Flt.K74 : Nat) : Int) := by
  have a : ¬ fr v < r := by rw [h]; exact Rat.lt_irrefl
  have b : ¬ r < fr v := by rw [h]; exact Rat.lt_irrefl
  rw [fr_lt] at a
  rw [lt_fr] at b
  omega
theorem rcmp_below {v : Nat} {r : Rat} (h : Flt.sv v * (r.den : Int) < r.num * ((2 ^ Flt.K74 : Nat) : Int)) : rcmp (fr v) r = -1 := by
  unfold rcmp
  rw [if_pos (fr_lt.2 h)]
theorem rcmp_above {v : Nat} {r : Rat} (h : r.num * ((2 ^ Flt.K74 : Nat) : Int) < Flt.sv v * (r.den : Int)) : rcmp (fr v) r = 1 := by
  unfold rcmp
  rw [if_neg (fun k => by have := fr_lt.1 k; omega), if_pos (lt_fr.2 h)]
theorem rcmp_same {v : Nat} {r : Rat} (h : Flt.sv v * (r.den : Int) = r.num * ((2 ^ Flt.K74 : Nat) : Int)) : rcmp (fr v) r = 0 := by
  unfold rcmp
  rw [if_neg (fun k => by have := fr_lt.1 k; omega), if_neg (fun k => by have := lt_fr.1 k; omega)]
theorem nan_le {x : Nat} (h : Flt.rg x ≤ Flt.inf) : ¬ Flt.Nan x ∧ Flt.nanB x = false := by
  have : ¬ Flt.Nan x := by unfold Flt.Nan; omega
  exact ⟨this, by
    cases hb : Flt.nanB x with
    | false => rfl
    | true => exact absurd (Flt.nanB_iff.1 hb) this⟩
theorem infB_rg {x : Nat} (h : Flt.infB x = true) : Flt.rg x = Flt.inf := by unfold Flt.infB at h; simpa using h
/-- Where a float and an exact result stand to one another. -/
theorem btw_of {r : Rat} {d u : Nat} (h : Down (r.num * ((2 ^ Flt.K74 : Nat) : Int)) r.den d) (k : Up (r.num * ((2 ^ Flt.K74 : Nat) : Int)) r.den u) :
    Flt.nanB d = false ∧ Flt.nanB u = false ∧ (Flt.infB d = true → Flt.sgn d = true) ∧ (Flt.infB u = true → Flt.sgn u = false) ∧ ∃ L H : Int, (Flt.Fin d → rcmp (fr d) r = L) ∧ (¬ Flt.Fin d → L = -1) ∧ (Flt.Fin u → rcmp (fr u) r = H) ∧ (¬ Flt.Fin u → H = 1) ∧
      ((L = 0 ∧ H = 0 ∧ (Ieee.double.order d u == some .eq) = true) ∨ (L = -1 ∧ H = 1 ∧ (Ieee.double.order d u == some .eq) = false)) := by
  have hn : 0 < r.den := Nat.pos_of_ne_zero r.den_nz
  obtain ⟨n1, n1'⟩ := nan_le h.2.1
  obtain ⟨n2, n2'⟩ := nan_le k.2.1
  refine ⟨n1', n2', fun e => h.2.2.2.1 (infB_rg e), fun e => k.2.2.2.1 (infB_rg e), ?_⟩
  rw [Flt.eq_spec n1 n2]
  generalize hZ : r.num * ((2 ^ Flt.K74 : Nat) : Int) = Z at h k
  by_cases hx : Flt.Fin d ∧ Flt.sv d * (r.den : Int) = Z
  · have e1 := k.exact hn hx.1 hx.2
    have f1 := k.finite hx.1 (by omega)
    refine ⟨0, 0, fun _ => rcmp_same (by rw [hZ]; exact hx.2), fun c => absurd hx.1 c, fun _ => rcmp_same (by rw [hZ, e1]; exact hx.2), fun c => absurd f1 c, .inl ⟨rfl, rfl, by simp [e1]⟩⟩
  · refine ⟨-1, 1, fun c => rcmp_below ?_, fun _ => rfl, fun c => rcmp_above ?_, fun _ => rfl, .inr ⟨rfl, rfl, decide_eq_false fun e => ?_⟩⟩
    · have := h.2.2.1 c
      rw [hZ]
      rcases Int.lt_or_eq_of_le this with q | q
      · exact q
      · exact absurd ⟨c, q⟩ hx
    · have := k.2.2.1 c
      rw [hZ]
      rcases Int.lt_or_eq_of_le this with q | q
      · exact q
      · have e1 := h.exact hn c q.symm
        exact absurd ⟨h.finite c (by omega), by rw [e1]; exact q.symm⟩ hx
    · rcases fin_or_inf h.2.1 with f1 | i1
      · have f2 := k.finite f1 (by omega)
        have a := h.2.2.1 f1
        have b := k.2.2.1 f2
        rw [← e] at b
        exact hx ⟨f1, by omega⟩
      · have s1 := sv_inf i1
        rw [h.2.2.2.1 i1, if_pos rfl] at s1
        rcases fin_or_inf k.2.1 with f2 | i2
        · have := (sv_fin f2).1
          omega
        · have s2 := sv_inf i2
          rw [k.2.2.2.1 i2, if_neg (by simp)] at s2
          have := Flt.val_lt (show 0 < Flt.inf by rw [Flt.inf_eq]; omega)
          omega
theorem brk_beside_low {s : Bool} {num den d u : Nat} (h : Brk s num den d u) : Beside d u d := by
  obtain ⟨r, h1, rfl, rfl⟩ := h
  have hr := h1.1
  have hil := Flt.inf_lt
  unfold hiR
  by_cases e : Flt.val r * den = num
  · rw [if_pos e]
    have hz : ¬ Flt.Nan (Flt.word s r) := Flt.not_nan_word (by omega)
    cases s with
    | true => exact beside_one hz hz rfl
    | false => exact beside_one hz hz rfl
  · rw [if_neg e]
    have := beside_step (s := s) (r := r) (o := Flt.word s (if s then r + 1 else r)) hr (by cases s <;> simp)
    cases s with
    | true => exact this
    | false => exact this
/-- Of a fraction that may be: what is told of it. -/
theorem okF_brk {w : World} {neg : Bool} {A : Option Addr} {n c : Nat} {l : List Nat} {neg' : Bool} {A' : Option Addr} {n' c' : Nat} {l' : List Nat} {r : Rat} {d u : Nat} (h : OkF w ((neg, A, n, c, l), (neg', A', n', c', l')) r)
    (k : okFr neg l neg' l' → Brk (decide (sgnd neg (Lm.lv l) < 0)) (Lm.lv l * 2 ^ Flt.K74) (Lm.lv l') d u) :
    ∃ s num den, Brk s num den d u ∧ (r.num = 0 → s = false ∧ num = 0) ∧ Down (r.num * ((2 ^ Flt.K74 : Nat) : Int)) r.den d ∧ Up (r.num * ((2 ^ Flt.K74 : Nat) : Int)) r.den u := by
  have ho := (okB_iff _).1 h.2.1
  obtain ⟨e1, e2⟩ := ok_num h.2.1
  rw [h.2.2] at e1 e2
  have hB := k ho
  have hp : 0 < Lm.lv l' := (okFr_den ho).2
  have ed : r.den = Lm.lv l' := by
    have h2 : (r.den : Int) = sgnd neg' (Lm.lv l') := e2
    have h3 : sgnd neg' (Lm.lv l') = (Lm.lv l' : Int) := (okFr_den ho).1
    rw [h3] at h2
    omega
  have e1' : r.num = sgnd neg (Lm.lv l) := e1
  have hz : r.num * ((2 ^ Flt.K74 : Nat) : Int) = if decide (sgnd neg (Lm.lv l) < 0) then -((Lm.lv l * 2 ^ Flt.K74 : Nat) : Int) else ((Lm.lv l * 2 ^ Flt.K74 : Nat) : Int) := by
    rw [e1', Int.natCast_mul]
    generalize ((2 ^ Flt.K74 : Nat) : Int) = K
    unfold sgnd
    cases neg with
    | false => simp; intro hc; omega
    | true =>
      simp
      by_cases h0 : Lm.lv l = 0
      · rw [h0]; simp
      · rw [if_pos (by omega), Int.neg_mul]
  obtain ⟨a, b⟩ := brk_down (z := r.num * ((2 ^ Flt.K74 : Nat) : Int)) hp hz hB
  refine ⟨_, _, _, hB, fun h0 => ?_, by rw [ed]; exact a, by rw [ed]; exact b⟩
  rw [e1'] at h0
  have hl : Lm.lv l = 0 := by
    have := sgnd_abs neg (Lm.lv l)
    rw [h0] at this
    exact this.symm
  rw [h0, hl]
  exact ⟨rfl, Nat.zero_mul _⟩
/-- What is beside what is beside a finite float is that float. -/
theorem nxt_back {v : Nat} (h : v < 2 ^ 64) (hf : Flt.Fin v) :
    ¬ Flt.Nan (nxt v true) ∧ ¬ Flt.Nan (nxt v false) ∧ Flt.sv (nxt v false) < Flt.sv v ∧ Flt.sv v < Flt.sv (nxt v true) ∧ nxt v true < 2 ^ 64 ∧ nxt v false < 2 ^ 64 ∧
      ¬ Flt.Nan (nxt (nxt v true) false) ∧ ¬ Flt.Nan (nxt (nxt v false) true) ∧ Flt.sv (nxt (nxt v true) false) = Flt.sv v ∧ Flt.sv (nxt (nxt v false) true) = Flt.sv v := by
  have hil := Flt.inf_lt
  have hi := Flt.inf_eq
  obtain ⟨s, hs⟩ : ∃ s, Flt.sgn v = s := ⟨_, rfl⟩
  obtain ⟨r, hr⟩ : ∃ r, Flt.rg v = r := ⟨_, rfl⟩
  have hw := Flt.word_eq v h
  rw [hs, hr] at hw
  have hrf : r < Flt.inf := by rw [← hr]; exact hf
  have nn : ∀ t q, q ≤ Flt.inf → ¬ Flt.Nan (Flt.word t q) := fun t q hq => Flt.not_nan_word hq
  have ss : ∀ t q, q ≤ Flt.inf → Flt.sv (Flt.word t q) = if t then -(Flt.val q : Int) else Flt.val q := fun t q hq => Flt.sv_word (by omega)
  have wl : ∀ t q, q ≤ Flt.inf → Flt.word t q < 2 ^ 64 := fun t q hq => by unfold Flt.word; split <;> omega
  rw [← hw]
  by_cases h0 : r = 0
  · subst h0
    have v01 : Flt.val 0 < Flt.val 1 := Flt.val_lt (by omega)
    have v0 := Flt.val_zero
    have a1 : nxt (Flt.word s 0) true = Flt.word false 1 := by cases s <;> decide
    have a2 : nxt (Flt.word s 0) false = Flt.word true 1 := by cases s <;> decide
    have a3 : nxt (Flt.word false 1) false = Flt.word false 0 := by decide
    have a4 : nxt (Flt.word true 1) true = Flt.word true 0 := by decide
    rw [a1, a2, a3, a4]
    refine ⟨nn _ _ (by omega), nn _ _ (by omega), ?_, ?_, wl _ _ (by omega), wl _ _ (by omega), nn _ _ (by omega), nn _ _ (by omega), ?_, ?_⟩
    · rw [ss _ _ (by omega), ss _ _ (by omega)]; cases s <;> simp <;> omega
    · rw [ss _ _ (by omega), ss _ _ (by omega)]; cases s <;> simp <;> omega
    · rw [ss _ _ (by omega), ss _ _ (by omega)]; cases s <;> simp [v0]
    · rw [ss _ _ (by omega), ss _ _ (by omega)]; cases s <;> simp [v0]
  · have v1 : Flt.val r < Flt.val (r + 1) := Flt.val_lt (by omega)
    have v2 : Flt.val (r - 1) < Flt.val r := Flt.val_lt (by omega)
    cases s with
    | false =>
      have a1 : nxt (Flt.word false r) true = Flt.word false (r + 1) := nxt_pos_up hrf
      have a2 : nxt (Flt.word false r) false = Flt.word false (r - 1) := nxt_pos_any (by omega) (by omega)
      have a3 : nxt (Flt.word false (r + 1)) false = Flt.word false r := nxt_pos_any (by omega) (by omega)
      have a4 : nxt (Flt.word false (r - 1)) true = Flt.word false r := by
        have := nxt_pos_up (r := r - 1) (by omega)
        rw [show r - 1 + 1 = r by omega] at this
        exact this
      rw [a1, a2, a3, a4]
      refine ⟨nn _ _ (by omega), nn _ _ (by omega), ?_, ?_, wl _ _ (by omega), wl _ _ (by omega), nn _ _ (by omega), nn _ _ (by omega), rfl, rfl⟩
      · rw [ss _ _ (by omega), ss _ _ (by omega)]; simp; omega
      · rw [ss _ _ (by omega), ss _ _ (by omega)]; simp; omega
    | true =>
      have a1 : nxt (Flt.word true r) true = Flt.word true (r - 1) := nxt_neg_any (by omega) (by omega)
      have a2 : nxt (Flt.word true r) false = Flt.word true (r + 1) := nxt_neg_down hrf
      have a3 : nxt (Flt.word true (r - 1)) false = Flt.word true r := by
        have := nxt_neg_down (r := r - 1) (by omega)
        rw [show r - 1 + 1 = r by omega] at this
        exact this
      have a4 : nxt (Flt.word true (r + 1)) true = Flt.word true r := nxt_neg_any (by omega) (by omega)
      rw [a1, a2, a3, a4]
      refine ⟨nn _ _ (by omega), nn _ _ (by omega), ?_, ?_, wl _ _ (by omega), wl _ _ (by omega), nn _ _ (by omega), nn _ _ (by omega), rfl, rfl⟩
      · rw [ss _ _ (by omega), ss _ _ (by omega)]; simp; omega
      · rw [ss _ _ (by omega), ss _ _ (by omega)]; simp; omega
end Go.Proofs.YtjcjphgpmpjmbaaDoor

namespace Go.Proofs.YtjcjphgpmpjmbaaDoor
open Go.RowKit

/-- Any exact result between what is told of it. -/
theorem law_between (neg : Bool) (A : Option Addr) (n c : Nat) (l : List Nat) (neg' : Bool) (A' : Option Addr) (n' c' : Nat) (l' : List Nat) (r : Rat) (d u : Nat) (w : World) (hO : OkF w ((neg, A, n, c, l), (neg', A', n', c', l')) r) (hT : Tab w) (h : Down (r.num * ((2 ^ Flt.K74 : Nat) : Int)) r.den d) (k : Up (r.num * ((2 ^ Flt.K74 : Nat) : Int)) r.den u) :
    Calls Tryd.prog 11 #[.agg #[.bool neg, .slice A n c, .bool neg', .slice A' n' c'], .float .f64 d, .float .f64 u] w (RetV w (.bool true)) := by
  obtain ⟨n1, n2, s1, s2, L, H, a1, a2, a3, a4, a5⟩ := btw_of h k
  exact law_between_core neg A n c l neg' A' n' c' l' r d u L H w h.1 k.1 hO hT n1 n2 s1 s2 a1 a2 a3 a4 a5
/-- What round.Frac tells of a fraction that may be. -/
theorem round_frac_ok (neg : Bool) (A : Option Addr) (n c : Nat) (l : List Nat) (neg' : Bool) (A' : Option Addr) (n' c' : Nat) (l' : List Nat) (r : Rat) (w : World) (hO : OkF w ((neg, A, n, c, l), (neg', A', n', c', l')) r) :
    Calls Tryd.prog 10 #[.agg #[.bool neg, .slice A n c, .bool neg', .slice A' n' c']] w (fun e w' => ∃ d u s num den, e = .returned (.tuple #[.float .f64 d, .float .f64 u, .int .i64 0]) ∧ Brk s num den d u ∧ (r.num = 0 → s = false ∧ num = 0) ∧ Down (r.num * ((2 ^ Flt.K74 : Nat) : Int)) r.den d ∧ Up (r.num * ((2 ^ Flt.K74 : Nat) : Int)) r.den u ∧ Below w.heap.size w w') := by
  obtain ⟨ha, hb, hn, hn'⟩ := hO.1
  refine (round_frac neg neg' A A' n c n' c' l l' w ha hb hn hn').mono ?_
  rintro e w' ⟨d, u, rfl, h1, _, hb1⟩
  obtain ⟨s, num, den, k1, k2, k3, k4⟩ := okF_brk hO h1
  refine ⟨d, u, s, num, den, ?_, k1, k2, k3, k4, hb1⟩
  rw [chkFr_ok ((okB_iff _).1 hO.2.1)]

set_option maxRecDepth 100000 in
set_option maxHeartbeats 3200000 in
theorem law_roundNear (neg neg' : Bool) (A A' : Option Addr) (n c n' c' : Nat) (l l' : List Nat) (v : Nat) (w : World) (ha : Sl w A n c l) (hb : Sl w A' n' c' l') (hn : n ≤ 281474976710656) (hn' : n' ≤ 281474976710656) (hv : v < 2 ^ 64) (hT : Tab w) :
    Calls Tryd.prog 3 #[.agg #[.bool neg, .slice A n c, .bool neg', .slice A' n' c'], .float .f64 v] w (RetV w (.bool true)) := by
  have K0 := (Mm.nil w).var (g := w.heap.size) rfl [.bool neg, .slice A n c, .bool neg', .slice A' n' c'] 26
  have ha0 := ha.below K0.1
  have hb0 := hb.below K0.1
  have HS := Lib.hid (cost_sum n n' hn hn')
  have HT := Lib.hid hT
  clear ha hb hT
  go_enter Tryd.func3, Tryd.ntmps3
  go_wp2_with fail
  refine (law_alive _).mono ?_
  rintro e0 w0 ⟨rfl, hb01⟩
  have K1 := K0.next hb01
  have ha1 := ha0.below hb01
  have hb1 := hb0.below hb01
  obtain ⟨⟨qa1, qb1, qc1, qd1⟩, _, _⟩ := (K1.blk (g := w.heap.size) (vs := [.bool neg, .slice A n c, .bool neg', .slice A' n' c']) (by simp)).four
  clear K0 ha0 hb0 hb01
  go_wp2_with fail
  refine (frac_cost_any neg neg' A A' n c n' c' _ hn hn').mono ?_
  rintro e1 w1 ⟨rfl, hb11⟩
  have K2 := K1.next hb11
  have ha2 := ha1.below hb11
  have hb2 := hb1.below hb11
  clear K1 ha1 hb1 hb11 qa1 qb1 qc1 qd1
  obtain ⟨⟨qa1, qb1, qc1, qd1⟩, _, _⟩ := (K2.blk (g := w.heap.size) (vs := [.bool neg, .slice A n c, .bool neg', .slice A' n' c']) (by simp)).four
  go_wp2_with fail
  have hR2 := nats_new w1 3 [costFr n n']
  have hB2 : Below w1.heap.size w1 (w1.alloc (.cells (nats [costFr n n']).toArray 3)) := (Below.refl _ _).alloc (Nat.le_refl _) _
  have hsum : [costFr n n'].sum = costFr n n' := by simp
  generalize hg2 : w1.alloc (.cells (nats [costFr n n']).toArray 3) = w2 at hB2 hR2
  rw [show w1.alloc (.cells #[.int .i64 ((costFr n n' : Nat) : Int)] 3) = w2 from hg2]
  clear hg2
  refine (beyond_any (some ⟨w1.heap.size, 0, none⟩) 1 1 [costFr n n'] _ hR2 (by decide) HS.out).mono ?_
  rintro e2 w3 ⟨rfl, rfl⟩
  rw [hsum]
  have K3 := K2.next hB2
  have ha3 := ha2.below hB2
  have hb3 := hb2.below hB2
  clear K2 ha2 hb2 hB2 hR2 HS qa1 qb1 qc1 qd1 hsum
  by_cases hbig : 1048576 < costFr n n'
  · rw [decide_eq_true hbig]
    go_wp2_with fail
    refine (law_alive _).mono ?_
    rintro e3 w4 ⟨rfl, hb4⟩
    go_wp2_with fail
    go_ret
    exact ⟨rfl, (K3.next hb4).1⟩
  · rw [decide_eq_false hbig]
    obtain ⟨n1, n2⟩ := cost_le hbig
    clear hbig hn hn'
    obtain ⟨⟨qa3, qb3, qc3, qd3⟩, _, _⟩ := (K3.blk (g := w.heap.size) (vs := [.bool neg, .slice A n c, .bool neg', .slice A' n' c']) (by simp)).four
    go_wp2_with fail
    obtain ⟨o, ho⟩ : ∃ o, okB ((neg, A, n, c, l), (neg', A', n', c', l')) = o := ⟨_, rfl⟩
    refine (frac_check_any neg A n c l neg' A' n' c' l' _ ⟨ha3, hb3, n1, n2⟩).mono ?_
    rintro e3 w4 ⟨rfl, hb4⟩
    rw [ho]
    have K4 := K3.next hb4
    have hat : LmE.at_ w4 ((neg, A, n, c, l), (neg', A', n', c', l')) := ⟨ha3.below hb4, hb3.below hb4, n1, n2⟩
    clear K3 ha3 hb3 hb4 qa3 qb3 qc3 qd3 n1 n2
    obtain ⟨⟨qa4, qb4, qc4, qd4⟩, _, _⟩ := (K4.blk (g := w.heap.size) (vs := [.bool neg, .slice A n c, .bool neg', .slice A' n' c']) (by simp)).four
    obtain ⟨ce, hce⟩ : ∃ ce : Int, (if o = true then (0 : Int) else 1) = ce := ⟨_, rfl⟩
    rw [hce]
    go_upto_if 26 with (fail)
    go_cut [5, 6, 7, 26] from 27 to 48 (fun _ _ _ _ wx => Below w.heap.size w wx)
    case first =>
      cases o with
      | false =>
        have : ce = 1 := hce.symm
        subst this
        go_wp2_with fail
        go_meet
        exact K4.1
      | true =>
        have : ce = 0 := hce.symm
        subst this
        have HO : OkF w4 ((neg, A, n, c, l), (neg', A', n', c', l')) (rv ((neg, A, n, c, l), (neg', A', n', c', l'))) := ⟨hat, ho, rfl⟩
        obtain ⟨r, hr⟩ : ∃ r, rv ((neg, A, n, c, l), (neg', A', n', c', l')) = r := ⟨_, rfl⟩
        rw [hr] at HO
        clear hat ho hr hce
        go_wp2_with fail
        refine (round_frac_ok neg A n c l neg' A' n' c' l' r _ HO).mono ?_
        rintro e5 w5 ⟨d, u, s, num, den, rfl, hB, _, hD, hU, hb5⟩
        have K5 := K4.next hb5
        have HO5 := HO.next hb5
        have hT5 := HT.out.next K5.1
        obtain ⟨⟨qa5, qb5, qc5, qd5⟩, _, _⟩ := (K5.blk (g := w.heap.size) (vs := [.bool neg, .slice A n c, .bool neg', .slice A' n' c']) (by simp)).four
        clear K4 HO hb5 qa4 qb4 qc4 qd4
        have HBS := Lib.hid (brk_beside_low hB)
        have HDD := Lib.hid hD
        have HUU := Lib.hid hU
        have HTT := Lib.hid hT5
        clear hB hD hU hT5
        go_wp2_with fail
        refine (law_between neg A n c l neg' A' n' c' l' r d u _ HO5 HTT.out HDD.out HUU.out).mono ?_
        rintro e6 w6 ⟨rfl, hb6⟩
        have K6 := K5.next hb6
        go_wp2_with fail
        refine (law_beside d u d HDD.out.1 HUU.out.1 HBS.out _).mono ?_
        rintro e7 w7 ⟨rfl, rfl⟩
        go_wp2_with fail
        go_meet
        exact K6.1
    case rest =>
      have hsz := hcut.size
      have HT1 := Lib.hid (HT.out.next hcut)
      clear K4 hat ho hce qa4 qb4 qc4 qd4 HT
      by_cases hf : Flt.Fin v
      · obtain ⟨z1, z2, z3, z4, z5, z6, z7, z8, z9, z0⟩ := nxt_back hv hf
        have nv : ¬ Flt.Nan v := by unfold Flt.Fin at hf; unfold Flt.Nan; omega
        have c1 := Flt.lt_spec z2 nv
        have c2 := Flt.lt_spec nv z1
        have c3 := Flt.eq_spec z7 nv
        have c4 := Flt.eq_spec z8 nv
        rw [decide_eq_true z3] at c1
        rw [decide_eq_true z4] at c2
        rw [decide_eq_true z9] at c3
        rw [decide_eq_true z0] at c4
        have C1 := Lib.hid c1
        have C2 := Lib.hid c2
        have C3 := Lib.hid c3
        have C4 := Lib.hid c4
        have HVN := Lib.hid nv
        clear z1 z2 z3 z4 z7 z8 z9 z0 c1 c2 c3 c4 nv
        generalize ha5 : nxt v true = a at C2 C3 z5
        generalize hb5 : nxt v false = b at C1 C4 z6
        generalize ha6 : nxt a false = a2 at C3
        generalize hb6 : nxt b true = b2 at C4
        go_wp2_with fail
        refine (law_worth wc.heap.size 1 1 (fun _ => v) _ (by simp) (by decide) (by decide) (one_float wc v 27 hv) (HT1.out.box _)).mono ?_
        rintro e1 w5 (⟨_, g1, c5, F, rfl, hc5, hF, hV, hg1, hb7⟩ | ⟨⟨j, hj, hno⟩, _⟩)
        · have hb8 := hcut.trans ((below_box hb7).mono hsz)
          have hV0 := hV 0 (by decide)
          obtain ⟨hg2, q0, q1, q2, q3, i1, i2⟩ := frs_one hF
          obtain ⟨⟨⟨s1, A1, m1, p1⟩, ⟨s2, A2, m2, p2⟩, y⟩, hy⟩ : ∃ f, F 0 = f := ⟨_, rfl⟩
          rw [hy] at q0 q1 q2 q3 i1 i2 hV0
          simp only at q0 q1 q2 q3 i1 i2 hV0
          rw [hV0] at i1 i2
          obtain ⟨l1, l2, O1⟩ := okF_of i1 i2 ((fr_sz hf).mono (by decide))
          have hc2 : (0 : Nat) < 1 := by decide
          have hsz5 := hb8.size
          clear hF hV hb7 hcut i1 i2 hy hV0
          go_wp2_with fail
          refine (round_frac_ok s1 A1 m1 p1 l1 s2 A2 m2 p2 l2 (fr v) _ O1).mono ?_
          rintro e5 w6 ⟨d, u, s, num, den, rfl, hB, hz, hD, hU, hb9⟩
          have hbE := hb8.trans (hb9.mono hsz5)
          have hn : 0 < (fr v).den := Nat.pos_of_ne_zero (fr v).den_nz
          have he := fr_eq (v := v) (r := fr v) rfl
          have sd := hD.exact hn hf he
          have su := hU.exact hn hf he
          obtain ⟨nd, _⟩ := nan_le hD.2.1
          obtain ⟨nu, _⟩ := nan_le hU.2.1
          have o1 := Flt.eq_spec nd HVN.out
          have o2 := Flt.eq_spec nu HVN.out
          rw [decide_eq_true sd] at o1
          rw [decide_eq_true su] at o2
          have HSG : Hid ((Ieee.double.order v 0 == some .eq) = true → Flt.sgn d = false) := Lib.hid (fun h0 => by
            rw [Flt.eq_spec HVN.out nan_zero] at h0
            have h1 : Flt.sv v = Flt.sv 0 := of_decide_eq_true h0
            have h2 : (fr v).num = 0 := (fr_nought (by rw [h1]; rfl)).1
            obtain ⟨rfl, rfl⟩ := hz h2
            obtain ⟨r, k1, k2, _⟩ := hB
            have := k1.1
            have hil := Flt.inf_lt
            rw [if_neg (by simp)] at k2
            rw [k2]
            exact Flt.sgn_word false r (by omega))
          have O5 := Lib.hid o1
          have O6 := Lib.hid o2
          clear hB hz hD hU sd su nd nu he hn O1 o1 o2 hb8 hb9 q0 q1 q2 q3
          have e1 := O5.out
          have e2 := O6.out
          have e3 : Ieee.double.order d v = some .eq := eq_of_beq e1
          have e4 : Ieee.double.order u v = some .eq := eq_of_beq e2
          have k1 := C1.out
          have k2 := C2.out
          have k3 := C3.out
          have k4 := C4.out
          cases h0 : (Ieee.double.order v 0 == some .eq) with
          | true =>
            have hs0 := HSG.out h0
            go_wp2_with (first
              | (go_at_call 15; (with_reducible refine (signbit_any d _).mono ?_); rintro e7 w7 ⟨rfl, rfl⟩; rw [hs0])
              | (go_at_call 16; (with_reducible refine (rnd_next_any v hv true _).mono ?_); rintro e7 w7 ⟨rfl, rfl⟩; rw [ha5])
              | (go_at_call 16; (with_reducible refine (rnd_next_any v hv false _).mono ?_); rintro e7 w7 ⟨rfl, rfl⟩; rw [hb5])
              | (go_at_call 16; (with_reducible refine (rnd_next_any a z5 false _).mono ?_); rintro e7 w7 ⟨rfl, rfl⟩; rw [ha6])
              | (go_at_call 16; (with_reducible refine (rnd_next_any b z6 true _).mono ?_); rintro e7 w7 ⟨rfl, rfl⟩; rw [hb6])
              | fail)
            go_ret
            exact ⟨rfl, hbE⟩
          | false =>
            go_wp2_with (first
              | (go_at_call 16; (with_reducible refine (rnd_next_any v hv true _).mono ?_); rintro e7 w7 ⟨rfl, rfl⟩; rw [ha5])
              | (go_at_call 16; (with_reducible refine (rnd_next_any v hv false _).mono ?_); rintro e7 w7 ⟨rfl, rfl⟩; rw [hb5])
              | (go_at_call 16; (with_reducible refine (rnd_next_any a z5 false _).mono ?_); rintro e7 w7 ⟨rfl, rfl⟩; rw [ha6])
              | (go_at_call 16; (with_reducible refine (rnd_next_any b z6 true _).mono ?_); rintro e7 w7 ⟨rfl, rfl⟩; rw [hb6])
              | fail)
            go_ret
            exact ⟨rfl, hbE⟩
        · exact absurd hf hno
      · have HSN : Hid (∀ t, IsOp Ieee.double.sub v v t → Flt.nanB t = true) := Lib.hid (fun t h => sub_nan h hf)
        go_wp2_with fail
        refine (law_worth wc.heap.size 1 1 (fun _ => v) _ (by simp) (by decide) (by decide) (one_float wc v 27 hv) (HT1.out.box _)).mono ?_
        rintro e1 w5 (⟨hall, _⟩ | ⟨_, rfl, hb7⟩)
        · exact absurd (hall 0 (by decide)) hf
        · have hb8 := hcut.trans ((below_box hb7).mono hsz)
          clear hf hcut hb7
          go_wp2_with (first
            | (refine wpList_fsub _ rfl rfl ?_; intro t dd hs; have e := HSN.out _ hs; clear hs)
            | (go_at_call 14; refine (isNaN_any _ _).mono ?_; rintro e7 w7 ⟨rfl, rfl⟩; rw [e])
            | fail)
          go_ret
          exact ⟨rfl, below_drewN hb8 _⟩
end Go.Proofs.YtjcjphgpmpjmbaaDoor
