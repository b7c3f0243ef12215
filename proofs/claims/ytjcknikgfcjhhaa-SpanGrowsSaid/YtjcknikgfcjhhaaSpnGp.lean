/-
  SpanGrows.
-/
import Derived.Test.YtjcknikgfcjhhaaSpnDo
import Derived.Test.YtjcknikgfcjhhaaSpnAb
import Derived.Test.YtjcknikgfcjhhaaSpnEp
import Derived.Test.YtjcknikgfcjhhaaSpnL
namespace Go.Proofs.Ytjcknikgfcjhhaa
open Go.RowKit

theorem fin_between {x y z : Nat} (hy : Flt.rg y ≤ Flt.inf) (hx : Flt.Fin x) (hz : Flt.Fin z) (h1 : Flt.sv x ≤ Flt.sv y) (h2 : Flt.sv y ≤ Flt.sv z) : Flt.Fin y := by
  rcases fin_or_inf hy with h | h
  · exact h
  · exfalso
    have a := sv_inf h
    have b := sv_fin hx
    have c := sv_fin hz
    split at a <;> omega
theorem endsF_zero {lo hi : Nat} (h : (endsF lo hi).2.2 = 0) : Flt.Fin lo ∧ Flt.Fin hi ∧ endsF lo hi = (pz lo, pz hi, 0) := by
  unfold endsF at h ⊢
  split at h
  · rename_i hc
    obtain ⟨h1, h2⟩ := Bool.and_eq_true_iff.1 hc
    exact ⟨Flt.finB_iff.1 h1, Flt.finB_iff.1 h2, by rw [if_pos hc]⟩
  · exact absurd h (by decide)
theorem endsF_fin {lo hi : Nat} (h1 : Flt.Fin lo) (h2 : Flt.Fin hi) : endsF lo hi = (pz lo, pz hi, 0) := by
  unfold endsF
  rw [Flt.finB_iff.2 h1, Flt.finB_iff.2 h2]
  rfl
theorem endsF_lt {lo hi : Nat} (h1 : lo < 2 ^ 64) (h2 : hi < 2 ^ 64) : (endsF lo hi).1 < 2 ^ 64 ∧ (endsF lo hi).2.1 < 2 ^ 64 := by
  unfold endsF
  split
  · exact ⟨pz_lt6 h1, pz_lt6 h2⟩
  · exact ⟨by decide, by decide⟩
theorem ends_grow {lo hi LO HI : Nat} (w : Within lo hi LO HI) (r1 : Flt.rg lo ≤ Flt.inf) (r2 : Flt.rg hi ≤ Flt.inf) (h : (endsF LO HI).2.2 = 0) :
    (endsF lo hi).2.2 = 0 ∧ inB (endsF lo hi).1 (endsF lo hi).2.1 (endsF LO HI).1 (endsF LO HI).2.1 = true := by
  obtain ⟨F1, F2, e⟩ := endsF_zero h
  obtain ⟨w1, w2, w3⟩ := w
  have f1 := fin_between r1 F1 F2 w1 (by omega)
  have f2 := fin_between r2 F1 F2 (by omega) w3
  rw [e, endsF_fin f1 f2]
  exact ⟨rfl, inB_of (fin_pz f1) (fin_pz f2) (fin_pz F1) (fin_pz F2) (by rw [sv_pz, sv_pz]; exact w1) (by rw [sv_pz, sv_pz]; exact w2) (by rw [sv_pz, sv_pz]; exact w3)⟩
theorem low_rg {L : List (Int × Nat)} {lo : Nat} (h : LowOf L lo) : lo < 2 ^ 64 ∧ Flt.rg lo ≤ Flt.inf := by
  obtain ⟨⟨c, _, h1⟩, _⟩ := h
  exact ⟨h1.1, h1.2.1⟩
theorem high_rg {L : List (Int × Nat)} {hi : Nat} (h : HighOf L hi) : hi < 2 ^ 64 ∧ Flt.rg hi ≤ Flt.inf := by
  obtain ⟨⟨c, _, h1⟩, _⟩ := h
  exact ⟨h1.1, h1.2.1⟩
theorem low_one {z : Int} {n lo : Nat} (h : LowOf [(z, n)] lo) : Down z n lo := by
  obtain ⟨⟨c, hc, h1⟩, _⟩ := h
  rw [List.mem_singleton] at hc; subst hc; exact h1
theorem high_one {z : Int} {n hi : Nat} (h : HighOf [(z, n)] hi) : Up z n hi := by
  obtain ⟨⟨c, hc, h1⟩, _⟩ := h
  rw [List.mem_singleton] at hc; subst hc; exact h1
theorem isSpan_lt {ok : Bool} {L H : List (Int × Nat)} {p : Nat × Nat × Int} (h : IsSpan ok L H p) : p.1 < 2 ^ 64 ∧ p.2.1 < 2 ^ 64 := by
  cases ok with
  | false => rw [h.1 rfl]; exact ⟨by decide, by decide⟩
  | true =>
    obtain ⟨lo, hi, h1, h2, rfl⟩ := h.2 rfl
    exact endsF_lt (low_rg h1).1 (high_rg h2).1
theorem do_lt {k la ha lb hb : Nat} {p : Nat × Nat × Int} (h : DoRel k la ha lb hb p) : p.1 < 2 ^ 64 ∧ p.2.1 < 2 ^ 64 := by
  match k, h with
  | 0, h => exact isSpan_lt h
  | 1, h => exact isSpan_lt h
  | 2, h => exact isSpan_lt h
  | (n + 3), h =>
    have h : IsQuot (okS la ha && okS lb hb) (zB lb hb) (quoC la ha lb hb) (quoC la ha lb hb) p := h
    cases hok : (okS la ha && okS lb hb) with
    | false => rw [h.1 hok]; exact ⟨by decide, by decide⟩
    | true =>
      cases hz : zB lb hb with
      | true => rw [h.2.1 hok hz]; exact ⟨by decide, by decide⟩
      | false =>
        obtain ⟨lo, hi, h1, h2, rfl⟩ := h.2.2 hok hz
        exact endsF_lt (low_rg h1).1 (high_rg h2).1
theorem do_grow {k la ha lb hb LA HA LB HB : Nat} {p q : Nat × Nat × Int} (a1 : okS la ha = true) (a2 : okS lb hb = true) (a3 : okS LA HA = true) (a4 : okS LB HB = true) (wa : Within la ha LA HA) (wb : Within lb hb LB HB)
    (hp : DoRel k la ha lb hb p) (hq : DoRel k LA HA LB HB q) (h0 : q.2.2 = 0) : p.2.2 = 0 ∧ inB p.1 p.2.1 q.1 q.2.1 = true := by
  have ok : (okS la ha && okS lb hb) = true := by rw [a1, a2]; rfl
  have OK : (okS LA HA && okS LB HB) = true := by rw [a3, a4]; rfl
  obtain ⟨f1, f2, l1⟩ := okS_iff.1 a2
  obtain ⟨F1, F2, l2⟩ := okS_iff.1 a4
  match k, hp, hq with
  | 0, hp, hq =>
    obtain ⟨lo, hi, h1, h2, rfl⟩ := hp.2 ok
    obtain ⟨LO, HI, h3, h4, rfl⟩ := hq.2 OK
    unfold Within at wa wb
    exact ends_grow (one_grow (low_one h1) (high_one h2) (low_one h3) (high_one h4) (by omega) (by omega) (by omega)) (low_rg h1).2 (high_rg h2).2 h0
  | 1, hp, hq =>
    obtain ⟨lo, hi, h1, h2, rfl⟩ := hp.2 ok
    obtain ⟨LO, HI, h3, h4, rfl⟩ := hq.2 OK
    unfold Within at wa wb
    exact ends_grow (one_grow (low_one h1) (high_one h2) (low_one h3) (high_one h4) (by omega) (by omega) (by omega)) (low_rg h1).2 (high_rg h2).2 h0
  | 2, hp, hq =>
    obtain ⟨lo, hi, h1, h2, rfl⟩ := hp.2 ok
    obtain ⟨LO, HI, h3, h4, rfl⟩ := hq.2 OK
    exact ends_grow (mul_grow wa wb h1 h2 h3 h4) (low_rg h1).2 (high_rg h2).2 h0
  | (n + 3), hp, hq =>
    have hp : IsQuot (okS la ha && okS lb hb) (zB lb hb) (quoC la ha lb hb) (quoC la ha lb hb) p := hp
    have hq : IsQuot (okS LA HA && okS LB HB) (zB LB HB) (quoC LA HA LB HB) (quoC LA HA LB HB) q := hq
    cases hZ : zB LB HB with
    | true => rw [hq.2.1 OK hZ] at h0; exact absurd h0 (by decide)
    | false =>
      have hS := side_of F1 F2 l2 hZ
      have hs := side_within wb hS
      have hz : zB lb hb = false := by
        rw [zB_iff f1 f2, decide_eq_false_iff_not]
        unfold Side at hs
        omega
      obtain ⟨lo, hi, h1, h2, rfl⟩ := hp.2.2 ok hz
      obtain ⟨LO, HI, h3, h4, rfl⟩ := hq.2.2 OK hZ
      exact ends_grow (quo_grow wa wb hS h1 h2 h3 h4) (low_rg h1).2 (high_rg h2).2 h0

/-! ### squares and their roots -/
theorem sq_nonneg (x : Int) : 0 ≤ x * x := by
  rcases Int.le_total 0 x with h | h
  · exact Int.mul_nonneg h h
  · exact Int.mul_nonneg_of_nonpos_of_nonpos h h
theorem sq_le {a b : Int} (h0 : 0 ≤ a) (h : a ≤ b) : a * a ≤ b * b := Int.mul_le_mul h h h0 (by omega)
theorem sq_le_neg {a b : Int} (h0 : a ≤ 0) (h : b ≤ a) : a * a ≤ b * b := by
  have := sq_le (a := -a) (b := -b) (by omega) (by omega)
  rw [Int.neg_mul_neg, Int.neg_mul_neg] at this
  exact this
theorem le_of_sq {a b : Int} (hb : 0 ≤ b) (h : a * a ≤ b * b) : a ≤ b := by
  rcases Int.lt_or_le b a with hlt | hle
  · exfalso
    have h1 : b * b ≤ b * a := Int.mul_le_mul_of_nonneg_left (Int.le_of_lt hlt) hb
    have h2 : b * a < a * a := Int.mul_lt_mul_of_pos_right hlt (by omega)
    omega
  · exact hle
theorem mem_sqrC {la ha : Nat} {c : Int × Nat} (h : c ∈ sqrC la ha) : ∃ t, (t = la ∨ t = ha) ∧ c = (Flt.sv t * Flt.sv t, 2 ^ Flt.K74) := by
  simp only [sqrC, List.mem_cons, List.not_mem_nil, or_false] at h
  rcases h with rfl | rfl
  · exact ⟨la, .inl rfl, rfl⟩
  · exact ⟨ha, .inr rfl, rfl⟩
theorem sqr_at (la ha : Nat) : (Flt.sv la * Flt.sv la, 2 ^ Flt.K74) ∈ sqrC la ha ∧ (Flt.sv ha * Flt.sv ha, 2 ^ Flt.K74) ∈ sqrC la ha := by
  unfold sqrC
  exact ⟨List.mem_cons_self, List.mem_cons_of_mem _ List.mem_cons_self⟩
theorem sqr_low_nonneg {la ha lo : Nat} (h : LowOf (sqrC la ha) lo) : 0 ≤ Flt.sv lo := by
  obtain ⟨⟨c, hc, h1⟩, _⟩ := h
  obtain ⟨t, _, rfl⟩ := mem_sqrC hc
  have := h1.2.2.2.2 0 fin_zero (by rw [sv_zero, Int.zero_mul]; exact sq_nonneg _)
  rw [sv_zero] at this
  exact this
theorem sqr_low_le {la ha lo hi : Nat} (h : LowOf (sqrC la ha) lo) (k : HighOf (sqrC la ha) hi) : Flt.sv lo ≤ Flt.sv hi :=
  h.le_high (sqrC_dens _ _) (sqrC_dens _ _) k ⟨_, (sqr_at la ha).1, _, (sqr_at la ha).1, Int.le_refl _⟩
theorem UU_nonneg : (0 : Int) ≤ ((2 ^ Flt.K74 : Nat) : Int) := Int.natCast_nonneg _
theorem sqr_high_grow {la ha LA HA hi HI : Nat} (wa : Within la ha LA HA) (h : HighOf (sqrC la ha) hi) (k : HighOf (sqrC LA HA) HI) : Flt.sv hi ≤ Flt.sv HI := by
  refine k.mono (sqrC_dens _ _) (sqrC_dens _ _) h fun c hc => ?_
  obtain ⟨t, ht, rfl⟩ := mem_sqrC hc
  unfold Within at wa
  have b1 : Flt.sv LA ≤ Flt.sv t := by rcases ht with rfl | rfl <;> omega
  have b2 : Flt.sv t ≤ Flt.sv HA := by rcases ht with rfl | rfl <;> omega
  rcases Int.le_total 0 (Flt.sv t) with h0 | h0
  · exact ⟨_, (sqr_at LA HA).2, Int.mul_le_mul_of_nonneg_right (sq_le h0 b2) UU_nonneg⟩
  · exact ⟨_, (sqr_at LA HA).1, Int.mul_le_mul_of_nonneg_right (sq_le_neg h0 b1) UU_nonneg⟩
theorem sqr_low_grow {la ha LA HA lo LO : Nat} (wa : Within la ha LA HA) (hs : 0 < Flt.sv LA ∨ Flt.sv HA < 0) (h : LowOf (sqrC la ha) lo) (k : LowOf (sqrC LA HA) LO) : Flt.sv LO ≤ Flt.sv lo := by
  refine k.mono (sqrC_dens _ _) (sqrC_dens _ _) h fun c hc => ?_
  obtain ⟨t, ht, rfl⟩ := mem_sqrC hc
  unfold Within at wa
  have b1 : Flt.sv LA ≤ Flt.sv t := by rcases ht with rfl | rfl <;> omega
  have b2 : Flt.sv t ≤ Flt.sv HA := by rcases ht with rfl | rfl <;> omega
  rcases hs with h0 | h0
  · exact ⟨_, (sqr_at LA HA).1, Int.mul_le_mul_of_nonneg_right (sq_le (by omega) b1) UU_nonneg⟩
  · exact ⟨_, (sqr_at LA HA).2, Int.mul_le_mul_of_nonneg_right (sq_le_neg (by omega) b2) UU_nonneg⟩
theorem sqr_lt {ok z : Bool} {L : List (Int × Nat)} {p : Nat × Nat × Int} (h : IsSqr ok z L p) : p.1 < 2 ^ 64 ∧ p.2.1 < 2 ^ 64 := by
  cases ok with
  | false => rw [h.1 rfl]; exact ⟨by decide, by decide⟩
  | true =>
    obtain ⟨lo, hi, h1, h2, rfl⟩ := h.2 rfl
    have := endsF_lt (low_rg h1).1 (high_rg h2).1
    exact ⟨by show (if z then 0 else _) < _; split; decide; exact this.1, this.2⟩
/-- A square that is told. -/
theorem sqr_told {la ha : Nat} {p : Nat × Nat × Int} (a1 : okS la ha = true) (hp : IsSqr (okS la ha) (zB la ha) (sqrC la ha) p) (h0 : p.2.2 = 0) :
    ∃ lo hi, LowOf (sqrC la ha) lo ∧ HighOf (sqrC la ha) hi ∧ Flt.Fin lo ∧ Flt.Fin hi ∧ p = (if zB la ha then 0 else pz lo, pz hi, 0) := by
  obtain ⟨lo, hi, h1, h2, rfl⟩ := hp.2 a1
  obtain ⟨f1, f2, e⟩ := endsF_zero h0
  refine ⟨lo, hi, h1, h2, f1, f2, ?_⟩
  rw [e]
theorem sqr_grow {la ha LA HA : Nat} {p q : Nat × Nat × Int} (a1 : okS la ha = true) (a3 : okS LA HA = true) (wa : Within la ha LA HA)
    (hp : IsSqr (okS la ha) (zB la ha) (sqrC la ha) p) (hq : IsSqr (okS LA HA) (zB LA HA) (sqrC LA HA) q) (h0 : q.2.2 = 0) : p.2.2 = 0 ∧ inB p.1 p.2.1 q.1 q.2.1 = true := by
  obtain ⟨LO, HI, H1, H2, F1, F2, rfl⟩ := sqr_told a3 hq h0
  obtain ⟨lo, hi, h1, h2, rfl⟩ := hp.2 a1
  have n1 := sqr_low_nonneg h1
  have n2 := sqr_low_le h1 h2
  have n3 := sqr_high_grow wa h2 H2
  have f1 : Flt.Fin lo := fin_between (low_rg h1).2 fin_zero F2 (by rw [sv_zero]; exact n1) (by omega)
  have f2 : Flt.Fin hi := fin_between (high_rg h2).2 fin_zero F2 (by rw [sv_zero]; omega) n3
  obtain ⟨g1, g2, l1⟩ := okS_iff.1 a1
  obtain ⟨G1, G2, l2⟩ := okS_iff.1 a3
  rw [endsF_fin f1 f2]
  refine ⟨rfl, ?_⟩
  show inB (if zB la ha then 0 else pz lo) (pz hi) (if zB LA HA then 0 else pz LO) (pz HI) = true
  have nl := sqr_low_nonneg H1
  cases hZ : zB LA HA with
  | true =>
    cases hz : zB la ha with
    | true =>
      show inB 0 (pz hi) 0 (pz HI) = true
      exact inB_of fin_zero (fin_pz f2) fin_zero (fin_pz F2) (Int.le_refl _) (by rw [sv_zero, sv_pz]; omega) (by rw [sv_pz, sv_pz]; exact n3)
    | false =>
      show inB (pz lo) (pz hi) 0 (pz HI) = true
      exact inB_of (fin_pz f1) (fin_pz f2) fin_zero (fin_pz F2) (by rw [sv_zero, sv_pz]; exact n1) (by rw [sv_pz, sv_pz]; exact n2) (by rw [sv_pz, sv_pz]; exact n3)
  | false =>
    rw [zB_iff G1 G2, decide_eq_false_iff_not] at hZ
    unfold Within at wa
    have hz : zB la ha = false := by
      rw [zB_iff g1 g2, decide_eq_false_iff_not]
      omega
    have n4 := sqr_low_grow (LA := LA) (HA := HA) (by unfold Within; exact wa) (by omega) h1 H1
    rw [hz]
    show inB (pz lo) (pz hi) (pz LO) (pz HI) = true
    exact inB_of (fin_pz f1) (fin_pz f2) (fin_pz F1) (fin_pz F2) (by rw [sv_pz, sv_pz]; exact n4) (by rw [sv_pz, sv_pz]; exact n2) (by rw [sv_pz, sv_pz]; exact n3)

/-! ### the root of the square -/
theorem sqr_ok {la ha : Nat} {p : Nat × Nat × Int} (a1 : okS la ha = true) (hp : IsSqr (okS la ha) (zB la ha) (sqrC la ha) p) : okS p.1 p.2.1 = true ∧ 0 ≤ Flt.sv p.2.1 := by
  obtain ⟨lo, hi, h1, h2, rfl⟩ := hp.2 a1
  have n1 := sqr_low_nonneg h1
  have n2 := sqr_low_le h1 h2
  show okS (if zB la ha then 0 else (endsF lo hi).1) (endsF lo hi).2.1 = true ∧ 0 ≤ Flt.sv (endsF lo hi).2.1
  by_cases hf : Flt.Fin lo ∧ Flt.Fin hi
  · rw [endsF_fin hf.1 hf.2]
    have hh : 0 ≤ Flt.sv (pz hi) := by rw [sv_pz]; omega
    cases zB la ha with
    | true => exact ⟨okS_iff.2 ⟨fin_zero, fin_pz hf.2, by show Flt.sv 0 ≤ _; rw [sv_zero]; exact hh⟩, hh⟩
    | false => exact ⟨okS_iff.2 ⟨fin_pz hf.1, fin_pz hf.2, by show Flt.sv (pz lo) ≤ _; rw [sv_pz, sv_pz]; exact n2⟩, hh⟩
  · have e : endsF lo hi = (0, 0, 6) := by
      unfold endsF
      rw [if_neg]
      intro k
      obtain ⟨k1, k2⟩ := Bool.and_eq_true_iff.1 k
      exact hf ⟨Flt.finB_iff.1 k1, Flt.finB_iff.1 k2⟩
    rw [e]
    cases zB la ha with
    | true => exact ⟨okS_iff.2 ⟨fin_zero, fin_zero, Int.le_refl _⟩, by show 0 ≤ Flt.sv 0; rw [sv_zero]; exact Int.le_refl _⟩
    | false => exact ⟨okS_iff.2 ⟨fin_zero, fin_zero, Int.le_refl _⟩, by show 0 ≤ Flt.sv 0; rw [sv_zero]; exact Int.le_refl _⟩
theorem sqrt_nought : Ieee.double.sqrt 0 = some 0 := by decide +kernel
theorem K74_below : 2 ^ Flt.K74 < Flt.val (Flt.inf - 1) := by
  have h1 := Flt.val_whole (m := 2) (by decide)
  have h2 : Flt.whole 2 < Flt.inf - 1 := by rw [Flt.inf_eq]; decide +kernel
  have h3 := Flt.val_lt h2
  have h4 : 0 < 2 ^ Flt.K74 := Nat.two_pow_pos _
  omega
/-- What is told of a root, both ends. -/
theorem root_told {x d u : Nat} (h : IsRoot x d u) (hf : Flt.Fin x) (h0 : x = 0 ∨ 0 < Flt.sv x) :
    Flt.Fin d ∧ Flt.Fin u ∧ (∀ t : Int, 0 ≤ t → Flt.sv x * UU ≤ t * t → Flt.sv d ≤ t) ∧ (∀ r : Nat, Flt.sgn r = false → Flt.Fin r → Flt.sv r * Flt.sv r ≤ Flt.sv x * UU → Flt.sv r ≤ Flt.sv u) := by
  rcases h0 with h0 | h0
  · subst h0
    have hn : ¬ Pos 0 := fun k => k.2.2 rfl
    obtain ⟨z, hz, hd, hu⟩ := h.1 hn
    have a := hz.2
    rw [sqrt_nought] at a
    have a : z = 0 := a
    rw [hd, hu, a]
    refine ⟨fin_zero, fin_zero, fun t ht _ => by rw [sv_zero]; exact ht, fun r hr _ hle => ?_⟩
    rw [sv_zero, Int.zero_mul] at hle
    rw [sv_zero]
    exact le_of_sq (Int.le_refl 0) (by rw [Int.zero_mul]; exact hle)
  · have hp := pos_sv.1 ⟨hf, h0⟩
    obtain ⟨r, hr, hd, hu⟩ := h.2 hp
    rw [← hd] at hr hu
    have hil := Flt.inf_lt
    have hr1 := hr.1
    have vx : Flt.sv x = Flt.val (Flt.rg x) := by unfold Flt.sv; rw [hp.2.1]; rfl
    have hlt : Flt.rg x < Flt.inf := hf
    have hb : d + 1 < Flt.inf := by
      rcases Nat.lt_or_ge (d + 1) Flt.inf with h' | h'
      · exact h'
      · exfalso
        have e : d = Flt.inf - 1 := by omega
        have k1 := hr.2.1
        have k2 := Flt.val_le (show Flt.rg x ≤ Flt.inf - 1 by omega)
        have k3 := K74_below
        rw [e] at k1
        have k4 : Flt.val (Flt.rg x) * 2 ^ Flt.K74 ≤ Flt.val (Flt.inf - 1) * 2 ^ Flt.K74 := Nat.mul_le_mul_right _ k2
        have k5 : Flt.val (Flt.inf - 1) * 2 ^ Flt.K74 < Flt.val (Flt.inf - 1) * Flt.val (Flt.inf - 1) := Nat.mul_lt_mul_of_pos_left k3 (by omega)
        omega
    have rd : ∀ y, y < Flt.inf → Flt.sv y = Flt.val y ∧ Flt.Fin y := fun y hy => by
      have e : Flt.rg y = y := by unfold Flt.rg; omega
      have s : Flt.sgn y = false := by unfold Flt.sgn; rw [show y / 2 ^ 63 = 0 by omega]; rfl
      exact ⟨by unfold Flt.sv; rw [s, e]; rfl, by unfold Flt.Fin; rw [e]; exact hy⟩
    obtain ⟨v1, g1⟩ := rd d hr1
    obtain ⟨v2, g2⟩ := rd (d + 1) hb
    have q1 : (Flt.val d : Int) * Flt.val d ≤ Flt.sv x * UU := by
      have := hr.2.1
      rw [vx]; unfold UU
      exact_mod_cast this
    have q2 : Flt.sv x * UU < (Flt.val (d + 1) : Int) * Flt.val (d + 1) := by
      have := hr.2.2
      rw [vx]; unfold UU
      exact_mod_cast this
    refine ⟨g1, by rw [hu]; split; exact g1; exact g2, fun t ht hle => ?_, fun y hy _ hle => ?_⟩
    · rw [v1]
      exact le_of_sq ht (Int.le_trans q1 hle)
    · rw [hu]
      split
      · rename_i he
        rw [v1]
        have : Flt.sv x * UU = (Flt.val d : Int) * Flt.val d := by
          rw [vx]; unfold UU
          exact_mod_cast he.symm
        exact le_of_sq (by omega) (by omega)
      · rw [v2]
        exact le_of_sq (by omega) (by omega)
end Go.Proofs.Ytjcknikgfcjhhaa
