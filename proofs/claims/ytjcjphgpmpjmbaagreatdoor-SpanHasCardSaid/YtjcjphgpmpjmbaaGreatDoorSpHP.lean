/-
  What two numbers of spans come to lies within the answers, plainly.
-/
import Derived.Test.YtjcjphgpmpjmbaaGreatDoorSpnGp
import Derived.Test.YtjcjphgpmpjmbaaGreatDoorFrDp
import Derived.Test.YtjcjphgpmpjmbaaGreatDoorSpnV
namespace Go.Proofs.YtjcjphgpmpjmbaaGreatDoor
open Go.RowKit

/-! ### products and quotients of numbers between -/
theorem lin_low {a b x y : Rat} (h1 : a ≤ x) (h2 : x ≤ b) : a * y ≤ x * y ∨ b * y ≤ x * y := by
  by_cases hy : 0 ≤ y
  · exact .inl (Rat.mul_le_mul_of_nonneg_right h1 hy)
  · right
    have hy2 : (0 : Rat) ≤ -y := by grind
    have := Rat.mul_le_mul_of_nonneg_right h2 hy2
    grind
theorem lin_high {a b x y : Rat} (h1 : a ≤ x) (h2 : x ≤ b) : x * y ≤ a * y ∨ x * y ≤ b * y := by
  by_cases hy : 0 ≤ y
  · exact .inr (Rat.mul_le_mul_of_nonneg_right h2 hy)
  · left
    have hy2 : (0 : Rat) ≤ -y := by grind
    have := Rat.mul_le_mul_of_nonneg_right h1 hy2
    grind
theorem lin_low' {c d x y : Rat} (h1 : c ≤ y) (h2 : y ≤ d) : x * c ≤ x * y ∨ x * d ≤ x * y := by
  have := lin_low (y := x) h1 h2
  rw [Rat.mul_comm x c, Rat.mul_comm x d, Rat.mul_comm x y]
  exact this
theorem lin_high' {c d x y : Rat} (h1 : c ≤ y) (h2 : y ≤ d) : x * y ≤ x * c ∨ x * y ≤ x * d := by
  have := lin_high (y := x) h1 h2
  rw [Rat.mul_comm x c, Rat.mul_comm x d, Rat.mul_comm x y]
  exact this
theorem corner_low {a b c d x y : Rat} (h1 : a ≤ x) (h2 : x ≤ b) (h3 : c ≤ y) (h4 : y ≤ d) : a * c ≤ x * y ∨ a * d ≤ x * y ∨ b * c ≤ x * y ∨ b * d ≤ x * y := by
  rcases lin_low (y := y) h1 h2 with k | k
  · rcases lin_low' (x := a) h3 h4 with j | j
    · exact .inl (Rat.le_trans j k)
    · exact .inr (.inl (Rat.le_trans j k))
  · rcases lin_low' (x := b) h3 h4 with j | j
    · exact .inr (.inr (.inl (Rat.le_trans j k)))
    · exact .inr (.inr (.inr (Rat.le_trans j k)))
theorem corner_high {a b c d x y : Rat} (h1 : a ≤ x) (h2 : x ≤ b) (h3 : c ≤ y) (h4 : y ≤ d) : x * y ≤ a * c ∨ x * y ≤ a * d ∨ x * y ≤ b * c ∨ x * y ≤ b * d := by
  rcases lin_high (y := y) h1 h2 with k | k
  · rcases lin_high' (x := a) h3 h4 with j | j
    · exact .inl (Rat.le_trans k j)
    · exact .inr (.inl (Rat.le_trans k j))
  · rcases lin_high' (x := b) h3 h4 with j | j
    · exact .inr (.inr (.inl (Rat.le_trans k j)))
    · exact .inr (.inr (.inr (Rat.le_trans k j)))
theorem inv_le {p q : Rat} (hp : 0 < p) (h : p ≤ q) : q⁻¹ ≤ p⁻¹ := by
  have hq : 0 < q := by grind
  have e1 : p * p⁻¹ = 1 := Rat.mul_inv_cancel p (by grind)
  have e2 : q * q⁻¹ = 1 := Rat.mul_inv_cancel q (by grind)
  have i1 : 0 < p⁻¹ := Rat.inv_pos.2 hp
  have i2 : 0 < q⁻¹ := Rat.inv_pos.2 hq
  have h3 := Rat.mul_le_mul_of_nonneg_right h (Rat.le_of_lt (Rat.mul_pos i1 i2))
  have e3 : p * (p⁻¹ * q⁻¹) = q⁻¹ := by rw [← Rat.mul_assoc, e1, Rat.one_mul]
  have e4 : q * (p⁻¹ * q⁻¹) = p⁻¹ := by rw [Rat.mul_comm p⁻¹, ← Rat.mul_assoc, e2, Rat.one_mul]
  rw [e3, e4] at h3
  exact h3
theorem neg_inv {t : Rat} (h : t ≠ 0) : (-t)⁻¹ = -(t⁻¹) := by
  have e1 : (-t) * (-t)⁻¹ = 1 := Rat.mul_inv_cancel (-t) (by grind)
  have e2 : t * t⁻¹ = 1 := Rat.mul_inv_cancel t h
  generalize (-t)⁻¹ = i at e1 ⊢
  generalize t⁻¹ = j at e2 ⊢
  grind
theorem inv_between {c d y : Rat} (h3 : c ≤ y) (h4 : y ≤ d) (h : 0 < c ∨ d < 0) : d⁻¹ ≤ y⁻¹ ∧ y⁻¹ ≤ c⁻¹ := by
  rcases h with h | h
  · exact ⟨inv_le (by grind) h4, inv_le h h3⟩
  · have a1 := inv_le (p := -d) (q := -y) (by grind) (by grind)
    have a2 := inv_le (p := -y) (q := -c) (by grind) (by grind)
    rw [neg_inv (t := y) (by grind), neg_inv (t := d) (by grind)] at a1
    rw [neg_inv (t := c) (by grind), neg_inv (t := y) (by grind)] at a2
    constructor <;> grind
/-! ### between the ends -/
theorem fr_mono {a b : Nat} : fr a ≤ fr b ↔ Flt.sv a ≤ Flt.sv b := by
  have h := divInt_lt (a := Flt.sv b) (b := Flt.sv a) (D := ((2 ^ Flt.K74 : Nat) : Int)) (by have := Nat.two_pow_pos Flt.K74; omega)
  unfold fr
  constructor
  · intro k
    rcases Int.lt_or_le (Flt.sv b) (Flt.sv a) with q | q
    · have := h.2 q
      exact absurd k (Rat.not_le.2 this)
    · exact q
  · intro k
    exact Rat.not_lt.1 (fun q => by have := h.1 q; omega)
theorem fr_one (v : Nat) : fr v = rz (Flt.sv v, 1) := by
  unfold fr rz
  rw [Nat.one_mul]
theorem low_under {L : List (Int × Nat)} {lo : Nat} (hd : Dens L) (h : LowOf L lo) (hf : Flt.Fin lo) : ∀ c ∈ L, fr lo ≤ rz c := by
  intro c hc
  obtain ⟨e, h1, h2⟩ := h.2 c hc
  have fe := h1.finite hf h2
  have h3 := h1.2.2.1 fe
  have hc2 := hd c hc
  rw [fr_one, rz_le Nat.one_pos hc2]
  have h4 := (mul_cut hc2 (a := Flt.sv lo) (b := Flt.sv e)).2 h2
  show Flt.sv lo * (c.2 : Int) ≤ c.1 * ((1 : Nat) : Int)
  omega
theorem high_over {L : List (Int × Nat)} {hi : Nat} (hd : Dens L) (h : HighOf L hi) (hf : Flt.Fin hi) : ∀ c ∈ L, rz c ≤ fr hi := by
  intro c hc
  obtain ⟨e, h1, h2⟩ := h.2 c hc
  have fe := h1.finite hf h2
  have h3 := h1.2.2.1 fe
  have hc2 := hd c hc
  rw [fr_one, rz_le hc2 Nat.one_pos]
  have h4 := (mul_cut hc2 (a := Flt.sv e) (b := Flt.sv hi)).2 h2
  show c.1 * ((1 : Nat) : Int) ≤ Flt.sv hi * (c.2 : Int)
  omega
/-- Told without an error, a span that has the number. -/
def Good (p : Nat × Nat × Int) (z : Rat) : Prop := p.2.2 = 0 → p.1 < 2 ^ 64 ∧ p.2.1 < 2 ^ 64 ∧ Flt.Fin p.1 ∧ Flt.Fin p.2.1 ∧ fr p.1 ≤ z ∧ z ≤ fr p.2.1
theorem fr_pz (v : Nat) : fr (pz v) = fr v := by
  unfold fr
  rw [sv_pz]
theorem good_ends {L H : List (Int × Nat)} {lo hi : Nat} {z : Rat} (hL : Dens L) (hH : Dens H) (h1 : LowOf L lo) (h2 : HighOf H hi) (k1 : ∃ c ∈ L, rz c ≤ z) (k2 : ∃ c ∈ H, z ≤ rz c) : Good (endsF lo hi) z := by
  intro h0
  obtain ⟨f1, f2, e⟩ := endsF_zero h0
  rw [e]
  obtain ⟨c, hc, hcz⟩ := k1
  obtain ⟨c', hc', hcz'⟩ := k2
  obtain ⟨_, _, q1⟩ := h1.1
  obtain ⟨_, _, q2⟩ := h2.1
  have l1 := endsF_lt q1.1 q2.1
  rw [e] at l1
  refine ⟨l1.1, l1.2, fin_pz f1, fin_pz f2, ?_, ?_⟩
  · show fr (pz lo) ≤ z
    rw [fr_pz]
    exact Rat.le_trans (low_under hL h1 f1 c hc) hcz
  · show z ≤ fr (pz hi)
    rw [fr_pz]
    exact Rat.le_trans hcz' (high_over hH h2 f2 c' hc')
theorem dens_one {z : Int} {n : Nat} (h : 0 < n) : Dens [(z, n)] := by
  intro c hc
  rw [List.mem_singleton] at hc
  subst hc
  exact h
def Inn (lo hi : Nat) (x : Rat) : Prop := fr lo ≤ x ∧ x ≤ fr hi
theorem good_add {la ha lb hb : Nat} {ok : Bool} {p : Nat × Nat × Int} {x y : Rat} (h : IsSpan ok (addL la ha lb hb) (addH la ha lb hb) p) (hx : Inn la ha x) (hy : Inn lb hb y) : Good p (x + y) := by
  cases ok with
  | false => rw [h.1 rfl]; intro h0; cases h0
  | true =>
    obtain ⟨lo, hi, h1, h2, rfl⟩ := h.2 rfl
    have e1 := opR_rz 0 la lb (fun c => absurd c (by decide))
    have e2 := opR_rz 0 ha hb (fun c => absurd c (by decide))
    have e1' : fr la + fr lb = rz (Flt.sv la + Flt.sv lb, 1) := e1
    have e2' : fr ha + fr hb = rz (Flt.sv ha + Flt.sv hb, 1) := e2
    refine good_ends (dens_one (by decide)) (dens_one (by decide)) h1 h2 ⟨_, List.mem_cons_self, ?_⟩ ⟨_, List.mem_cons_self, ?_⟩
    · rw [← e1']; have := hx.1; have := hy.1; grind
    · rw [← e2']; have := hx.2; have := hy.2; grind
theorem good_sub {la ha lb hb : Nat} {ok : Bool} {p : Nat × Nat × Int} {x y : Rat} (h : IsSpan ok (subL la ha lb hb) (subH la ha lb hb) p) (hx : Inn la ha x) (hy : Inn lb hb y) : Good p (x - y) := by
  cases ok with
  | false => rw [h.1 rfl]; intro h0; cases h0
  | true =>
    obtain ⟨lo, hi, h1, h2, rfl⟩ := h.2 rfl
    have e1 := opR_rz 1 la hb (fun c => absurd c (by decide))
    have e2 := opR_rz 1 ha lb (fun c => absurd c (by decide))
    have e1' : fr la - fr hb = rz (Flt.sv la - Flt.sv hb, 1) := e1
    have e2' : fr ha - fr lb = rz (Flt.sv ha - Flt.sv lb, 1) := e2
    refine good_ends (dens_one (by decide)) (dens_one (by decide)) h1 h2 ⟨_, List.mem_cons_self, ?_⟩ ⟨_, List.mem_cons_self, ?_⟩
    · rw [← e1']; have := hx.1; have := hy.2; grind
    · rw [← e2']; have := hx.2; have := hy.1; grind
theorem mul_mem (la ha lb hb : Nat) : (Flt.sv la * Flt.sv lb, 2 ^ Flt.K74) ∈ mulC la ha lb hb ∧ (Flt.sv la * Flt.sv hb, 2 ^ Flt.K74) ∈ mulC la ha lb hb ∧ (Flt.sv ha * Flt.sv lb, 2 ^ Flt.K74) ∈ mulC la ha lb hb ∧ (Flt.sv ha * Flt.sv hb, 2 ^ Flt.K74) ∈ mulC la ha lb hb :=
  ⟨List.mem_cons_self, List.mem_cons_of_mem _ List.mem_cons_self, List.mem_cons_of_mem _ (List.mem_cons_of_mem _ List.mem_cons_self), List.mem_cons_of_mem _ (List.mem_cons_of_mem _ (List.mem_cons_of_mem _ List.mem_cons_self))⟩
theorem mul_rz (u v : Nat) : fr u * fr v = rz (Flt.sv u * Flt.sv v, 2 ^ Flt.K74) := opR_rz 2 u v (fun c => absurd c (by decide))
theorem good_mul {la ha lb hb : Nat} {ok : Bool} {p : Nat × Nat × Int} {x y : Rat} (h : IsSpan ok (mulC la ha lb hb) (mulC la ha lb hb) p) (hx : Inn la ha x) (hy : Inn lb hb y) : Good p (x * y) := by
  cases ok with
  | false => rw [h.1 rfl]; intro h0; cases h0
  | true =>
    obtain ⟨lo, hi, h1, h2, rfl⟩ := h.2 rfl
    obtain ⟨m1, m2, m3, m4⟩ := mul_mem la ha lb hb
    refine good_ends (mulC_dens la ha lb hb) (mulC_dens la ha lb hb) h1 h2 ?_ ?_
    · rcases corner_low hx.1 hx.2 hy.1 hy.2 with k | k | k | k <;> rw [mul_rz] at k
      · exact ⟨_, m1, k⟩
      · exact ⟨_, m2, k⟩
      · exact ⟨_, m3, k⟩
      · exact ⟨_, m4, k⟩
    · rcases corner_high hx.1 hx.2 hy.1 hy.2 with k | k | k | k <;> rw [mul_rz] at k
      · exact ⟨_, m1, k⟩
      · exact ⟨_, m2, k⟩
      · exact ⟨_, m3, k⟩
      · exact ⟨_, m4, k⟩
theorem quo_mem (la ha lb hb : Nat) : (qn la lb, Flt.val (Flt.rg lb)) ∈ quoC la ha lb hb ∧ (qn la hb, Flt.val (Flt.rg hb)) ∈ quoC la ha lb hb ∧ (qn ha lb, Flt.val (Flt.rg lb)) ∈ quoC la ha lb hb ∧ (qn ha hb, Flt.val (Flt.rg hb)) ∈ quoC la ha lb hb :=
  ⟨List.mem_cons_self, List.mem_cons_of_mem _ List.mem_cons_self, List.mem_cons_of_mem _ (List.mem_cons_of_mem _ List.mem_cons_self), List.mem_cons_of_mem _ (List.mem_cons_of_mem _ (List.mem_cons_of_mem _ List.mem_cons_self))⟩
theorem quo_rz {u v : Nat} (h : Flt.rg v ≠ 0) : fr u / fr v = rz (qn u v, Flt.val (Flt.rg v)) := opR_rz 3 u v (fun _ => h)
theorem fr_sign (v : Nat) : (0 < Flt.sv v → 0 < fr v) ∧ (Flt.sv v < 0 → fr v < 0) := by
  have hp := unit_pos
  rw [fr_div]
  constructor
  · intro h
    have h2 : (0 : Rat) < (Flt.sv v : Rat) := Rat.intCast_pos.2 h
    rw [Rat.div_def]
    exact Rat.mul_pos h2 (Rat.inv_pos.2 hp)
  · intro h
    have h2 : (0 : Rat) < ((-(Flt.sv v) : Int) : Rat) := Rat.intCast_pos.2 (by omega)
    have h3 := Rat.mul_pos h2 (Rat.inv_pos.2 hp)
    rw [Rat.intCast_neg] at h3
    rw [Rat.div_def]
    grind
theorem good_quo {la ha lb hb : Nat} {ok : Bool} {p : Nat × Nat × Int} {x y : Rat} (b1 : ok = true → Flt.Fin lb ∧ Flt.Fin hb ∧ Flt.sv lb ≤ Flt.sv hb) (h : IsQuot ok (zB lb hb) (quoC la ha lb hb) (quoC la ha lb hb) p) (hx : Inn la ha x) (hy : Inn lb hb y) : Good p (x / y) := by
  cases ok with
  | false => rw [h.1 rfl]; intro h0; cases h0
  | true =>
    cases hz : zB lb hb with
    | true => rw [h.2.1 rfl hz]; intro h0; cases h0
    | false =>
      obtain ⟨lo, hi, h1, h2, rfl⟩ := h.2.2 rfl hz
      have hs := side_of (b1 rfl).1 (b1 rfl).2.1 (b1 rfl).2.2 hz
      obtain ⟨n1, n2⟩ := side_rg hs
      obtain ⟨m1, m2, m3, m4⟩ := quo_mem la ha lb hb
      have hsg : 0 < fr lb ∨ fr hb < 0 := by
        rcases hs with k | k
        · exact .inl ((fr_sign lb).1 (by first | exact k | omega))
        · exact .inr ((fr_sign hb).2 (by first | exact k | omega))
      obtain ⟨i1, i2⟩ := inv_between hy.1 hy.2 hsg
      have hd : Dens (quoC la ha lb hb) := by
        intro c hc
        simp only [quoC, List.mem_cons, List.not_mem_nil, or_false] at hc
        rcases hc with rfl | rfl | rfl | rfl
        · exact val_pos n1
        · exact val_pos n2
        · exact val_pos n1
        · exact val_pos n2
      have c1 : fr la * (fr hb)⁻¹ = rz (qn la hb, Flt.val (Flt.rg hb)) := by rw [← Rat.div_def, quo_rz n2]
      have c2 : fr la * (fr lb)⁻¹ = rz (qn la lb, Flt.val (Flt.rg lb)) := by rw [← Rat.div_def, quo_rz n1]
      have c3 : fr ha * (fr hb)⁻¹ = rz (qn ha hb, Flt.val (Flt.rg hb)) := by rw [← Rat.div_def, quo_rz n2]
      have c4 : fr ha * (fr lb)⁻¹ = rz (qn ha lb, Flt.val (Flt.rg lb)) := by rw [← Rat.div_def, quo_rz n1]
      have k1 := corner_low hx.1 hx.2 i1 i2
      have k2 := corner_high hx.1 hx.2 i1 i2
      rw [c1, c2, c3, c4] at k1 k2
      rw [Rat.div_def]
      refine good_ends hd hd h1 h2 ?_ ?_
      · rcases k1 with k | k | k | k
        · exact ⟨_, m2, k⟩
        · exact ⟨_, m1, k⟩
        · exact ⟨_, m4, k⟩
        · exact ⟨_, m3, k⟩
      · rcases k2 with k | k | k | k
        · exact ⟨_, m2, k⟩
        · exact ⟨_, m1, k⟩
        · exact ⟨_, m4, k⟩
        · exact ⟨_, m3, k⟩
theorem sq_low {a b x : Rat} (h1 : a ≤ x) (h2 : x ≤ b) (h : 0 < a ∨ b < 0) : a * a ≤ x * x ∨ b * b ≤ x * x := by
  rcases h with h | h
  · left
    have k1 := Rat.mul_le_mul_of_nonneg_right h1 (show (0 : Rat) ≤ a by grind)
    have k2 := Rat.mul_le_mul_of_nonneg_right h1 (show (0 : Rat) ≤ x by grind)
    rw [Rat.mul_comm a x] at k2
    exact Rat.le_trans k1 k2
  · right
    have k1 := Rat.mul_le_mul_of_nonneg_right (show -b ≤ -x by grind) (show (0 : Rat) ≤ -b by grind)
    have k2 := Rat.mul_le_mul_of_nonneg_right (show -b ≤ -x by grind) (show (0 : Rat) ≤ -x by grind)
    grind
theorem sq_high {a b x : Rat} (h1 : a ≤ x) (h2 : x ≤ b) : x * x ≤ a * a ∨ x * x ≤ b * b := by
  by_cases hx : 0 ≤ x
  · right
    have k1 := Rat.mul_le_mul_of_nonneg_right h2 hx
    have k2 := Rat.mul_le_mul_of_nonneg_right h2 (show (0 : Rat) ≤ b by grind)
    rw [Rat.mul_comm x b] at k2
    exact Rat.le_trans k1 k2
  · left
    have k1 := Rat.mul_le_mul_of_nonneg_right (show -x ≤ -a by grind) (show (0 : Rat) ≤ -x by grind)
    have k2 := Rat.mul_le_mul_of_nonneg_right (show -x ≤ -a by grind) (show (0 : Rat) ≤ -a by grind)
    grind
theorem sq_pos (x : Rat) : 0 ≤ x * x := by
  by_cases hx : 0 ≤ x
  · exact Rat.mul_nonneg hx hx
  · have := Rat.mul_nonneg (show (0 : Rat) ≤ -x by grind) (show (0 : Rat) ≤ -x by grind)
    grind
theorem sqr_mem (la ha : Nat) : (Flt.sv la * Flt.sv la, 2 ^ Flt.K74) ∈ sqrC la ha ∧ (Flt.sv ha * Flt.sv ha, 2 ^ Flt.K74) ∈ sqrC la ha := ⟨List.mem_cons_self, List.mem_cons_of_mem _ List.mem_cons_self⟩
theorem good_sqr {la ha : Nat} {ok : Bool} {p : Nat × Nat × Int} {x : Rat} (b1 : ok = true → Flt.Fin la ∧ Flt.Fin ha ∧ Flt.sv la ≤ Flt.sv ha) (h : IsSqr ok (zB la ha) (sqrC la ha) p) (hx : Inn la ha x) : Good p (x * x) := by
  cases ok with
  | false => rw [h.1 rfl]; intro h0; cases h0
  | true =>
    obtain ⟨lo, hi, h1, h2, rfl⟩ := h.2 rfl
    obtain ⟨m1, m2⟩ := sqr_mem la ha
    have hd : Dens (sqrC la ha) := by
      intro c hc
      simp only [sqrC, List.mem_cons, List.not_mem_nil, or_false] at hc
      rcases hc with rfl | rfl <;> exact Nat.two_pow_pos _
    have kh : ∃ c ∈ sqrC la ha, x * x ≤ rz c := by
      rcases sq_high hx.1 hx.2 with k | k <;> rw [mul_rz] at k
      · exact ⟨_, m1, k⟩
      · exact ⟨_, m2, k⟩
    intro h0
    obtain ⟨f1, f2, e⟩ := endsF_zero (show (endsF lo hi).2.2 = 0 from h0)
    obtain ⟨_, _, q1⟩ := h1.1
    obtain ⟨_, _, q2⟩ := h2.1
    have l1 := endsF_lt q1.1 q2.1
    rw [e] at l1 ⊢
    obtain ⟨c', hc', hcz'⟩ := kh
    have hup : x * x ≤ fr (pz hi) := by
      rw [fr_pz]
      exact Rat.le_trans hcz' (high_over hd h2 f2 c' hc')
    cases hz : zB la ha with
    | true =>
      refine ⟨by show (0 : Nat) < _; decide, l1.2, fin_zero, fin_pz f2, ?_, hup⟩
      show fr 0 ≤ x * x
      have h00 : fr 0 = 0 := by
        have := fr_nought (v := 0) sv_zero
        exact Rat.ext (by rw [this.1]; rfl) (by rw [this.2]; rfl)
      rw [h00]
      exact sq_pos x
    | false =>
      have hs := side_of (b1 rfl).1 (b1 rfl).2.1 (b1 rfl).2.2 hz
      have hsg : 0 < fr la ∨ fr ha < 0 := by
        rcases hs with k | k
        · exact .inl ((fr_sign la).1 k.1)
        · exact .inr ((fr_sign ha).2 k.2)
      refine ⟨l1.1, l1.2, fin_pz f1, fin_pz f2, ?_, hup⟩
      show fr (pz lo) ≤ x * x
      rw [fr_pz]
      rcases sq_low hx.1 hx.2 hsg with k | k <;> rw [mul_rz] at k
      · exact Rat.le_trans (low_under hd h1 f1 _ m1) k
      · exact Rat.le_trans (low_under hd h1 f1 _ m2) k
theorem good_of {f : LmE} {p : Nat × Nat × Int} (h : SpOf f p) : Good p (rv f) := by
  cases ho : okB f with
  | false => rw [h.1 ho]; intro h0; cases h0
  | true =>
    obtain ⟨d, u, a1, a2, rfl⟩ := h.2 ho
    intro h0
    obtain ⟨f1, f2, e⟩ := endsF_zero h0
    have l1 := endsF_lt a1.1 a2.1
    rw [e] at l1 ⊢
    refine ⟨l1.1, l1.2, fin_pz f1, fin_pz f2, ?_, ?_⟩
    · show fr (pz d) ≤ rv f
      rw [fr_pz]
      exact Rat.not_lt.1 (fun k => by have := lt_fr.1 k; have := a1.2.2.1 f1; omega)
    · show rv f ≤ fr (pz u)
      rw [fr_pz]
      exact Rat.not_lt.1 (fun k => by have := fr_lt.1 k; have := a2.2.2.1 f2; omega)
/-- A span that has a number is told so. -/
theorem good_has {p : Nat × Nat × Int} {f : LmE} {z : Rat} (h : Good p z) (h0 : p.2.2 = 0) (ho : okB f = true) (hv : rv f = z) : p.1 < 2 ^ 64 ∧ p.2.1 < 2 ^ 64 ∧ hasV p.1 p.2.1 f = (true, 0) := by
  obtain ⟨a1, a2, a3, a4, a5, a6⟩ := h h0
  refine ⟨a1, a2, ?_⟩
  have hs : okS p.1 p.2.1 = true := okS_iff.2 ⟨a3, a4, fr_mono.1 (Rat.le_trans a5 a6)⟩
  have r1 : rcmp (fr p.1) z ≤ 0 := by
    unfold rcmp
    split
    · decide
    · rw [if_neg (Rat.not_lt.2 a5)]; decide
  have r2 : rcmp z (fr p.2.1) ≤ 0 := by
    unfold rcmp
    split
    · decide
    · rw [if_neg (Rat.not_lt.2 a6)]; decide
  unfold hasV hasB
  rw [hs, ho, hv, decide_eq_true r1, decide_eq_true r2]
  rfl
/-! ### a number at a part of the way -/
def part (lo hi : Nat) (u v : Int) : Rat := fr lo + (fr hi - fr lo) * Rat.divInt u v
theorem part_inn {lo hi : Nat} {u v : Int} (hle : Flt.sv lo ≤ Flt.sv hi) (hv : 1 ≤ v) (h0 : 0 ≤ u) (h1 : u ≤ v) : Inn lo hi (part lo hi u v) := by
  have hlh : fr lo ≤ fr hi := fr_mono.2 hle
  have hvr : (0 : Rat) < (v : Rat) := Rat.intCast_pos.2 (by omega)
  have t0 : (0 : Rat) ≤ Rat.divInt u v := by
    rw [Rat.divInt_eq_div, Rat.div_def]
    exact Rat.mul_nonneg (Rat.intCast_nonneg.2 h0) (Rat.le_of_lt (Rat.inv_pos.2 hvr))
  have t1 : Rat.divInt u v ≤ 1 := by
    have h2 : (u : Rat) ≤ (v : Rat) := Rat.intCast_le_intCast.2 h1
    have h3 := Rat.mul_le_mul_of_nonneg_right h2 (Rat.le_of_lt (Rat.inv_pos.2 hvr))
    rw [Rat.mul_inv_cancel _ (by grind)] at h3
    rw [Rat.divInt_eq_div, Rat.div_def]
    exact h3
  unfold part
  generalize Rat.divInt u v = t at t0 t1
  have k0 := Rat.mul_nonneg (show (0 : Rat) ≤ fr hi - fr lo by grind) t0
  have k1 := Rat.mul_nonneg (show (0 : Rat) ≤ fr hi - fr lo by grind) (show (0 : Rat) ≤ 1 - t by grind)
  constructor
  · grind
  · grind
end Go.Proofs.YtjcjphgpmpjmbaaGreatDoor
