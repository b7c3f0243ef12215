/-
  What the references' spans tell of the four operations is what the program's tell, plainly.
-/
import Derived.Test.YtcjpocepgkfkaaaFrX
import Derived.Test.YtcjpocepgkfkaaaSpnDo
namespace Go.Proofs.Ytcjpocepgkfkaaa
open Go.RowKit

/-- One corner of an operation. -/
def cz (k x y : Nat) : Int × Nat := match k with
  | 0 => (Flt.sv x + Flt.sv y, 1)
  | 1 => (Flt.sv x - Flt.sv y, 1)
  | 2 => (Flt.sv x * Flt.sv y, 2 ^ Flt.K74)
  | _ => (qn x y, Flt.val (Flt.rg y))
def opR (k : Nat) (x y : Rat) : Rat := match k with
  | 0 => x + y
  | 1 => x - y
  | 2 => x * y
  | _ => x / y
def rz (c : Int × Nat) : Rat := Rat.divInt c.1 (((c.2 * 2 ^ Flt.K74 : Nat)) : Int)
theorem fr_div (v : Nat) : fr v = (Flt.sv v : Rat) / ((2 ^ Flt.K74 : Nat) : Rat) := by
  unfold fr
  rw [Rat.divInt_eq_div]
  rfl
theorem rz_div (c : Int × Nat) : rz c = (c.1 : Rat) / (((c.2 : Rat)) * ((2 ^ Flt.K74 : Nat) : Rat)) := by
  unfold rz
  rw [Rat.divInt_eq_div, ← Rat.natCast_mul]
  rfl
theorem unit_pos : (0 : Rat) < ((2 ^ Flt.K74 : Nat) : Rat) := Rat.natCast_pos.2 (Nat.two_pow_pos _)
theorem opR_rz (k x y : Nat) (h : 3 ≤ k → Flt.rg y ≠ 0) : opR k (fr x) (fr y) = rz (cz k x y) := by
  have hp := unit_pos
  obtain ⟨K, hK⟩ : ∃ K, 2 ^ Flt.K74 = K := ⟨_, rfl⟩
  match k, h with
  | 0, _ =>
    show fr x + fr y = rz (Flt.sv x + Flt.sv y, 1)
    rw [fr_div, fr_div, rz_div]
    rw [hK] at hp ⊢
    simp only [Rat.intCast_add]
    grind
  | 1, _ =>
    show fr x - fr y = rz (Flt.sv x - Flt.sv y, 1)
    rw [fr_div, fr_div, rz_div]
    rw [hK] at hp ⊢
    simp only [Rat.intCast_sub]
    grind
  | 2, _ =>
    show fr x * fr y = rz (Flt.sv x * Flt.sv y, 2 ^ Flt.K74)
    rw [fr_div, fr_div, rz_div]
    simp only [hK] at hp ⊢
    simp only [Rat.intCast_mul]
    grind
  | (j + 3), h =>
    show fr x / fr y = rz (qn x y, Flt.val (Flt.rg y))
    have hy := h (by omega)
    rw [fr_div, fr_div, rz_div]
    unfold qn
    simp only [hK] at hp ⊢
    have hv := val_pos hy
    have hsv : Flt.sv y = if Flt.sgn y then -(Flt.val (Flt.rg y) : Int) else Flt.val (Flt.rg y) := rfl
    rw [hsv]
    obtain ⟨V, hV⟩ : ∃ V, Flt.val (Flt.rg y) = V := ⟨_, rfl⟩
    rw [hV] at hv ⊢
    have hvr : (0 : Rat) < (V : Rat) := Rat.natCast_pos.2 hv
    generalize Flt.sv x = a
    cases Flt.sgn y with
    | true =>
      simp only [if_true, Rat.intCast_mul, Rat.intCast_neg, Rat.intCast_natCast]
      grind
    | false =>
      simp only [Bool.false_eq_true, if_false, Rat.intCast_mul, Rat.intCast_natCast]
      grind
theorem rz_cross (c : Int × Nat) (hc : 0 < c.2) : (rz c).num * (((2 ^ Flt.K74 : Nat)) : Int) * (c.2 : Int) = c.1 * ((rz c).den : Int) := by
  have hp : ((c.2 * 2 ^ Flt.K74 : Nat) : Int) ≠ 0 := by
    have := Nat.mul_pos hc (Nat.two_pow_pos Flt.K74)
    omega
  have h := Rat.num_divInt_den (rz c)
  have h2 : Rat.divInt (rz c).num ((rz c).den : Int) = Rat.divInt c.1 ((c.2 * 2 ^ Flt.K74 : Nat) : Int) := h
  rw [Rat.divInt_eq_divInt_iff (by have := (rz c).den_nz; omega) hp] at h2
  rw [Int.mul_assoc, ← Int.natCast_mul, Nat.mul_comm]
  exact h2
theorem rat_le_mul {a b m : Rat} (hm : 0 < m) : a ≤ b ↔ a * m ≤ b * m := by
  have h1 := Rat.mul_lt_mul_of_pos_right (a := b) (b := a) (c := m)
  constructor
  · intro h
    exact Rat.mul_le_mul_of_nonneg_right h (Rat.le_of_lt hm)
  · intro h
    grind
theorem rz_le {c e : Int × Nat} (hc : 0 < c.2) (he : 0 < e.2) : rz c ≤ rz e ↔ c.1 * (e.2 : Int) ≤ e.1 * (c.2 : Int) := by
  have hp := unit_pos
  obtain ⟨K, hK⟩ : ∃ K, 2 ^ Flt.K74 = K := ⟨_, rfl⟩
  have h1 : (0 : Rat) < (c.2 : Rat) := Rat.natCast_pos.2 hc
  have h2 : (0 : Rat) < (e.2 : Rat) := Rat.natCast_pos.2 he
  have e1 := rz_div c
  have e2 := rz_div e
  rw [hK] at hp e1 e2
  have m1 : (0 : Rat) < (c.2 : Rat) * (K : Rat) := Rat.mul_pos h1 hp
  have m2 : (0 : Rat) < (e.2 : Rat) * (K : Rat) := Rat.mul_pos h2 hp
  have h3 : rz c * ((c.2 : Rat) * (K : Rat)) = (c.1 : Rat) := by rw [e1]; exact Rat.div_mul_cancel (fun h => by rw [h] at m1; exact absurd m1 (by decide))
  have h4 : rz e * ((e.2 : Rat) * (K : Rat)) = (e.1 : Rat) := by rw [e2]; exact Rat.div_mul_cancel (fun h => by rw [h] at m2; exact absurd m2 (by decide))
  have h5 : (c.1 * (e.2 : Int) ≤ e.1 * (c.2 : Int)) ↔ ((c.1 : Rat) * (e.2 : Rat) ≤ (e.1 : Rat) * (c.2 : Rat)) := by
    rw [← Rat.intCast_le_intCast, Rat.intCast_mul, Rat.intCast_mul, Rat.intCast_natCast, Rat.intCast_natCast]
  rw [h5, ← h3, ← h4]
  have hm : (0 : Rat) < (c.2 : Rat) * (K : Rat) * (e.2 : Rat) := Rat.mul_pos (Rat.mul_pos h1 hp) h2
  have ea : rz c * ((c.2 : Rat) * (K : Rat)) * (e.2 : Rat) = rz c * ((c.2 : Rat) * (K : Rat) * (e.2 : Rat)) := by grind
  have eb : rz e * ((e.2 : Rat) * (K : Rat)) * (c.2 : Rat) = rz e * ((c.2 : Rat) * (K : Rat) * (e.2 : Rat)) := by grind
  rw [ea, eb]
  exact rat_le_mul hm
theorem low_rz {L : List (Int × Nat)} {c : Int × Nat} {lo d : Nat} (hL : Dens L) (hc : 0 < c.2) (h : LowOf L lo) (k : DownR (rz c) d) (h1 : ∀ e ∈ L, rz c ≤ rz e) (h2 : ∃ e ∈ L, rz e ≤ rz c) : Flt.sv lo = Flt.sv d := by
  have hx := rz_cross c hc
  have hq := (rz c).den_pos
  obtain ⟨e, he, hle⟩ := h2
  obtain ⟨f, hf1, hf2⟩ := h.2 e he
  have b1 : Flt.sv lo ≤ Flt.sv d := by
    refine Int.le_trans hf2 (Down.mono hf1 k (hL e he) hq ?_)
    have h3 := (rz_le (hL e he) hc).1 hle
    have h4 : e.1 * (c.2 : Int) * ((rz c).den : Int) ≤ c.1 * (e.2 : Int) * ((rz c).den : Int) := Int.mul_le_mul_of_nonneg_right h3 (by omega)
    have h5 : c.1 * (e.2 : Int) * ((rz c).den : Int) = (rz c).num * ((2 ^ Flt.K74 : Nat) : Int) * (e.2 : Int) * (c.2 : Int) := by
      rw [Int.mul_right_comm c.1, ← hx, Int.mul_right_comm _ (c.2 : Int)]
    rw [h5, Int.mul_right_comm e.1] at h4
    exact Int.le_of_mul_le_mul_right h4 (by omega)
  obtain ⟨g, hg, hgd⟩ := h.1
  have b2 : Flt.sv d ≤ Flt.sv lo := by
    refine Down.mono k hgd hq (hL g hg) ?_
    have h3 := (rz_le hc (hL g hg)).1 (h1 g hg)
    have h4 : c.1 * (g.2 : Int) * ((rz c).den : Int) ≤ g.1 * (c.2 : Int) * ((rz c).den : Int) := Int.mul_le_mul_of_nonneg_right h3 (by omega)
    have h5 : c.1 * (g.2 : Int) * ((rz c).den : Int) = (rz c).num * ((2 ^ Flt.K74 : Nat) : Int) * (g.2 : Int) * (c.2 : Int) := by
      rw [Int.mul_right_comm c.1, ← hx, Int.mul_right_comm _ (c.2 : Int)]
    rw [h5, Int.mul_right_comm g.1] at h4
    exact Int.le_of_mul_le_mul_right h4 (by omega)
  omega
theorem high_rz {L : List (Int × Nat)} {c : Int × Nat} {hi d : Nat} (hL : Dens L) (hc : 0 < c.2) (h : HighOf L hi) (k : UpR (rz c) d) (h1 : ∀ e ∈ L, rz e ≤ rz c) (h2 : ∃ e ∈ L, rz c ≤ rz e) : Flt.sv hi = Flt.sv d := by
  have hx := rz_cross c hc
  have hq := (rz c).den_pos
  obtain ⟨e, he, hle⟩ := h2
  obtain ⟨f, hf1, hf2⟩ := h.2 e he
  have b1 : Flt.sv d ≤ Flt.sv hi := by
    refine Int.le_trans (Up.mono k hf1 hq (hL e he) ?_) hf2
    have h3 := (rz_le hc (hL e he)).1 hle
    have h4 : c.1 * (e.2 : Int) * ((rz c).den : Int) ≤ e.1 * (c.2 : Int) * ((rz c).den : Int) := Int.mul_le_mul_of_nonneg_right h3 (by omega)
    have h5 : c.1 * (e.2 : Int) * ((rz c).den : Int) = (rz c).num * ((2 ^ Flt.K74 : Nat) : Int) * (e.2 : Int) * (c.2 : Int) := by
      rw [Int.mul_right_comm c.1, ← hx, Int.mul_right_comm _ (c.2 : Int)]
    rw [h5, Int.mul_right_comm e.1] at h4
    exact Int.le_of_mul_le_mul_right h4 (by omega)
  obtain ⟨g, hg, hgd⟩ := h.1
  have b2 : Flt.sv hi ≤ Flt.sv d := by
    refine Up.mono hgd k (hL g hg) hq ?_
    have h3 := (rz_le (hL g hg) hc).1 (h1 g hg)
    have h4 : g.1 * (c.2 : Int) * ((rz c).den : Int) ≤ c.1 * (g.2 : Int) * ((rz c).den : Int) := Int.mul_le_mul_of_nonneg_right h3 (by omega)
    have h5 : c.1 * (g.2 : Int) * ((rz c).den : Int) = (rz c).num * ((2 ^ Flt.K74 : Nat) : Int) * (g.2 : Int) * (c.2 : Int) := by
      rw [Int.mul_right_comm c.1, ← hx, Int.mul_right_comm _ (c.2 : Int)]
    rw [h5, Int.mul_right_comm g.1] at h4
    exact Int.le_of_mul_le_mul_right h4 (by omega)
  omega
theorem pz_of_sv {x y : Nat} (hx : x < 2 ^ 64) (hy : y < 2 ^ 64) (h : Flt.sv x = Flt.sv y) : pz x = pz y ∧ Flt.finB x = Flt.finB y := by
  have e : Flt.rg x = Flt.rg y := by
    apply Flt.val_inj
    have := h
    unfold Flt.sv at this
    split at this <;> split at this <;> omega
  refine ⟨?_, by unfold Flt.finB; rw [e]⟩
  unfold pz
  rw [e]
  split
  · rfl
  · rename_i h0
    have hv := val_pos h0
    have hs : Flt.sgn x = Flt.sgn y := by
      have := h
      unfold Flt.sv at this
      rw [e] at this
      cases h1 : Flt.sgn x <;> cases h2 : Flt.sgn y <;> first | rfl | (rw [h1, h2] at this; simp at this; omega)
    exact (Flt.word_eq x hx).symm.trans (by rw [hs, e]; exact Flt.word_eq y hy)
theorem ends_of_sv {lo hi d u : Nat} (h1 : lo < 2 ^ 64) (h2 : hi < 2 ^ 64) (h3 : d < 2 ^ 64) (h4 : u < 2 ^ 64) (a : Flt.sv lo = Flt.sv d) (b : Flt.sv hi = Flt.sv u) : endsF lo hi = endsF d u := by
  obtain ⟨a1, a2⟩ := pz_of_sv h1 h3 a
  obtain ⟨b1, b2⟩ := pz_of_sv h2 h4 b
  unfold endsF
  rw [a1, a2, b1, b2]
/-- The corners of an operation on two spans. -/
def cor (k la ha lb hb j : Nat) : Int × Nat := cz k (if j < 2 then la else ha) (if j % 2 = 0 then lb else hb)
def corR (k la ha lb hb j : Nat) : Rat := opR k (fr (if j < 2 then la else ha)) (fr (if j % 2 = 0 then lb else hb))
/-- What the reference tells of an operation on two spans. -/
def DoR (k la ha lb hb : Nat) (r : Nat × Nat × Int) : Prop :=
  ((okS la ha && okS lb hb) = false → r = (0, 0, 1)) ∧ ((okS la ha && okS lb hb) = true → k = 3 → zB lb hb = true → r = (0, 0, 3)) ∧
  ((okS la ha && okS lb hb) = true → (k = 3 → zB lb hb = false) → ∃ a b lo hi, a < 4 ∧ b < 4 ∧ (∀ j, j < 4 → corR k la ha lb hb a ≤ corR k la ha lb hb j ∧ corR k la ha lb hb j ≤ corR k la ha lb hb b) ∧
    DownR (corR k la ha lb hb a) lo ∧ UpR (corR k la ha lb hb b) hi ∧ r = endsF lo hi)
theorem four_cases {P : Nat → Prop} (h0 : P 0) (h1 : P 1) (h2 : P 2) (h3 : P 3) : ∀ j, j < 4 → P j := by
  intro j hj
  match j, hj with
  | 0, _ => exact h0
  | 1, _ => exact h1
  | 2, _ => exact h2
  | 3, _ => exact h3
theorem do_close {k la ha lb hb : Nat} {L H : List (Int × Nat)} {lo hi : Nat} {r : Nat × Nat × Int} (hr : ∀ j, j < 4 → corR k la ha lb hb j = rz (cor k la ha lb hb j)) (hd : ∀ j, j < 4 → 0 < (cor k la ha lb hb j).2)
    (hL : ∀ e ∈ L, ∃ j, j < 4 ∧ e = cor k la ha lb hb j) (hL2 : ∀ j, j < 4 → ∃ e ∈ L, rz e ≤ rz (cor k la ha lb hb j)) (hH : ∀ e ∈ H, ∃ j, j < 4 ∧ e = cor k la ha lb hb j) (hH2 : ∀ j, j < 4 → ∃ e ∈ H, rz (cor k la ha lb hb j) ≤ rz e)
    (h1 : LowOf L lo) (h2 : HighOf H hi)
    (h : ∃ a b lo hi, a < 4 ∧ b < 4 ∧ (∀ j, j < 4 → corR k la ha lb hb a ≤ corR k la ha lb hb j ∧ corR k la ha lb hb j ≤ corR k la ha lb hb b) ∧ DownR (corR k la ha lb hb a) lo ∧ UpR (corR k la ha lb hb b) hi ∧ r = endsF lo hi) : endsF lo hi = r := by
  obtain ⟨a, b, d, u, ha, hb, hall, hD, hU, rfl⟩ := h
  have dL : Dens L := fun e he => by obtain ⟨j, hj, rfl⟩ := hL e he; exact hd j hj
  have dH : Dens H := fun e he => by obtain ⟨j, hj, rfl⟩ := hH e he; exact hd j hj
  rw [hr a ha] at hD
  rw [hr b hb] at hU
  have e1 := low_rz dL (hd a ha) h1 hD (fun e he => by
    obtain ⟨j, hj, rfl⟩ := hL e he
    have := (hall j hj).1
    rwa [hr a ha, hr j hj] at this) (hL2 a ha)
  have e2 := high_rz dH (hd b hb) h2 hU (fun e he => by
    obtain ⟨j, hj, rfl⟩ := hH e he
    have := (hall j hj).2
    rwa [hr b hb, hr j hj] at this) (hH2 b hb)
  obtain ⟨c1, _, hc1⟩ := h1.1
  obtain ⟨c2, _, hc2⟩ := h2.1
  exact ends_of_sv hc1.1 hc2.1 hD.1 hU.1 e1 e2
theorem do_same {k la ha lb hb : Nat} (hk : k < 4) {p r : Nat × Nat × Int} (hp : DoRel k la ha lb hb p) (hr : DoR k la ha lb hb r) : p = r := by
  cases hok : (okS la ha && okS lb hb) with
  | false =>
    rw [hr.1 hok]
    match k, hk, hp with
    | 0, _, hp => exact hp.1 hok
    | 1, _, hp => exact hp.1 hok
    | 2, _, hp => exact hp.1 hok
    | 3, _, hp => exact hp.1 hok
  | true =>
    have hok2 := hok
    rw [Bool.and_eq_true] at hok2
    obtain ⟨a1, a2, a3⟩ := okS_iff.1 hok2.1
    obtain ⟨b1, b2, b3⟩ := okS_iff.1 hok2.2
    match k, hk, hp, hr with
    | 0, _, hp, hr =>
      obtain ⟨lo, hi, h1, h2, rfl⟩ := hp.2 hok
      have hd : ∀ j, j < 4 → 0 < (cor 0 la ha lb hb j).2 := fun j _ => Nat.one_pos
      refine do_close (fun j _ => opR_rz 0 _ _ (by omega)) hd ?_ ?_ ?_ ?_ h1 h2 (hr.2.2 hok (by omega))
      · intro e he
        exact ⟨0, by decide, by simpa [addL, cor, cz] using he⟩
      · intro j hj
        refine ⟨_, List.mem_cons_self, (rz_le Nat.one_pos (hd j hj)).2 ?_⟩
        revert j
        exact four_cases (by simp [cor, cz] <;> omega) (by simp [cor, cz] <;> omega) (by simp [cor, cz] <;> omega) (by simp [cor, cz] <;> omega)
      · intro e he
        exact ⟨3, by decide, by simpa [addH, cor, cz] using he⟩
      · intro j hj
        refine ⟨_, List.mem_cons_self, (rz_le (hd j hj) Nat.one_pos).2 ?_⟩
        revert j
        exact four_cases (by simp [cor, cz] <;> omega) (by simp [cor, cz] <;> omega) (by simp [cor, cz] <;> omega) (by simp [cor, cz] <;> omega)
    | 1, _, hp, hr =>
      obtain ⟨lo, hi, h1, h2, rfl⟩ := hp.2 hok
      have hd : ∀ j, j < 4 → 0 < (cor 1 la ha lb hb j).2 := fun j _ => Nat.one_pos
      refine do_close (fun j _ => opR_rz 1 _ _ (by omega)) hd ?_ ?_ ?_ ?_ h1 h2 (hr.2.2 hok (by omega))
      · intro e he
        exact ⟨1, by decide, by simpa [subL, cor, cz] using he⟩
      · intro j hj
        refine ⟨_, List.mem_cons_self, (rz_le Nat.one_pos (hd j hj)).2 ?_⟩
        revert j
        exact four_cases (by simp [cor, cz] <;> omega) (by simp [cor, cz] <;> omega) (by simp [cor, cz] <;> omega) (by simp [cor, cz] <;> omega)
      · intro e he
        exact ⟨2, by decide, by simpa [subH, cor, cz] using he⟩
      · intro j hj
        refine ⟨_, List.mem_cons_self, (rz_le (hd j hj) Nat.one_pos).2 ?_⟩
        revert j
        exact four_cases (by simp [cor, cz] <;> omega) (by simp [cor, cz] <;> omega) (by simp [cor, cz] <;> omega) (by simp [cor, cz] <;> omega)
    | 2, _, hp, hr =>
      obtain ⟨lo, hi, h1, h2, rfl⟩ := hp.2 hok
      have hd : ∀ j, j < 4 → 0 < (cor 2 la ha lb hb j).2 := fun j _ => Nat.two_pow_pos _
      have hm : ∀ j, j < 4 → cor 2 la ha lb hb j ∈ mulC la ha lb hb := four_cases List.mem_cons_self (List.mem_cons_of_mem _ List.mem_cons_self) (List.mem_cons_of_mem _ (List.mem_cons_of_mem _ List.mem_cons_self)) (List.mem_cons_of_mem _ (List.mem_cons_of_mem _ (List.mem_cons_of_mem _ List.mem_cons_self)))
      have hi' : ∀ e ∈ mulC la ha lb hb, ∃ j, j < 4 ∧ e = cor 2 la ha lb hb j := by
        intro e he
        simp only [mulC, List.mem_cons, List.not_mem_nil, or_false] at he
        rcases he with rfl | rfl | rfl | rfl
        · exact ⟨0, by decide, rfl⟩
        · exact ⟨1, by decide, rfl⟩
        · exact ⟨2, by decide, rfl⟩
        · exact ⟨3, by decide, rfl⟩
      exact do_close (fun j _ => opR_rz 2 _ _ (by omega)) hd hi' (fun j hj => ⟨_, hm j hj, Rat.le_refl⟩) hi' (fun j hj => ⟨_, hm j hj, Rat.le_refl⟩) h1 h2 (hr.2.2 hok (by omega))
    | 3, _, hp, hr =>
      have hp : IsQuot (okS la ha && okS lb hb) (zB lb hb) (quoC la ha lb hb) (quoC la ha lb hb) p := hp
      cases hz : zB lb hb with
      | true => rw [hp.2.1 hok hz, hr.2.1 hok rfl hz]
      | false =>
        obtain ⟨lo, hi, h1, h2, rfl⟩ := hp.2.2 hok hz
        obtain ⟨n1, n2⟩ := side_rg (side_of b1 b2 b3 hz)
        have hd : ∀ j, j < 4 → 0 < (cor 3 la ha lb hb j).2 := four_cases (val_pos n1) (val_pos n2) (val_pos n1) (val_pos n2)
        have hm : ∀ j, j < 4 → cor 3 la ha lb hb j ∈ quoC la ha lb hb := four_cases List.mem_cons_self (List.mem_cons_of_mem _ List.mem_cons_self) (List.mem_cons_of_mem _ (List.mem_cons_of_mem _ List.mem_cons_self)) (List.mem_cons_of_mem _ (List.mem_cons_of_mem _ (List.mem_cons_of_mem _ List.mem_cons_self)))
        have hi' : ∀ e ∈ quoC la ha lb hb, ∃ j, j < 4 ∧ e = cor 3 la ha lb hb j := by
          intro e he
          simp only [quoC, List.mem_cons, List.not_mem_nil, or_false] at he
          rcases he with rfl | rfl | rfl | rfl
          · exact ⟨0, by decide, rfl⟩
          · exact ⟨1, by decide, rfl⟩
          · exact ⟨2, by decide, rfl⟩
          · exact ⟨3, by decide, rfl⟩
        exact do_close (fun j hj => opR_rz 3 _ _ (fun _ => by
          revert j
          exact four_cases n1 n2 n1 n2)) hd hi' (fun j hj => ⟨_, hm j hj, Rat.le_refl⟩) hi' (fun j hj => ⟨_, hm j hj, Rat.le_refl⟩) h1 h2 (hr.2.2 hok (fun _ => hz))
theorem fr_sz {v : Nat} (h : Flt.Fin v) : Sz (fr v) 67 := by
  have hq : Flt.rg v / 2 ^ 52 - 1 ≤ 2046 := by
    have := h
    unfold Flt.Fin at this
    rw [Flt.inf_eq] at this
    omega
  have hv : Flt.val (Flt.rg v) < 2 ^ (32 * 67) := by
    unfold Flt.val
    have h1 : (if Flt.rg v < 2 ^ 52 then Flt.rg v else 2 ^ 52 + Flt.rg v % 2 ^ 52) < 2 ^ 53 := by split <;> omega
    have h2 : (if Flt.rg v < 2 ^ 52 then Flt.rg v else 2 ^ 52 + Flt.rg v % 2 ^ 52) * 2 ^ (Flt.rg v / 2 ^ 52 - 1) < 2 ^ 53 * 2 ^ (Flt.rg v / 2 ^ 52 - 1) := Nat.mul_lt_mul_of_pos_right h1 (Nat.two_pow_pos _)
    rw [← Nat.pow_add] at h2
    obtain ⟨M, hM⟩ : ∃ M, 32 * 67 = M := ⟨_, rfl⟩
    rw [hM]
    have hM2 : 2144 = M := hM
    exact Nat.lt_of_lt_of_le h2 (Nat.pow_le_pow_right (by decide) (by omega))
  unfold fr
  refine Sz.divInt unit_ne ?_ ?_
  · have : (Flt.sv v).natAbs = Flt.val (Flt.rg v) := by unfold Flt.sv; split <;> omega
    rw [this]
    exact hv
  · rw [Int.natAbs_natCast]
    obtain ⟨M, hM⟩ : ∃ M, 32 * 67 = M := ⟨_, rfl⟩
    rw [hM]
    have hM2 : 2144 = M := hM
    exact Nat.pow_lt_pow_right (by decide) (by rw [← hM2]; unfold Flt.K74; decide)
theorem fr_ne {v : Nat} (h : Flt.rg v ≠ 0) : fr v ≠ 0 := by
  rw [fr_div]
  have hp := unit_pos
  have : (Flt.sv v : Rat) ≠ 0 := fun e => h (Flt.sv_zero_iff.1 (by exact_mod_cast e))
  intro e
  generalize ((2 ^ Flt.K74 : Nat) : Rat) = K at hp e
  have e2 : (Flt.sv v : Rat) / K * K = 0 := by rw [e]; grind
  rw [Rat.div_mul_cancel (by grind)] at e2
  exact this e2
theorem opR_sz {k x y : Nat} (hx : Flt.Fin x) (hy : Flt.Fin y) (h : 3 ≤ k → Flt.rg y ≠ 0) : Sz (opR k (fr x) (fr y)) 135 := by
  have sx := fr_sz hx
  have sy := fr_sz hy
  match k, h with
  | 0, _ => exact Sz.mono (x := fr x + fr y) (Sz.add sx sy) (by decide)
  | 1, _ => exact Sz.mono (x := fr x - fr y) (Sz.sub sx sy) (by decide)
  | 2, _ => exact Sz.mono (x := fr x * fr y) (Sz.mul sx sy) (by decide)
  | (j + 3), h => exact Sz.mono (x := fr x / fr y) (Sz.div sx sy (fr_ne (h (by omega)))) (by decide)
end Go.Proofs.Ytcjpocepgkfkaaa
