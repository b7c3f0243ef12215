/-
  What the references' spans tell of the four operations is what the program's tell, plainly.
-/
import Derived.Test.YtcjpocepgkfkaaaGreatFrX
import Derived.Test.YtcjpocepgkfkaaaGreatSpnV
import Derived.Test.YtcjpocepgkfkaaaGreatSpnA
namespace Go.Proofs.YtcjpocepgkfkaaaGreat
open Go.RowKit

/-- One corner of an operation. -/
def cz (k x y : Nat) : Int × Nat := match k with
  | 0 => (Flt.sv x + Flt.sv y, 1)
  | 1 => (Flt.sv x - Flt.sv y, 1)
  | 2 => (Flt.sv x * Flt.sv y, 2 ^ Flt.K74)
  | _ => (qn x y, Flt.val (Flt.rg y))
def opR (k : Nat) (x y : Rat) : Rat := match k with
  | 0 => x + y
  | 1 => x - y
  | 2 => x * y
  | _ => x / y
def rz (c : Int × Nat) : Rat := Rat.divInt c.1 (((c.2 * 2 ^ Flt.K74 : Nat)) : Int)
theorem fr_div (v : Nat) : fr v = (Flt.sv v : Rat) / ((2 ^ Flt.K74 : Nat) : Rat) := by
  unfold fr
  rw [Rat.divInt_eq_div]
  rfl
theorem rz_div (c : Int × Nat) : rz c = (c.1 : Rat) / (((c.2 : Rat)) * ((2 ^ Flt.K74 : Nat) : Rat)) := by
  unfold rz
  rw [Rat.divInt_eq_div, ← Rat.natCast_mul]
  rfl
theorem unit_pos : (0 : Rat) < ((2 ^ Flt.K74 : Nat) : Rat) := Rat.natCast_pos.2 (Nat.two_pow_pos _)
theorem opR_rz (k x y : Nat) (h : 3 ≤ k → Flt.rg y ≠ 0) : opR k (fr x) (fr y) = rz (cz k x y) := by
  have hp := unit_pos
  obtain ⟨K, hK⟩ : ∃ K, 2 ^ Flt.K74 = K := ⟨_, rfl⟩
  match k, h with
  | 0, _ =>
    show fr x + fr y = rz (Flt.sv x + Flt.sv y, 1)
    rw [fr_div, fr_div, rz_div]
    rw [hK] at hp ⊢
    simp only [Rat.intCast_add]
    grind
  | 1, _ =>
    show fr x - fr y = rz (Flt.sv x - Flt.sv y, 1)
    rw [fr_div, fr_div, rz_div]
    rw [hK] at hp ⊢
    simp only [Rat.intCast_sub]
    grind
  | 2, _ =>
    show fr x * fr y = rz (Flt.sv x * Flt.sv y, 2 ^ Flt.K74)
    rw [fr_div, fr_div, rz_div]
    simp only [hK] at hp ⊢
    simp only [Rat.intCast_mul]
    grind
  | (j + 3), h =>
    show fr x / fr y = rz (qn x y, Flt.val (Flt.rg y))
    have hy := h (by omega)
    rw [fr_div, fr_div, rz_div]
    unfold qn
    simp only [hK] at hp ⊢
    have hv := val_pos hy
    have hsv : Flt.sv y = if Flt.sgn y then -(Flt.val (Flt.rg y) : Int) else Flt.val (Flt.rg y) := rfl
    rw [hsv]
    obtain ⟨V, hV⟩ : ∃ V, Flt.val (Flt.rg y) = V := ⟨_, rfl⟩
    rw [hV] at hv ⊢
    have hvr : (0 : Rat) < (V : Rat) := Rat.natCast_pos.2 hv
    generalize Flt.sv x = a
    cases Flt.sgn y with
    | true =>
      simp only [if_true, Rat.intCast_mul, Rat.intCast_neg, Rat.intCast_natCast]
      grind
    | false =>
      simp only [Bool.false_eq_true, if_false, Rat.intCast_mul, Rat.intCast_natCast]
      grind
theorem rz_cross (c : Int × Nat) (hc : 0 < c.2) : (rz c).num * (((2 ^ Flt.K74 : Nat)) : Int) * (c.2 : Int) = c.1 * ((rz c).den : Int) := by
  have hp : ((c.2 * 2 ^ Flt.K74 : Nat) : Int) ≠ 0 := by
    have := Nat.mul_pos hc (Nat.two_pow_pos Flt.K74)
    omega
  have h := Rat.num_divInt_den (rz c)
  have h2 : Rat.divInt (rz c).num ((rz c).den : Int) = Rat.divInt c.1 ((c.2 * 2 ^ Flt.K74 : Nat) : Int) := h
  rw [Rat.divInt_eq_divInt_iff (by have := (rz c).den_nz; omega) hp] at h2
  rw [Int.mul_assoc, ← Int.natCast_mul, Nat.mul_comm]
  exact h2
theorem rat_le_mul {a b m : Rat} (hm : 0 < m) : a ≤ b ↔ a * m ≤ b * m := by
  have h1 := Rat.mul_lt_mul_of_pos_right (a := b) (b := a) (c := m)
  constructor
  · intro h
    exact Rat.mul_le_mul_of_nonneg_right h (Rat.le_of_lt hm)
  · intro h
    grind
theorem rz_le {c e : Int × Nat} (hc : 0 < c.2) (he : 0 < e.2) : rz c ≤ rz e ↔ c.1 * (e.2 : Int) ≤ e.1 * (c.2 : Int) := by
  have hp := unit_pos
  obtain ⟨K, hK⟩ : ∃ K, 2 ^ Flt.K74 = K := ⟨_, rfl⟩
  have h1 : (0 : Rat) < (c.2 : Rat) := Rat.natCast_pos.2 hc
  have h2 : (0 : Rat) < (e.2 : Rat) := Rat.natCast_pos.2 he
  have e1 := rz_div c
  have e2 := rz_div e
  rw [hK] at hp e1 e2
  have m1 : (0 : Rat) < (c.2 : Rat) * (K : Rat) := Rat.mul_pos h1 hp
  have m2 : (0 : Rat) < (e.2 : Rat) * (K : Rat) := Rat.mul_pos h2 hp
  have h3 : rz c * ((c.2 : Rat) * (K : Rat)) = (c.1 : Rat) := by rw [e1]; exact Rat.div_mul_cancel (fun h => by rw [h] at m1; exact absurd m1 (by decide))
  have h4 : rz e * ((e.2 : Rat) * (K : Rat)) = (e.1 : Rat) := by rw [e2]; exact Rat.div_mul_cancel (fun h => by rw [h] at m2; exact absurd m2 (by decide))
  have h5 : (c.1 * (e.2 : Int) ≤ e.1 * (c.2 : Int)) ↔ ((c.1 : Rat) * (e.2 : Rat) ≤ (e.1 : Rat) * (c.2 : Rat)) := by
    rw [← Rat.intCast_le_intCast, Rat.intCast_mul, Rat.intCast_mul, Rat.intCast_natCast, Rat.intCast_natCast]
  rw [h5, ← h3, ← h4]
  have hm : (0 : Rat) < (c.2 : Rat) * (K : Rat) * (e.2 : Rat) := Rat.mul_pos (Rat.mul_pos h1 hp) h2
  have ea : rz c * ((c.2 : Rat) * (K : Rat)) * (e.2 : Rat) = rz c * ((c.2 : Rat) * (K : Rat) * (e.2 : Rat)) := by grind
  have eb : rz e * ((e.2 : Rat) * (K : Rat)) * (c.2 : Rat) = rz e * ((c.2 : Rat) * (K : Rat) * (e.2 : Rat)) := by grind
  rw [ea, eb]
  exact rat_le_mul hm
theorem low_rz {L : List (Int × Nat)} {c : Int × Nat} {lo d : Nat} (hL : Dens L) (hc : 0 < c.2) (h : LowOf L lo) (k : DownR (rz c) d) (h1 : ∀ e ∈ L, rz c ≤ rz e) (h2 : ∃ e ∈ L, rz e ≤ rz c) : Flt.sv lo = Flt.sv d := by
  have hx := rz_cross c hc
  have hq := (rz c).den_pos
  obtain ⟨e, he, hle⟩ := h2
  obtain ⟨f, hf1, hf2⟩ := h.2 e he
  have b1 : Flt.sv lo ≤ Flt.sv d := by
    refine Int.le_trans hf2 (Down.mono hf1 k (hL e he) hq ?_)
    have h3 := (rz_le (hL e he) hc).1 hle
    have h4 : e.1 * (c.2 : Int) * ((rz c).den : Int) ≤ c.1 * (e.2 : Int) * ((rz c).den : Int) := Int.mul_le_mul_of_nonneg_right h3 (by omega)
    have h5 : c.1 * (e.2 : Int) * ((rz c).den : Int) = (rz c).num * ((2 ^ Flt.K74 : Nat) : Int) * (e.2 : Int) * (c.2 : Int) := by
      rw [Int.mul_right_comm c.1, ← hx, Int.mul_right_comm _ (c.2 : Int)]
    rw [h5, Int.mul_right_comm e.1] at h4
    exact Int.le_of_mul_le_mul_right h4 (by omega)
  obtain ⟨g, hg, hgd⟩ := h.1
  have b2 : Flt.sv d ≤ Flt.sv lo := by
    refine Down.mono k hgd hq (hL g hg) ?_
    have h3 := (rz_le hc (hL g hg)).1 (h1 g hg)
    have h4 : c.1 * (g.2 : Int) * ((rz c).den : Int) ≤ g.1 * (c.2 : Int) * ((rz c).den : Int) := Int.mul_le_mul_of_nonneg_right h3 (by omega)
    have h5 : c.1 * (g.2 : Int) * ((rz c).den : Int) = (rz c).num * ((2 ^ Flt.K74 : Nat) : Int) * (g.2 : Int) * (c.2 : Int) := by
      rw [Int.mul_right_comm c.1, ← hx, Int.mul_right_comm _ (c.2 : Int)]
    rw [h5, Int.mul_right_comm g.1] at h4
    exact Int.le_of_mul_le_mul_right h4 (by omega)
  omega
theorem high_rz {L : List (Int × Nat)} {c : Int × Nat} {hi d : Nat} (hL : Dens L) (hc : 0 < c.2) (h : HighOf L hi) (k : UpR (rz c) d) (h1 : ∀ e ∈ L, rz e ≤ rz c) (h2 : ∃ e ∈ L, rz c ≤ rz e) : Flt.sv hi = Flt.sv d := by
  have hx := rz_cross c hc
  have hq := (rz c).den_pos
  obtain ⟨e, he, hle⟩ := h2
  obtain ⟨f, hf1, hf2⟩ := h.2 e he
  have b1 : Flt.sv d ≤ Flt.sv hi := by
    refine Int.le_trans (Up.mono k hf1 hq (hL e he) ?_) hf2
    have h3 := (rz_le hc (hL e he)).1 hle
    have h4 : c.1 * (e.2 : Int) * ((rz c).den : Int) ≤ e.1 * (c.2 : Int) * ((rz c).den : Int) := Int.mul_le_mul_of_nonneg_right h3 (by omega)
    have h5 : c.1 * (e.2 : Int) * ((rz c).den : Int) = (rz c).num * ((2 ^ Flt.K74 : Nat) : Int) * (e.2 : Int) * (c.2 : Int) := by
      rw [Int.mul_right_comm c.1, ← hx, Int.mul_right_comm _ (c.2 : Int)]
    rw [h5, Int.mul_right_comm e.1] at h4
    exact Int.le_of_mul_le_mul_right h4 (by omega)
  obtain ⟨g, hg, hgd⟩ := h.1
  have b2 : Flt.sv hi ≤ Flt.sv d := by
    refine Up.mono hgd k (hL g hg) hq ?_
    have h3 := (rz_le (hL g hg) hc).1 (h1 g hg)
    have h4 : g.1 * (c.2 : Int) * ((rz c).den : Int) ≤ c.1 * (g.2 : Int) * ((rz c).den : Int) := Int.mul_le_mul_of_nonneg_right h3 (by omega)
    have h5 : c.1 * (g.2 : Int) * ((rz c).den : Int) = (rz c).num * ((2 ^ Flt.K74 : Nat) : Int) * (g.2 : Int) * (c.2 : Int) := by
      rw [Int.mul_right_comm c.1, ← hx, Int.mul_right_comm _ (c.2 : Int)]
    rw [h5, Int.mul_right_comm g.1] at h4
    exact Int.le_of_mul_le_mul_right h4 (by omega)
  omega
theorem pz_of_sv {x y : Nat} (hx : x < 2 ^ 64) (hy : y < 2 ^ 64) (h : Flt.sv x = Flt.sv y) : pz x = pz y ∧ Flt.finB x = Flt.finB y := by
  have e : Flt.rg x = Flt.rg y := by
    apply Flt.val_inj
    have := h
    unfold Flt.sv at this
    split at this <;> split at this <;> omega
  refine ⟨?_, by unfold Flt.finB; rw [e]⟩
  unfold pz
  rw [e]
  split
  · rfl
  · rename_i h0
    have hv := val_pos h0
    have hs : Flt.sgn x = Flt.sgn y := by
      have := h
      unfold Flt.sv at this
      rw [e] at this
      cases h1 : Flt.sgn x <;> cases h2 : Flt.sgn y <;> first | rfl | (rw [h1, h2] at this; simp at this; omega)
    exact (Flt.word_eq x hx).symm.trans (by rw [hs, e]; exact Flt.word_eq y hy)
theorem ends_of_sv {lo hi d u : Nat} (h1 : lo < 2 ^ 64) (h2 : hi < 2 ^ 64) (h3 : d < 2 ^ 64) (h4 : u < 2 ^ 64) (a : Flt.sv lo = Flt.sv d) (b : Flt.sv hi = Flt.sv u) : endsF lo hi = endsF d u := by
  obtain ⟨a1, a2⟩ := pz_of_sv h1 h3 a
  obtain ⟨b1, b2⟩ := pz_of_sv h2 h4 b
  unfold endsF
  rw [a1, a2, b1, b2]
theorem fr_sz {v : Nat} (h : Flt.Fin v) : Sz (fr v) 67 := by
  have hq : Flt.rg v / 2 ^ 52 - 1 ≤ 2046 := by
    have := h
    unfold Flt.Fin at this
    rw [Flt.inf_eq] at this
    omega
  have hv : Flt.val (Flt.rg v) < 2 ^ (32 * 67) := by
    unfold Flt.val
    have h1 : (if Flt.rg v < 2 ^ 52 then Flt.rg v else 2 ^ 52 + Flt.rg v % 2 ^ 52) < 2 ^ 53 := by split <;> omega
    have h2 : (if Flt.rg v < 2 ^ 52 then Flt.rg v else 2 ^ 52 + Flt.rg v % 2 ^ 52) * 2 ^ (Flt.rg v / 2 ^ 52 - 1) < 2 ^ 53 * 2 ^ (Flt.rg v / 2 ^ 52 - 1) := Nat.mul_lt_mul_of_pos_right h1 (Nat.two_pow_pos _)
    rw [← Nat.pow_add] at h2
    obtain ⟨M, hM⟩ : ∃ M, 32 * 67 = M := ⟨_, rfl⟩
    rw [hM]
    have hM2 : 2144 = M := hM
    exact Nat.lt_of_lt_of_le h2 (Nat.pow_le_pow_right (by decide) (by omega))
  unfold fr
  refine Sz.divInt unit_ne ?_ ?_
  · have : (Flt.sv v).natAbs = Flt.val (Flt.rg v) := by unfold Flt.sv; split <;> omega
    rw [this]
    exact hv
  · rw [Int.natAbs_natCast]
    obtain ⟨M, hM⟩ : ∃ M, 32 * 67 = M := ⟨_, rfl⟩
    rw [hM]
    have hM2 : 2144 = M := hM
    exact Nat.pow_lt_pow_right (by decide) (by rw [← hM2]; unfold Flt.K74; decide)
end Go.Proofs.YtcjpocepgkfkaaaGreat
