/-
  Roots, rounded down and up (round.Sqrt).
-/
import Derived.Test.YtdmdaoginojalaaGreatDoorPrdU
namespace Go.Proofs.YtdmdaoginojalaaGreatDoor
open Go.RowKit

/-! ### plain -/
/-- The greatest float whose square is not above V. -/
def DnSq (V r : Nat) : Prop := r < Flt.inf ∧ Flt.val r * Flt.val r ≤ V ∧ V < Flt.val (r + 1) * Flt.val (r + 1)
theorem DnSq.unique {V r s : Nat} (h : DnSq V r) (k : DnSq V s) : r = s := by
  have key : ∀ {r s : Nat}, DnSq V r → DnSq V s → ¬ r < s := by
    intro r s h k hlt
    have h1 : Flt.val (r + 1) * Flt.val (r + 1) ≤ Flt.val s * Flt.val s := Nat.mul_le_mul (Flt.val_le hlt) (Flt.val_le hlt)
    have := h.2.2
    have := k.2.1
    omega
  have := key h k
  have := key k h
  omega
/-- What the machine's root may give. -/
def IsSq (x z : Nat) : Prop := z < 2 ^ 64 ∧ (match Ieee.double.sqrt x with | some r => z = r | none => Flt.Nan z)
theorem IsSq.same {x s t : Nat} (h : IsSq x s) (k : IsSq x t) : Flt.Same s t := by
  have a := h.2
  have b := k.2
  cases hf : Ieee.double.sqrt x with
  | some z => rw [hf] at a b; exact .inl (a.trans b.symm)
  | none => rw [hf] at a b; exact .inr ⟨a, b⟩
def Pos (x : Nat) : Prop := Flt.Fin x ∧ Flt.sgn x = false ∧ Flt.rg x ≠ 0
/-- The pair that is told of a root. -/
def IsRoot (x d u : Nat) : Prop :=
  (¬ Pos x → ∃ z, IsSq x z ∧ d = z ∧ u = z) ∧
  (Pos x → ∃ r, DnSq (Flt.val (Flt.rg x) * 2 ^ Flt.K74) r ∧ d = r ∧ u = if Flt.val r * Flt.val r = Flt.val (Flt.rg x) * 2 ^ Flt.K74 then r else r + 1)
theorem IsRoot.same {x d u d' u' : Nat} (h : IsRoot x d u) (k : IsRoot x d' u') : Flt.Same d d' ∧ Flt.Same u u' := by
  by_cases hw : Pos x
  · obtain ⟨r, h1, rfl, rfl⟩ := h.2 hw
    obtain ⟨s, k1, rfl, rfl⟩ := k.2 hw
    have := h1.unique k1
    subst this
    exact ⟨.inl rfl, .inl rfl⟩
  · obtain ⟨z, h1, rfl, rfl⟩ := h.1 hw
    obtain ⟨t, k1, rfl, rfl⟩ := k.1 hw
    exact ⟨h1.same k1, h1.same k1⟩

theorem val_pow (E : Nat) : Flt.val ((E + 1) * 2 ^ 52) = 2 ^ (52 + E) := by
  have v := Flt.val_tail (m := 1) (by decide) (by decide) E
  have e1 : Flt.tail52 1 = 0 := by decide
  rw [e1, Nat.add_zero, Nat.one_mul] at v
  rw [v, show Nat.log2 1 = 0 by decide]

/-- The root of a finite float is one. -/
theorem root_fin {v r : Nat} (hv : v < Flt.inf) (h : Flt.NearSq (Flt.val v * 2 ^ Flt.K74) 1 r) : r < Flt.inf := by
  rcases Nat.lt_or_ge r Flt.inf with h' | h'
  · exact h'
  · exfalso
    have hr : r = Flt.inf := by have := h.1; omega
    have hi := Flt.inf_eq
    have h3 := (h.2.2 (by omega)).1
    rw [Nat.mul_one, hr] at h3
    have hm : 2 * Flt.val (Flt.inf - 1) ≤ Flt.mid (Flt.inf - 1) := by rw [Flt.mid_eq]; omega
    have h4 : 2 * Flt.val (Flt.inf - 1) * (2 * Flt.val (Flt.inf - 1)) ≤ Flt.mid (Flt.inf - 1) * Flt.mid (Flt.inf - 1) := Nat.mul_le_mul hm hm
    have h5 : Flt.val v ≤ Flt.val (Flt.inf - 1) := Flt.val_le (by omega)
    have h6 : Flt.val v * 2 ^ Flt.K74 ≤ Flt.val (Flt.inf - 1) * 2 ^ Flt.K74 := Nat.mul_le_mul_right _ h5
    have h7 : 2 ^ Flt.K74 < Flt.val (Flt.inf - 1) := by
      obtain ⟨E, hE⟩ : ∃ E : Nat, E = 1022 := ⟨_, rfl⟩
      have h8 := val_pow E
      have hK := Flt.K74_eq
      rw [show 52 + E = Flt.K74 by omega] at h8
      rw [← h8]
      exact Flt.val_lt (by omega)
    have h9 : Flt.val (Flt.inf - 1) * 2 ^ Flt.K74 < Flt.val (Flt.inf - 1) * Flt.val (Flt.inf - 1) := Nat.mul_lt_mul_of_pos_left h7 (by have := Nat.two_pow_pos Flt.K74; omega)
    have h10 : 2 * Flt.val (Flt.inf - 1) * (2 * Flt.val (Flt.inf - 1)) = 4 * (Flt.val (Flt.inf - 1) * Flt.val (Flt.inf - 1)) := by rw [Nat.mul_mul_mul_comm]
    generalize Flt.val (Flt.inf - 1) * Flt.val (Flt.inf - 1) = A at *
    generalize Flt.val (Flt.inf - 1) * 2 ^ Flt.K74 = B at *
    omega

theorem root_at {V r : Nat} {k : Int} (hr : r < Flt.inf) (hn : Flt.NearSq V 1 r) (h1 : 0 < k ↔ Flt.val r * Flt.val r < V) (h2 : k < 0 ↔ V < Flt.val r * Flt.val r) :
    ∃ s, DnSq V s ∧ (atd r k).1 = s ∧ (atd r k).2 = if Flt.val s * Flt.val s = V then s else s + 1 := by
  have up := (hn.2.1 hr).1
  have hlt := Flt.val_lt_succ r
  have hmid : Flt.mid r = Flt.val r + Flt.val (r + 1) := rfl
  have dn : Flt.val r * Flt.val r ≤ V → DnSq V r := fun h => by
    refine ⟨hr, h, ?_⟩
    have h3 : Flt.mid r * Flt.mid r < 2 * Flt.val (r + 1) * (2 * Flt.val (r + 1)) := Nat.mul_lt_mul'' (by omega) (by omega)
    rw [Nat.mul_mul_mul_comm] at h3
    rw [Nat.mul_one] at up
    omega
  unfold atd
  rcases Int.lt_trichotomy k 0 with hk | hk | hk
  · have hV := h2.1 hk
    have h0 : 0 < r := by
      rcases Nat.eq_zero_or_pos r with h | h
      · rw [h, Flt.val_zero] at hV; omega
      · exact h
    rw [if_neg (by omega), if_pos hk]
    have e := nxt_pos_down h0 hr
    rw [show Flt.word false r = r from rfl] at e
    rw [e]
    have hd := (hn.2.2 h0).1
    have hm2 : Flt.mid (r - 1) = Flt.val (r - 1) + Flt.val r := Flt.mid_pred h0
    have hlt2 := Flt.val_lt (show r - 1 < r by omega)
    have h3 : Flt.val (r - 1) * Flt.val (r - 1) < V := by
      have h4 : 2 * Flt.val (r - 1) * (2 * Flt.val (r - 1)) < Flt.mid (r - 1) * Flt.mid (r - 1) := Nat.mul_lt_mul'' (by omega) (by omega)
      rw [Nat.mul_mul_mul_comm] at h4
      rw [Nat.mul_one] at hd
      omega
    refine ⟨r - 1, ⟨by omega, by omega, by rw [show r - 1 + 1 = r by omega]; exact hV⟩, rfl, ?_⟩
    rw [if_neg (by omega)]
    show r = r - 1 + 1
    omega
  · have a : ¬ Flt.val r * Flt.val r < V := fun h => by have := h1.2 h; omega
    have b : ¬ V < Flt.val r * Flt.val r := fun h => by have := h2.2 h; omega
    rw [if_neg (by omega), if_neg (by omega)]
    exact ⟨r, dn (by omega), rfl, by rw [if_pos (by omega)]⟩
  · have hV := h1.1 hk
    rw [if_pos hk]
    have e := nxt_pos_up hr
    rw [show Flt.word false r = r from rfl] at e
    rw [e]
    exact ⟨r, dn (by omega), rfl, by rw [if_neg (by omega)]⟩

/-- How great the machine's root is at least. -/
theorem root_low {V r E : Nat} (hn : Flt.NearSq V 1 r) (hr : r < Flt.inf) (hV : 2 ^ (E + E) ≤ V) (hE : 1 ≤ E) : 2 ^ (E - 1) ≤ Flt.val r := by
  have up := (hn.2.1 hr).1
  rw [Nat.mul_one] at up
  have h0 : 0 < r := by
    rcases Nat.eq_zero_or_pos r with h | h
    · subst h
      have e : Flt.mid 0 = 1 := by decide
      rw [e] at up
      have := Nat.two_pow_pos (E + E)
      omega
    · exact h
  have hu : Flt.ulp r ≤ Flt.val r := by
    have h1 := Flt.val_lt h0
    rw [Flt.val_zero] at h1
    obtain ⟨m, hm, hv⟩ := Flt.val_form r
    rw [hv, Flt.ulp_eq]
    have : m ≠ 0 := by rintro rfl; rw [Nat.zero_mul] at hv; omega
    exact Nat.le_mul_of_pos_left _ (by omega)
  have hm : Flt.mid r ≤ 3 * Flt.val r := by rw [Flt.mid_eq]; omega
  have h2 : Flt.mid r * Flt.mid r ≤ 3 * Flt.val r * (3 * Flt.val r) := Nat.mul_le_mul hm hm
  rcases Nat.lt_or_ge (Flt.val r) (2 ^ (E - 1)) with h | h
  · exfalso
    have h3 : 3 * Flt.val r * (3 * Flt.val r) < 3 * 2 ^ (E - 1) * (3 * 2 ^ (E - 1)) := Nat.mul_lt_mul'' (by omega) (by omega)
    have e1 : 2 ^ (E + E) = 4 * (2 ^ (E - 1) * 2 ^ (E - 1)) := by
      rw [← Nat.pow_add, show (4 : Nat) = 2 ^ 2 by decide, ← Nat.pow_add]; congr 1; omega
    rw [Nat.mul_mul_mul_comm 3 (2 ^ (E - 1))] at h3
    generalize 2 ^ (E - 1) * 2 ^ (E - 1) = A at *
    omega
  · exact h

/-- The sign of what the root has lost: of a whole multiple of the unit the rounded one has it too. -/
theorem fma_sign {x z : Nat} (hx : Flt.Fin x) (hz : Flt.Fin z) {K L : Nat} (hKL : K = 1074 ∧ L = 590) (hlow : 2 ^ L ≤ Flt.val (Flt.rg x)) : ∃ l, Ieee.double.fma x x z = some l ∧ l < 2 ^ 64 ∧ ¬ Flt.Nan l ∧ (0 < Flt.sv l ↔ 0 < Flt.fex x x z) ∧ (Flt.sv l < 0 ↔ Flt.fex x x z < 0) := by
  obtain ⟨s, r, h1, h2, h3⟩ := Flt.fma_fin hx hx hz
  have hrl := Flt.near_lt h2
  have hri := h2.1
  have hz0 : Flt.fex x x z ≠ 0 → r ≠ 0 := fun h => by
    rintro rfl
    have h4 := (h2.2.1 (by rw [Flt.inf_eq]; omega)).1
    have e1 : Flt.val 0 + Flt.val (0 + 1) = 1 := by decide
    rw [e1, Nat.one_mul] at h4
    have hdvd : ((2 ^ Flt.K74 : Nat) : Int) ∣ Flt.fex x x z := by
      unfold Flt.fex
      refine Int.dvd_add ?_ ⟨Flt.sv z, by rw [Int.mul_comm]⟩
      rw [Flt.sv_mul]
      have hd : 2 ^ Flt.K74 ∣ Flt.val (Flt.rg x) * Flt.val (Flt.rg x) := by
        obtain ⟨m, hm, hv⟩ := Flt.val_form (Flt.rg x)
        rw [hv] at hlow ⊢
        have hex : K / 2 ≤ Flt.ex (Flt.rg x) := by
          rcases Nat.lt_or_ge (Flt.ex (Flt.rg x)) (K / 2) with h' | h'
          · have h5 : 2 ^ Flt.ex (Flt.rg x) ≤ 2 ^ (K / 2) := Nat.pow_le_pow_right (by decide) (by omega)
            have h6 : m * 2 ^ Flt.ex (Flt.rg x) < 2 ^ 53 * 2 ^ (K / 2) := Nat.mul_lt_mul_of_lt_of_le hm h5 (Nat.two_pow_pos _)
            rw [← Nat.pow_add] at h6
            have h7 : 2 ^ (53 + K / 2) ≤ 2 ^ L := Nat.pow_le_pow_right (by decide) (by omega)
            omega
          · exact h'
        rw [Nat.mul_mul_mul_comm, ← Nat.pow_add]
        have hK := Flt.K74_eq
        exact Nat.dvd_trans (Nat.pow_dvd_pow 2 (by omega)) (Nat.dvd_mul_left _ _)
      split
      · exact Int.dvd_neg.2 (Int.natCast_dvd_natCast.2 hd)
      · exact Int.natCast_dvd_natCast.2 hd
    have h5 := Int.natAbs_dvd_natAbs.2 hdvd
    rw [Int.natAbs_natCast] at h5
    have h6 := Nat.le_of_dvd (by omega) h5
    have := Nat.two_pow_pos Flt.K74
    omega
  have hsv := Flt.sv_word (s := s) hrl
  have hrg : Flt.rg (Flt.word s r) = r := Flt.rg_word _ _ hrl
  refine ⟨Flt.word s r, h1, Flt.word_lt _ hrl, by unfold Flt.Nan; rw [hrg]; omega, ?_, ?_⟩
  · rw [hsv]
    by_cases h0 : Flt.fex x x z = 0
    · rw [h0] at h2
      have hr0 : r = 0 := h2.unique (Nat.two_pow_pos _) Flt.near_zero
      rw [hr0, Flt.val_zero, h0]; split <;> simp
    · have hp := val_pos (hz0 h0)
      rw [h3 h0]
      by_cases hn : Flt.fex x x z < 0
      · rw [decide_eq_true hn]; simp; omega
      · rw [decide_eq_false hn]; simp; omega
  · rw [hsv]
    by_cases h0 : Flt.fex x x z = 0
    · rw [h0] at h2
      have hr0 : r = 0 := h2.unique (Nat.two_pow_pos _) Flt.near_zero
      rw [hr0, Flt.val_zero, h0]; split <;> simp
    · have hp := val_pos (hz0 h0)
      rw [h3 h0]
      by_cases hn : Flt.fex x x z < 0
      · rw [decide_eq_true hn]; simp; omega
      · rw [decide_eq_false hn]; simp; omega
end Go.Proofs.YtdmdaoginojalaaGreatDoor
