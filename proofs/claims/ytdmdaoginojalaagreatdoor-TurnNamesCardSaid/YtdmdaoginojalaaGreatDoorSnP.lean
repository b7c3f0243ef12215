/-
  Spans, plainly: the chapter's numbers, by the bits.
-/
import Derived.Test.YtdmdaoginojalaaGreatDoorSpnL
import Derived.Test.YtdmdaoginojalaaGreatDoorSqW
import Derived.Test.YtdmdaoginojalaaGreatDoorSpnV
namespace Go.Proofs.YtdmdaoginojalaaGreatDoor
open Go.RowKit

theorem low_at {L : List (Int × Nat)} {lo t r : Nat} (h : LowOf L lo) (ht : Flt.Fin t) (hv : Flt.sv t = (Flt.val r : Int)) (h1 : ∀ c ∈ L, Flt.sv t * (c.2 : Int) ≤ c.1) (h2 : ∃ c ∈ L, c.1 < (Flt.val (r + 1) : Int) * (c.2 : Int)) :
    Flt.sv lo = Flt.sv t ∧ Flt.Fin lo ∧ lo < 2 ^ 64 := by
  obtain ⟨c, hc, hd⟩ := h.1
  obtain ⟨c', hc', hlt⟩ := h2
  obtain ⟨e, hde, hle⟩ := h.2 c' hc'
  have a := hd.2.2.2.2 t ht (h1 c hc)
  have b : Flt.sv e ≤ Flt.sv t := by
    rcases fin_or_inf hde.2.1 with hf | hi
    · have h3 := hde.2.2.1 hf
      have h4 : Flt.sv e * (c'.2 : Int) < (Flt.val (r + 1) : Int) * (c'.2 : Int) := Int.lt_of_le_of_lt h3 hlt
      have h5 : Flt.sv e < (Flt.val (r + 1) : Int) := Int.lt_of_mul_lt_mul_right h4 (Int.natCast_nonneg _)
      rw [hv]
      unfold Flt.sv at h5 ⊢
      split
      · omega
      · rename_i hs
        rw [if_neg hs] at h5
        have h6 : Flt.rg e < r + 1 := Flt.lt_of_val (by omega)
        have := Flt.val_le (show Flt.rg e ≤ r by omega)
        omega
    · rw [sv_inf hi, hde.2.2.2.1 hi, if_pos rfl, hv]
      omega
  exact ⟨by omega, hd.finite ht a, hd.1⟩
theorem high_at {L : List (Int × Nat)} {hi t r : Nat} (h : HighOf L hi) (ht : Flt.Fin t) (hv : Flt.sv t = (Flt.val (r + 1) : Int)) (h1 : ∀ c ∈ L, c.1 ≤ Flt.sv t * (c.2 : Int)) (h2 : ∃ c ∈ L, (Flt.val r : Int) * (c.2 : Int) < c.1) :
    Flt.sv hi = Flt.sv t ∧ Flt.Fin hi ∧ hi < 2 ^ 64 := by
  obtain ⟨c, hc, hd⟩ := h.1
  obtain ⟨c', hc', hlt⟩ := h2
  obtain ⟨e, hde, hle⟩ := h.2 c' hc'
  have a := hd.2.2.2.2 t ht (h1 c hc)
  have b : Flt.sv t ≤ Flt.sv e := by
    rcases fin_or_inf hde.2.1 with hf | hi
    · have h3 := hde.2.2.1 hf
      have h4 : (Flt.val r : Int) * (c'.2 : Int) < Flt.sv e * (c'.2 : Int) := Int.lt_of_lt_of_le hlt h3
      have h5 : (Flt.val r : Int) < Flt.sv e := Int.lt_of_mul_lt_mul_right h4 (Int.natCast_nonneg _)
      rw [hv]
      unfold Flt.sv at h5 ⊢
      split
      · rename_i hs
        rw [if_pos hs] at h5
        omega
      · rename_i hs
        rw [if_neg hs] at h5
        have h6 : r < Flt.rg e := Flt.lt_of_val (by omega)
        have := Flt.val_le (show r + 1 ≤ Flt.rg e by omega)
        omega
    · rw [sv_inf hi, hde.2.2.2.1 hi]
      have h7 : Flt.Fin t := ht
      have := (sv_fin ht).2
      simp
      omega
  exact ⟨by omega, hd.finite ht a, hd.1⟩
theorem root_val {x d u r : Nat} (h : IsRoot x d u) (hp : Flt.Fin x ∧ Flt.sgn x = false ∧ Flt.rg x ≠ 0) (hr : DnSq (Flt.val (Flt.rg x) * 2 ^ Flt.K74) r) : d = r ∧ u = if Flt.val r * Flt.val r = Flt.val (Flt.rg x) * 2 ^ Flt.K74 then r else r + 1 := by
  obtain ⟨s, h1, rfl, h2⟩ := h.2 hp
  obtain rfl := h1.unique hr
  exact ⟨rfl, h2⟩
end Go.Proofs.YtdmdaoginojalaaGreatDoor
