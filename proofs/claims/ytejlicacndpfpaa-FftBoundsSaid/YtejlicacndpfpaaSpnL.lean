/-
  Spans: whether two are the same; the chapter's examples (polestarlaw05.lives).
-/
import Derived.Test.YtejlicacndpfpaaSpnD
import Derived.Test.YtejlicacndpfpaaSpnZ
import Derived.Test.YtejlicacndpfpaaRndU
namespace Go.Proofs.Ytejlicacndpfpaa
open Go.RowKit

/-! ### the examples -/
theorem lowOf_least {L : List (Int × Nat)} {lo t : Nat} (hD : Dens L) (h : LowOf L lo) (ht : Flt.Fin t) (h1 : ∀ c ∈ L, Flt.sv t * c.2 ≤ c.1) (h2 : ∃ c ∈ L, Flt.sv t * c.2 = c.1) : Flt.sv lo = Flt.sv t ∧ Flt.Fin lo ∧ lo < 2 ^ 64 := by
  obtain ⟨c, hc, hd⟩ := h.1
  obtain ⟨c', hc', he⟩ := h2
  obtain ⟨e, hde, hle⟩ := h.2 c' hc'
  have a := hd.2.2.2.2 t ht (h1 c hc)
  have b := hde.exact (hD c' hc') ht he
  exact ⟨by omega, hd.finite ht a, hd.1⟩
theorem highOf_most {L : List (Int × Nat)} {hi t : Nat} (hD : Dens L) (h : HighOf L hi) (ht : Flt.Fin t) (h1 : ∀ c ∈ L, c.1 ≤ Flt.sv t * c.2) (h2 : ∃ c ∈ L, Flt.sv t * c.2 = c.1) : Flt.sv hi = Flt.sv t ∧ Flt.Fin hi ∧ hi < 2 ^ 64 := by
  obtain ⟨c, hc, hd⟩ := h.1
  obtain ⟨c', hc', he⟩ := h2
  obtain ⟨e, hde, hle⟩ := h.2 c' hc'
  have a := hd.2.2.2.2 t ht (h1 c hc)
  have b := hde.exact (hD c' hc') ht he
  exact ⟨by omega, hd.finite ht a, hd.1⟩
theorem endsF_at {lo hi t s : Nat} (h1 : Flt.sv lo = Flt.sv t ∧ Flt.Fin lo ∧ lo < 2 ^ 64) (h2 : Flt.sv hi = Flt.sv s ∧ Flt.Fin hi ∧ hi < 2 ^ 64) (ht : t < 2 ^ 64) (hs : s < 2 ^ 64) : endsF lo hi = (pz t, pz s, 0) := by
  unfold endsF
  rw [Flt.finB_iff.2 h1.2.1, Flt.finB_iff.2 h2.2.1, pz_same h1.2.2 ht h1.1, pz_same h2.2.2 hs h2.1]
  rfl
theorem fin_dec {x : Nat} (h : Flt.finB x = true) : Flt.Fin x := Flt.finB_iff.1 h
end Go.Proofs.Ytejlicacndpfpaa
