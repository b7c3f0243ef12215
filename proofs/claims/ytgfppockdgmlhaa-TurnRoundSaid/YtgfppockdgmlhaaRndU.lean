/-
  Floats rounded down and up (round): Two, Next, Add, Sub.
-/
import Derived.Test.YtgfppockdgmlhaaRefW
/-! Floats beside an exact value: the pair that is told of a fraction, and the pair that a nearest float and what it has lost give. -/
namespace Go.Proofs.Ytgfppockdgmlhaa
open Go.RowKit

def Brk (s : Bool) (num den d u : Nat) : Prop :=
  ∃ r, Flt.Dn num den r ∧ d = (if s then 2 ^ 63 + hiR num den r else r) ∧ u = (if s then 2 ^ 63 + r else hiR num den r)
theorem Brk.unique {s : Bool} {num den d u d' u' : Nat} (h : Brk s num den d u) (k : Brk s num den d' u') : d = d' ∧ u = u' := by
  obtain ⟨r, h1, rfl, rfl⟩ := h
  obtain ⟨r', k1, rfl, rfl⟩ := k
  have := h1.unique k1
  subst this
  exact ⟨rfl, rfl⟩

end Go.Proofs.Ytgfppockdgmlhaa



/-! Floats, rounded down and up (round): the float beside. -/
namespace Go.Proofs.Ytgfppockdgmlhaa
open Go.RowKit

theorem nan_zero : ¬ Flt.Nan 0 := by unfold Flt.Nan Flt.rg; rw [Flt.inf_eq]; omega
theorem sv_zero : Flt.sv 0 = 0 := Flt.sv_zero_iff.2 rfl
end Go.Proofs.Ytgfppockdgmlhaa

