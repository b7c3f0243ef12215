/-
  What is told of a sum, in plain Lean.
-/
import Derived.Test.YthddodhcpfponaaBrk
namespace Go.Proofs.Ythddodhcpfponaa
open Go.RowKit

def IsSum (x y d u : Nat) : Prop :=
  ∃ s, Flt.IsAdd x y s ∧ ((¬ (Flt.Fin x ∧ Flt.Fin y) ∨ Flt.sv x + Flt.sv y = 0) → d = s ∧ u = s) ∧
    (Flt.Fin x → Flt.Fin y → Flt.sv x + Flt.sv y ≠ 0 → Brk (decide (Flt.sv x + Flt.sv y < 0)) (Flt.sv x + Flt.sv y).natAbs 1 d u)
theorem IsSum.same {x y d u d' u' : Nat} (h : IsSum x y d u) (k : IsSum x y d' u') : Flt.Same d d' ∧ Flt.Same u u' := by
  obtain ⟨s, h1, h2, h3⟩ := h
  obtain ⟨t, k1, k2, k3⟩ := k
  have hst := h1.same k1
  by_cases hc : ¬ (Flt.Fin x ∧ Flt.Fin y) ∨ Flt.sv x + Flt.sv y = 0
  · obtain ⟨rfl, rfl⟩ := h2 hc
    obtain ⟨rfl, rfl⟩ := k2 hc
    exact ⟨hst, hst⟩
  · have hf : Flt.Fin x ∧ Flt.Fin y := by
      by_cases hf : Flt.Fin x ∧ Flt.Fin y
      · exact hf
      · exact absurd (Or.inl hf) hc
    have hz : Flt.sv x + Flt.sv y ≠ 0 := fun e => hc (Or.inr e)
    obtain ⟨rfl, rfl⟩ := (h3 hf.1 hf.2 hz).unique (k3 hf.1 hf.2 hz)
    exact ⟨Or.inl rfl, Or.inl rfl⟩

theorem sum_own {x y s : Nat} (h : Flt.IsAdd x y s) (hc : ¬ (Flt.Fin x ∧ Flt.Fin y)) : IsSum x y s s :=
  ⟨s, h, fun _ => ⟨rfl, rfl⟩, fun a b _ => absurd ⟨a, b⟩ hc⟩
theorem isAdd_near {x y s : Nat} (h : Flt.IsAdd x y s) (hx : Flt.Fin x) (hy : Flt.Fin y) (hz : Flt.sv x + Flt.sv y ≠ 0) : ∃ r, s = Flt.word (decide (Flt.sv x + Flt.sv y < 0)) r ∧ Flt.Near (Flt.sv x + Flt.sv y).natAbs 1 r := by
  obtain ⟨z, hz', r, hw, hn⟩ := Flt.add_fin hx hy
  have hs : s = z := by have := h.2; rw [hz'] at this; exact this
  rw [if_neg hz] at hw
  exact ⟨r, hs.trans hw, hn⟩
theorem sum_bey {x y s : Nat} (h : Flt.IsAdd x y s) (hx : Flt.Fin x) (hy : Flt.Fin y) (hs : ¬ Flt.Fin s) : IsSum x y (bey s).1 (bey s).2 := by
  have hz : Flt.sv x + Flt.sv y ≠ 0 := by
    intro e
    obtain ⟨z, hz', r, hw, hn⟩ := Flt.add_fin hx hy
    have hs' : s = z := by have := h.2; rw [hz'] at this; exact this
    have hr : r = 0 := Flt.near_eq hn (by omega) (by rw [e]; exact Flt.val_zero)
    apply hs
    unfold Flt.Fin
    rw [hs', hw, Flt.rg_word _ _ (Flt.near_lt hn), hr, Flt.inf_eq]
    omega
  obtain ⟨r, hw, hn⟩ := isAdd_near h hx hy hz
  have hr : r = Flt.inf := by
    have h1 : ¬ r < Flt.inf := fun hlt => hs (by unfold Flt.Fin; rw [hw, Flt.rg_word _ _ (Flt.near_lt hn)]; exact hlt)
    have := hn.1
    omega
  subst hr
  exact ⟨s, h, fun hc => by rcases hc with hc | hc; exact absurd ⟨hx, hy⟩ hc; exact absurd hc hz, fun _ _ _ => bey_brk (by decide) hn hw⟩
theorem sum_at {x y s l : Nat} (h : Flt.IsTwo x y s l) (hs : Flt.Fin s) : IsSum x y (atd s (Flt.sv l)).1 (atd s (Flt.sv l)).2 := by
  obtain ⟨hA, _, h2, _⟩ := h
  obtain ⟨_, hl, _⟩ := h2 hs
  have hsum : Ieee.double.add x y = some s := by
    have := hA.2
    cases e : Ieee.double.add x y with
    | some t => rw [e] at this; exact congrArg some this.symm
    | none => rw [e] at this; exact absurd hs (Flt.not_fin_nan this)
  obtain ⟨fx, fy⟩ := Flt.add_some_fin hsum hs
  by_cases hz : Flt.sv x + Flt.sv y = 0
  · have hss : Flt.sv s = 0 := by
      obtain ⟨z, hz', r, hw, hn⟩ := Flt.add_fin fx fy
      rw [hsum] at hz'
      injection hz' with hz'
      have hr : r = 0 := Flt.near_eq hn (by omega) (by rw [hz]; exact Flt.val_zero)
      rw [hz', hw, hr, Flt.sv_word (by decide), Flt.val_zero]; simp
    have : atd s (Flt.sv l) = (s, s) := by unfold atd; rw [if_neg (by omega), if_neg (by omega)]
    rw [this]
    exact ⟨s, hA, fun _ => ⟨rfl, rfl⟩, fun _ _ k => absurd hz k⟩
  · obtain ⟨r, hw, hn⟩ := isAdd_near hA fx fy hz
    have hr : r < Flt.inf := by have := hs; unfold Flt.Fin at this; rw [hw, Flt.rg_word _ _ (Flt.near_lt hn)] at this; exact this
    refine ⟨s, hA, fun hc => by rcases hc with hc | hc; exact absurd ⟨fx, fy⟩ hc; exact absurd hc hz, fun _ _ _ => ?_⟩
    exact at_brk (by decide) hz hn hr hw (by rw [hl, Int.natCast_one, Int.mul_one]; omega) (by rw [hl, Int.natCast_one, Int.mul_one]; omega)
end Go.Proofs.Ythddodhcpfponaa
