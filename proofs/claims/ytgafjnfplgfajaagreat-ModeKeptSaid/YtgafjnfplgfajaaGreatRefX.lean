/-
  The references floats (polestarref04): Add, Mul, Quo.
-/
import Derived.Test.YtgafjnfplgfajaaGreatRndU
import Derived.Test.YtgafjnfplgfajaaGreatPrdU
import Derived.Test.YtgafjnfplgfajaaGreatRefV
import Derived.Test.YtgafjnfplgfajaaGreatRefW
import Derived.Test.YtgafjnfplgfajaaGreatFlt
/-! The references' whole numbers and floats: Divide by any number; quotients by any number. -/
namespace Go.Proofs.YtgafjnfplgfajaaGreat
open Go.RowKit

theorem isInt_lt {w : World} {neg : Bool} {A : Option Addr} {n c : Nat} {z : Int} (h : IsInt w neg A n c z) : z.natAbs < Lm.B ^ n := by
  obtain ⟨l, hl, _, _, rfl⟩ := h
  have h1 : (sgnd neg (Lm.lv l)).natAbs = Lm.lv l := by unfold sgnd; split <;> omega
  rw [h1, ← hl.len]
  exact Lm.lv_lt hl.ok
theorem ref_Divide_any (neg neg' : Bool) (A A' : Option Addr) (n c n' c' : Nat) (x y : Int) (w : World) (hx : IsInt w neg A n c x) (hy : IsInt w neg' A' n' c' y) (hn : n ≤ 1000000000) (hn' : n' ≤ 1000000) (hy0 : y ≠ 0) :
    Calls Tryz.prog 103 #[.agg #[.bool neg, .slice A n c], .agg #[.bool neg', .slice A' n' c']] w (RetTwoInts w (x.tdiv y) (x.tmod y)) := by
  have h0 : n' ≠ 0 := fun e => hy0 ((isInt_zero hy).1 e)
  by_cases h1 : n' = 1
  · subst h1
    exact ref_Divide_one _ _ _ _ _ _ _ _ _ _ hx hy hn
  · obtain ⟨a, ha, ca, _, rfl⟩ := hx
    obtain ⟨b, hb, cb, _, rfl⟩ := hy
    rw [sgnd_tdiv, sgnd_tmod]
    exact ref_quo_of _ _ _ _ _ _ _ _ _ _ _ ha hb hn (by omega) (fun W hA hB => ref_divide_long _ _ _ _ _ _ _ _ _ hA hB cb hn hn' (by omega))

end Go.Proofs.YtgafjnfplgfajaaGreat

/-! The references' floats (polestarref04): the greatest float that is not above a fraction times a power of two. -/
namespace Go.Proofs.YtgafjnfplgfajaaGreat
open Go.RowKit

def qb (P D : Nat) (s : Int) : Bool := decide (P * 2 ^ s.toNat % (D * 2 ^ (-s).toNat) = 0)

end Go.Proofs.YtgafjnfplgfajaaGreat


/-! The references' floats (polestarref04): the quotient. -/
namespace Go.Proofs.YtgafjnfplgfajaaGreat
open Go.RowKit

theorem frozen_alloc {w : World} (o : Obj) {g k : Nat} (h : g < w.heap.size) : (w.alloc o).frozen? ⟨g, k, none⟩ = w.frozen? ⟨g, k, none⟩ :=
  ((Below.refl w.heap.size w).alloc (Nat.le_refl _) o).frozen (p := ⟨g, k, none⟩) h

end Go.Proofs.YtgafjnfplgfajaaGreat
