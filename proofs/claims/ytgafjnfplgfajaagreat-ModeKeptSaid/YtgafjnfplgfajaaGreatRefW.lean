/-
  The references floats (polestarref04): worth, the floats beside, Two.
-/
import Derived.Test.YtgafjnfplgfajaaGreatRefV
import Derived.Test.YtgafjnfplgfajaaGreatFlt
import Derived.Deep.CutRange
/-! The references' floats (polestarref04): one; quotients by a power of two. -/
namespace Go.Proofs.YtgafjnfplgfajaaGreat
open Go.RowKit

theorem isInt_len_mono {w w' : World} {neg neg' : Bool} {A A' : Option Addr} {n c n' c' : Nat} {x y : Int} (h : IsInt w neg A n c x) (k : IsInt w' neg' A' n' c' y) (e : x.natAbs ≤ y.natAbs) : n ≤ n' := by
  refine isInt_len_le h ?_
  obtain ⟨b, hb, cb, _, rfl⟩ := k
  have h1 : ∀ (s : Bool) (m : Nat), (sgnd s m).natAbs = m := by intro s m; unfold sgnd; split <;> omega
  rw [h1] at e
  have := Lm.lv_lt hb.ok
  rw [hb.len] at this
  omega
end Go.Proofs.YtgafjnfplgfajaaGreat


/-! The references' floats (polestarref04): the greatest float that is not above a number times a power of two. -/
namespace Go.Proofs.YtgafjnfplgfajaaGreat
open Go.RowKit

theorem ref_bits_of (neg : Bool) (A : Option Addr) (n c : Nat) (x : Int) (L : Nat) (w : World) (hx : IsInt w neg A n c x) (hn : n ≤ 100000000) (hL : Hid (bitLen x.natAbs = L)) :
    Calls Tryz.prog 106 #[.agg #[.bool neg, .slice A n c]] w (RetV w (.int .i64 (L : Int))) := by
  have := ref_bits_any neg A n c x w hx hn
  rwa [hL.out] at this

end Go.Proofs.YtgafjnfplgfajaaGreat

/-! The references' floats (polestarref04): signs, the least exponent, the floats beside. -/
namespace Go.Proofs.YtgafjnfplgfajaaGreat
open Go.RowKit

theorem ref_sign_of (neg : Bool) (A : Option Addr) (n c : Nat) (z s : Int) (w : World) (h : IsInt w neg A n c z) (hs : Hid (z.sign = s)) :
    Calls Tryz.prog 64 #[.agg #[.bool neg, .slice A n c]] w (RetV w (.int .i64 s)) := by
  have := ref_sign_any neg A n c z w h
  rwa [hs.out] at this

def hiR (num den r : Nat) : Nat := if Flt.val r * den = num then r else r + 1
end Go.Proofs.YtgafjnfplgfajaaGreat

/-! The references' floats (polestarref04): the sum and what it has lost. -/
namespace Go.Proofs.YtgafjnfplgfajaaGreat
open Go.RowKit

theorem cell_alloc {w : World} (o : Obj) {g : Nat} {k : Nat} (v : Value) (hg : g < w.heap.size) (h : w.cell? ⟨g, k, none⟩ = some v) : (w.alloc o).cell? ⟨g, k, none⟩ = some v := by
  rw [(bcell ((Below.refl w.heap.size w).alloc (Nat.le_refl _) o)).1 g k hg]; exact h
theorem p2 (k : Nat) : (2 : Int) ^ k = ((2 ^ k : Nat) : Int) := by rw [Int.natCast_pow]; rfl
theorem shifted {z g L v S : Int} {E : Nat} (hg : (E : Int) - 1074 = g) (hz : z * ((2 ^ E : Nat) : Int) = S) (h : z = 0 ∨ 0 ≤ g - L) (hL : -1074 ≤ L) (hv : v = z * 2 ^ (g - L).toNat) :
    v * ((2 ^ (L + 1074).toNat : Nat) : Int) = S := by
  rcases h with rfl | h
  · rw [hv, ← hz]; simp
  · rw [hv, ← hz, Int.mul_assoc, p2, ← Int.natCast_mul, ← Nat.pow_add]
    congr 3
    omega
end Go.Proofs.YtgafjnfplgfajaaGreat
