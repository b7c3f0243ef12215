/-
  The references' fractions (polestarref02): with the other sign, lowest terms, the four operations, held against one another.
-/
import Derived.Test.YtjcjphgpmpjmbaaDoorCom
namespace Go.Proofs.YtjcjphgpmpjmbaaDoor
open Go.RowKit

def RetFr (W : World) (x : Rat) (e : Ending) (w' : World) : Prop :=
  ∃ (neg : Bool) (A : Option Addr) (n c : Nat) (neg' : Bool) (A' : Option Addr) (n' c' : Nat), e = .returned (.agg #[.bool neg, .slice A n c, .bool neg', .slice A' n' c']) ∧ IsInt w' neg A n c x.num ∧ IsInt w' neg' A' n' c' (x.den : Int) ∧ Below W.heap.size W w'
theorem int_len {w : World} {neg : Bool} {A : Option Addr} {n c : Nat} {z : Int} (h : IsInt w neg A n c z) {m : Nat} (hz : z.natAbs < 2 ^ (32 * m)) : n ≤ m := isInt_len_le h (by rw [show Lm.B ^ m = 2 ^ (32 * m) by rw [Nat.pow_mul]]; exact hz)

end Go.Proofs.YtjcjphgpmpjmbaaDoor
