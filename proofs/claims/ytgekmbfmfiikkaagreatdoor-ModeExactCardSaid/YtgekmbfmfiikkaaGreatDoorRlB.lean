/-
  Of the references: the waist, the size, the curve of a beam (polestarref15).
-/
import Derived.Test.YtgekmbfmfiikkaaGreatDoorRlA
import Derived.Test.YtgekmbfmfiikkaaGreatDoorOwI
import Derived.Test.YtgekmbfmfiikkaaGreatDoorMaR
import Derived.Test.YtgekmbfmfiikkaaGreatDoorFrame2
import Derived.Test.YtgekmbfmfiikkaaGreatDoorOwH
import Derived.Test.YtgekmbfmfiikkaaGreatDoorRaL
namespace Go.Proofs.YtgekmbfmfiikkaaGreatDoor
open Go.RowKit

/-- A fraction as an answer, or the limit. -/
def AnsOf (r : Rat) (x y v : Int) : Prop := (Sz r 2048 ∧ x = r.num ∧ y = (r.den : Int) ∧ v = 0) ∨ (¬ Sz r 2048 ∧ x = 0 ∧ y = 0 ∧ v = 4)
def RetN2 (W : World) (x y v : Int) (e : Ending) (w' : World) : Prop :=
 ∃ (neg : Bool) (A : Option Addr) (n c : Nat) (neg' : Bool) (A' : Option Addr) (n' c' : Nat), e = .returned (.tuple #[.agg #[.bool neg, .slice A n c, .bool neg', .slice A' n' c'], .int .i64 v]) ∧ IsInt w' neg A n c x ∧ IsInt w' neg' A' n' c' y ∧ Below W.heap.size W w'
end Go.Proofs.YtgekmbfmfiikkaaGreatDoor
