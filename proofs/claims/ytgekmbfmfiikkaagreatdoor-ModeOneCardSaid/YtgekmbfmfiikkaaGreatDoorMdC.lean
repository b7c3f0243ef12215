/-
  Is a cavity stable (mode.stable): refusals.
-/
import Derived.Test.YtgekmbfmfiikkaaGreatDoorMdB
import Derived.Test.YtgekmbfmfiikkaaGreatDoorOwH
import Derived.Test.YtgekmbfmfiikkaaGreatDoorLst
import Derived.Test.YtgekmbfmfiikkaaGreatDoorOwN
import Derived.Test.YtgekmbfmfiikkaaGreatDoorLnB
import Derived.Test.YtgekmbfmfiikkaaGreatDoorMoA
import Derived.Test.YtgekmbfmfiikkaaGreatDoorMay
namespace Go.Proofs.YtgekmbfmfiikkaaGreatDoor
open Go.RowKit
def RetG3 (W : World) (gi : Nat) (x y x' y' v : Int) (is : Bool) (e : Ending) (w' : World) : Prop :=
 ∃ (sa : Bool) (Aa : Option Addr) (na ca : Nat) (za : Bool) (Ba : Option Addr) (ma da : Nat) (sb : Bool) (Ab : Option Addr) (nb cb : Nat) (zb : Bool) (Bb : Option Addr) (mb db : Nat), e = .returned (.tuple #[.agg #[.bool sa, .slice Aa na ca, .bool za, .slice Ba ma da, .bool sb, .slice Ab nb cb, .bool zb, .slice Bb mb db], .int .i64 v]) ∧
  IsInt w' sa Aa na ca x ∧ IsInt w' za Ba ma da y ∧ IsInt w' sb Ab nb cb x' ∧ IsInt w' zb Bb mb db y' ∧ Owns W.heap.size w' [(Aa, na, ca), (Ba, ma, da), (Ab, nb, cb), (Bb, mb, db)] ∧ Below W.heap.size (W.setCell ⟨gi, 0, none⟩ (.bool is)) w'
end Go.Proofs.YtgekmbfmfiikkaaGreatDoor
