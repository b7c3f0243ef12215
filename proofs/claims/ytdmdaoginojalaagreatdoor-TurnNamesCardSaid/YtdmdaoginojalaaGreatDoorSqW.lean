/-
  The references' spans (polestarref05): Square.
-/
import Derived.Test.YtdmdaoginojalaaGreatDoorCom
import Derived.Test.YtdmdaoginojalaaGreatDoorFrp
import Derived.Test.YtdmdaoginojalaaGreatDoorFlt
import Derived.Test.YtdmdaoginojalaaGreatDoorRefX
import Derived.Test.YtdmdaoginojalaaGreatDoorSpnR
import Derived.Test.YtdmdaoginojalaaGreatDoorSpnW
import Derived.Test.YtdmdaoginojalaaGreatDoorSpnA
import Derived.Test.YtdmdaoginojalaaGreatDoorSpnV
import Derived.Test.YtdmdaoginojalaaGreatDoorSpnU
import Derived.Test.YtdmdaoginojalaaGreatDoorRootR
import Derived.Test.YtdmdaoginojalaaGreatDoorFrY
import Derived.Test.YtdmdaoginojalaaGreatDoorSpnZ
namespace Go.Proofs.YtdmdaoginojalaaGreatDoor
open Go.RowKit

theorem Frs.box {wr : World} {g N : Nat} {F : Nat → FrE} (h : Frs wr g N F) (x : Obj) : Frs (wr.alloc x) g N F := h.next ((Below.refl _ _).alloc (Nat.le_refl _) _)
theorem Frs.drew {wr : World} {g N : Nat} {F : Nat → FrE} (h : Frs wr g N F) : Frs wr.drew g N F := h.next ⟨rfl, rfl, rfl, Nat.le_refl _, fun _ _ => rfl⟩
end Go.Proofs.YtdmdaoginojalaaGreatDoor
