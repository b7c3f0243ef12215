/-
  Floats stored into memory: the laws that the kit has for integers, Booleans, slices.
-/
import Derived.Test.YtdmdaoginojalaaGreatDoorZero
namespace Go.Proofs.YtdmdaoginojalaaGreatDoor
open Go.RowKit

@[go_sem] theorem run_store_float {P : Program} {w : World} {a : Addr} {m : Mode} (k : FloatKind) (x : Nat) : (store a (.float k x) m).run P w = stored P w a (.float k x) m := run_store P w a _ m rfl
end Go.Proofs.YtdmdaoginojalaaGreatDoor
