/-
  The square of the range, or the limit (in mode.Depth).
-/
import Derived.Test.YtgekmbfmfiikkaaGreatDoorLnB
import Derived.Test.YtgekmbfmfiikkaaGreatDoorBey
namespace Go.Proofs.YtgekmbfmfiikkaaGreatDoor
open Go.RowKit
theorem lfs_one (w : World) {g : Nat} (hg : w.heap.size = g) (t : TypeId) {a : LmE} (ha : LmE.at_ w a) : Lfs (w.alloc (.cells a.vs.toArray t)) g 1 (fun _ => a) := by
 have hB := Blk.new w hg a.vs t
 have hn : Below w.heap.size w (w.alloc (.cells a.vs.toArray t)) := (Below.refl _ _).alloc (Nat.le_refl _) _
 refine ⟨hB.1, fun i hi => ?_⟩
 match i, hi with
 | 0, _ => exact ⟨⟨(hB.2 0 _ rfl).1, (hB.2 1 _ rfl).1, (hB.2 2 _ rfl).1, (hB.2 3 _ rfl).1⟩, LmE.at_.below ha hn⟩
end Go.Proofs.YtgekmbfmfiikkaaGreatDoor
