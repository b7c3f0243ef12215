/-
  What is asked of a stable cavity (mode.stable): a fraction.
-/
import Derived.Test.YtgekmbfmfiikkaaGreatDoorMdC
namespace Go.Proofs.YtgekmbfmfiikkaaGreatDoor
open Go.RowKit
theorem Mo.szB {B : Nat} {w wr : World} {L : List (Nat × List Value)} {l : List IntAt} {o : List OwnAt} (h : Mo B w L l o wr) : B ≤ wr.heap.size := Nat.le_trans h.2.2.2.2.2 h.1.size
theorem Mo.askG {w wr w' : World} {L : List (Nat × List Value)} {l : List IntAt} {q1 q2 q3 q4 q5 q6 q7 q8 : OwnAt} {gi : Nat} {b is : Bool} (h : Mo w.heap.size w L l [q1, q2, q3, q4] wr) (hg : gi < w.heap.size) (hc : wr.cell? ⟨gi, 0, none⟩ = some (.bool b))
  (O : ∀ B, B ≤ wr.heap.size → Owns B wr [q1, q2] → (∀ q ∈ [q1, q2], q.v.ownBlock ≠ some gi) → Owns B w' [q5, q6, q7, q8] ∧ OneOf wr.heap.size [q1, q2] [q5, q6, q7, q8]) (hb : Below wr.heap.size (wr.setCell ⟨gi, 0, none⟩ (.bool is)) w') : Mo w.heap.size (w.setCell ⟨gi, 0, none⟩ (.bool is)) L l [q5, q6, q7, q8, q3, q4] w' := by
 have hO := h.own2 0 1 rfl rfl (by decide)
 have P := O _ h.szB hO (fun q hq e => by have := ((hO.1 q hq).lt e).1; omega)
 have hz : (wr.setCell ⟨gi, 0, none⟩ (.bool is)).heap.size = wr.heap.size := by simp [World.setCell]
 exact (h.outer hg hc (.bool is)).low (by rw [hz]; exact hb) P.1 (by rw [hz]; exact P.2)
theorem Mo.gcell {B : Nat} {w wr : World} {L : List (Nat × List Value)} {l : List IntAt} {o : List OwnAt} {gi : Nat} {x : Value} (h : Mo B w L l o wr) (hg : gi < w.heap.size) (hc : w.cell? ⟨gi, 0, none⟩ = some x) : wr.cell? ⟨gi, 0, none⟩ = some x := (h.1.cell (p := ⟨gi, 0, none⟩) hg).trans hc
theorem Mo.gfroz {B : Nat} {w wr : World} {L : List (Nat × List Value)} {l : List IntAt} {o : List OwnAt} {gi : Nat} {b : Bool} (h : Mo B w L l o wr) (hg : gi < w.heap.size) (hc : w.frozen? ⟨gi, 0, none⟩ = b) : wr.frozen? ⟨gi, 0, none⟩ = b := ((bcell h.1).2 gi 0 hg).trans hc
theorem Mo.glt {B : Nat} {w wr : World} {L : List (Nat × List Value)} {l : List IntAt} {o : List OwnAt} {gi : Nat} (h : Mo B w L l o wr) (hg : gi < w.heap.size) : gi < wr.heap.size := Nat.lt_of_lt_of_le hg h.1.size
theorem Mo.four0 {B : Nat} {w wr : World} {L : List (Nat × List Value)} {l : List IntAt} {q1 q2 q3 q4 q5 q6 : OwnAt} (h : Mo B w L l [q1, q2, q3, q4, q5, q6] wr) : Owns B wr [q1, q2, q3, q4] := h.own4 0 1 2 3 rfl rfl rfl rfl (by decide)
end Go.Proofs.YtgekmbfmfiikkaaGreatDoor
