/-
  Parts of a turn (package turn): the table of parts (turn.units).
-/
import Derived.Test.YtpnhjgjojnchaaaGreatDoorZero
import Derived.Test.YtpnhjgjojnchaaaGreatDoorRoot
import Derived.Test.YtpnhjgjojnchaaaGreatDoorSto
namespace Go.Proofs.YtpnhjgjojnchaaaGreatDoor
open Go.RowKit

@[go_sem] theorem run_store_complex {P : Program} {w : World} {a : Addr} {m : Mode} (k : FloatKind) (x y : Nat) : (store a (.complex k x y) m).run P w = stored P w a (.complex k x y) m := run_store P w a _ m rfl

def fop (f : Nat → Nat → Option Nat) (x y : Nat) : Nat := (f x y).getD 0
def fsq (x : Nat) : Nat := (Ieee.double.sqrt x).getD 0
def one : Nat := 4607182418800017408
def two : Nat := 4611686018427387904
/-- The parts: the cosine and the sine behind k halvings. -/
def cT : Nat → Nat
  | 0 => 0
  | k + 1 => fsq (fop Ieee.double.div (fop Ieee.double.add one (cT k)) two)
def sT : Nat → Nat
  | 0 => one
  | k + 1 => if k = 0 then cT 1 else fop Ieee.double.div (sT k) (fop Ieee.double.mul two (cT (k + 1)))
def PartV (k j : Nat) : Value := if 3 ≤ j ∧ j < k + 3 then .complex .f64 (cT (j - 2)) (sT (j - 2)) else .complex .f64 0 0
/-- The array of the parts, k of them laid. -/
def Parts (k g : Nat) (wr : World) : Prop := g < wr.heap.size ∧ ∀ j, j < 17 → wr.cell? ⟨g, j, none⟩ = some (PartV k j) ∧ wr.frozen? ⟨g, j, none⟩ = false
theorem Parts.below {k g : Nat} {wr w' : World} (h : Parts k g wr) (hb : Below wr.heap.size wr w') : Parts k g w' :=
  ⟨Nat.lt_of_lt_of_le h.1 hb.size, fun j hj => ⟨((bcell hb).1 _ _ h.1).trans (h.2 j hj).1, ((bcell hb).2 _ _ h.1).trans (h.2 j hj).2⟩⟩
theorem Parts.drewN {k g : Nat} {wr : World} (h : Parts k g wr) (n : Nat) : Parts k g (wr.drewN n) := h
end Go.Proofs.YtpnhjgjojnchaaaGreatDoor
