/-
  The references' roots: of whole numbers (polestarref01), of floats (polestarref04).
-/
import Derived.Test.YtdmdaoginojalaaGreatDoorRefX
import Derived.Test.YtdmdaoginojalaaGreatDoorRootW
import Derived.Deep.LoopGhost
namespace Go.Proofs.YtdmdaoginojalaaGreatDoor
open Go.RowKit

/-! ### plain -/
/-! ### half, Root -/
/-- The world of the loop: the number, its root so far, the result's place. -/
def RtIn (w : World) (A : Option Addr) (n c k R : Nat) (wx : World) : Prop :=
  ∃ negr Ar nr cr, wx.cell? ⟨R, 0, none⟩ = some (.bool negr) ∧ wx.cell? ⟨R, 1, none⟩ = some (.slice Ar nr cr) ∧ IsInt wx negr Ar nr cr (k : Int) ∧
    wx.cell? ⟨w.heap.size, 0, none⟩ = some (.bool false) ∧ wx.cell? ⟨w.heap.size, 1, none⟩ = some (.slice A n c) ∧
    wx.cell? ⟨w.heap.size + 1, 0, none⟩ = some (.bool false) ∧ wx.cell? ⟨w.heap.size + 1, 1, none⟩ = some (.slice none 0 0) ∧ R < wx.heap.size ∧ w.heap.size + 1 < R ∧ Below w.heap.size w wx ∧
    wx.frozen? ⟨R, 0, none⟩ = false ∧ wx.frozen? ⟨R, 1, none⟩ = false ∧ wx.frozen? ⟨w.heap.size + 1, 0, none⟩ = false ∧ wx.frozen? ⟨w.heap.size + 1, 1, none⟩ = false
theorem RtIn.set {w wx : World} {A : Option Addr} {n c k R : Nat} {b0 : Bool} {a0 : Option Addr} {n0 c0 : Nat} {neg' : Bool} {A' : Option Addr} {n' c' : Nat}
    (hI : IsInt wx neg' A' n' c' (k : Int)) (h0 : wx.cell? ⟨R, 0, none⟩ = some (.bool b0)) (h1 : wx.cell? ⟨R, 1, none⟩ = some (.slice a0 n0 c0))
    (x0 : wx.cell? ⟨w.heap.size, 0, none⟩ = some (.bool false)) (x1 : wx.cell? ⟨w.heap.size, 1, none⟩ = some (.slice A n c))
    (x2 : wx.cell? ⟨w.heap.size + 1, 0, none⟩ = some (.bool false)) (x3 : wx.cell? ⟨w.heap.size + 1, 1, none⟩ = some (.slice none 0 0)) (hR : R < wx.heap.size) (hs : w.heap.size + 1 < R) (hb : Below w.heap.size w wx)
    (f0 : wx.frozen? ⟨R, 0, none⟩ = false) (f1 : wx.frozen? ⟨R, 1, none⟩ = false) (f2 : wx.frozen? ⟨w.heap.size + 1, 0, none⟩ = false) (f3 : wx.frozen? ⟨w.heap.size + 1, 1, none⟩ = false) :
    RtIn w A n c k R ((wx.setCell ⟨R, 0, none⟩ (.bool neg')).setCell ⟨R, 1, none⟩ (.slice A' n' c')) := by
  refine ⟨neg', A', n', c', by simp [go_sem, h0], by simp [go_sem, h1], isInt_result hI h0 h1 _ _, ?_, ?_, ?_, ?_, ?_, hs, below_result hb (by omega) _ _, by simpa using f0, by simpa using f1, by simpa using f2, by simpa using f3⟩
  · exact (cell_far wx R _ _ ⟨w.heap.size, 0, none⟩ (show ¬ w.heap.size = R by omega)).trans x0
  · exact (cell_far wx R _ _ ⟨w.heap.size, 1, none⟩ (show ¬ w.heap.size = R by omega)).trans x1
  · exact (cell_far wx R _ _ ⟨w.heap.size + 1, 0, none⟩ (show ¬ w.heap.size + 1 = R by omega)).trans x2
  · exact (cell_far wx R _ _ ⟨w.heap.size + 1, 1, none⟩ (show ¬ w.heap.size + 1 = R by omega)).trans x3
  · simpa [World.setCell] using hR
theorem RtIn.new {w wx : World} {A : Option Addr} {n c k : Nat} {neg' : Bool} {A' : Option Addr} {n' c' : Nat} (t : TypeId)
    (hI : IsInt wx neg' A' n' c' (k : Int))
    (x0 : wx.cell? ⟨w.heap.size, 0, none⟩ = some (.bool false)) (x1 : wx.cell? ⟨w.heap.size, 1, none⟩ = some (.slice A n c))
    (x2 : wx.cell? ⟨w.heap.size + 1, 0, none⟩ = some (.bool false)) (x3 : wx.cell? ⟨w.heap.size + 1, 1, none⟩ = some (.slice none 0 0)) (hs : w.heap.size + 1 < wx.heap.size) (hb : Below w.heap.size w wx) (f2 : wx.frozen? ⟨w.heap.size + 1, 0, none⟩ = false) (f3 : wx.frozen? ⟨w.heap.size + 1, 1, none⟩ = false) :
    RtIn w A n c k wx.heap.size (wx.alloc (.cells #[.bool neg', .slice A' n' c'] t)) :=
  ⟨neg', A', n', c', by simp [go_sem], by simp [go_sem], hI.alloc _, cell_alloc _ _ (by omega) x0, cell_alloc _ _ (by omega) x1, cell_alloc _ _ (by omega) x2, cell_alloc _ _ (by omega) x3, by simp, hs, hb.alloc hb.size _, by simp [go_sem], by simp [go_sem], (frozen_alloc _ (by omega)).trans f2, (frozen_alloc _ (by omega)).trans f3⟩
end Go.Proofs.YtdmdaoginojalaaGreatDoor
