/-
  The references whole numbers (polestarref01): limbs, sums, products, comparisons.
-/
import Derived.Test.YtjcjphgpmpjmbaaDoorZero
import Derived.Deep.RegionHeld3
import Derived.StillTailTactics
/-! The references' whole numbers (polestarref01): limbs. -/
namespace Go.Proofs.YtjcjphgpmpjmbaaDoor
open Go.RowKit

/-- What 'signed' makes of limbs. -/
theorem isInt_signed {w : World} {neg : Bool} {A : Option Addr} {n c : Nat} {l : List Nat} (h : Sl w A n c l) (hne : Lm.trim l ≠ []) :
    IsInt w neg A (Lm.trim l).length c (sgnd neg (Lm.lv l)) :=
  ⟨Lm.trim l, h.trim, Lm.trim_canon l, fun e => absurd e hne, by rw [Lm.trim_lv]⟩
theorem isInt_nought {w : World} : IsInt w false none 0 0 0 := ⟨[], Sl.nil, Lm.canon_nil, fun _ => rfl, rfl⟩

end Go.Proofs.YtjcjphgpmpjmbaaDoor

/-! The references' whole numbers (polestarref01): limbs and limbs, limbs less limbs. -/
namespace Go.Proofs.YtjcjphgpmpjmbaaDoor
open Go.RowKit

theorem info_u32 : (Tryd.prog.info? 82).map (fun i => (i.zero, i.size, i.bytes)) = some (some (.int .u32 0), 1, 4) := by kernel_rfl

end Go.Proofs.YtjcjphgpmpjmbaaDoor




/-! The references' whole numbers (polestarref01): sums, differences, products. -/
namespace Go.Proofs.YtjcjphgpmpjmbaaDoor
open Go.RowKit

theorem sgnd_mul (s t : Bool) (a b : Nat) : sgnd (s != t) (a * b) = sgnd s a * sgnd t b := by
  unfold sgnd; cases s <;> cases t <;> simp [Int.neg_mul, Int.mul_neg]
theorem IsInt.alloc {w : World} {neg : Bool} {A : Option Addr} {n c : Nat} {z : Int} (h : IsInt w neg A n c z) (o : Obj) : IsInt (w.alloc o) neg A n c z := h.below ((Below.refl _ _).alloc (Nat.le_refl _) _)

end Go.Proofs.YtjcjphgpmpjmbaaDoor

/-! The references' whole numbers (polestarref01): signs, sizes, numbers of 64 bits. -/
namespace Go.Proofs.YtjcjphgpmpjmbaaDoor
open Go.RowKit

def RetV (W : World) (v : Value) (e : Ending) (w' : World) : Prop := e = .returned v ∧ Below W.heap.size W w'

theorem isInt_zero {w : World} {neg : Bool} {A : Option Addr} {n c : Nat} {z : Int} (h : IsInt w neg A n c z) : n = 0 ↔ z = 0 := by
  obtain ⟨l, h1, h2, h3, rfl⟩ := h
  have := h1.len
  have hz := Lm.lv_zero h2
  unfold sgnd
  constructor
  · intro e
    have : l = [] := List.eq_nil_of_length_eq_zero (by omega)
    rw [hz.2 this]; split <;> rfl
  · intro e
    have : Lm.lv l = 0 := by split at e <;> omega
    rw [hz.1 this] at h1
    exact h1.len.symm
theorem isInt_neg {w : World} {neg : Bool} {A : Option Addr} {n c : Nat} {z : Int} (h : IsInt w neg A n c z) : neg = decide (z < 0) := by
  obtain ⟨l, h1, h2, h3, rfl⟩ := h
  have hz := Lm.lv_zero h2
  unfold sgnd
  cases neg
  · simp
  · have : l ≠ [] := fun e => by have := h3 e; cases this
    have : Lm.lv l ≠ 0 := fun e => this (hz.1 e)
    simp; omega

theorem sl_new2_box (w : World) (o : Obj) (t : TypeId) (d d' : Nat) (hd : d < 4294967296) (hd' : d' < 4294967296) :
    Sl ((w.alloc o).alloc (.cells #[.int .u32 (d : Int), .int .u32 (d' : Int)] t)) (some ⟨w.heap.size + 1, 0, none⟩) 2 2 [d, d'] := by
  have h := sl_new2 (w.alloc o) t d d' hd hd'
  have e : (w.alloc o).heap.size = w.heap.size + 1 := by simp
  rwa [e] at h
theorem of_limbs (m : Nat) : Lm.lv [m % 4294967296, m / 4294967296] = m := by
  have := Nat.div_add_mod m 4294967296
  show m % 4294967296 + Lm.B * (m / 4294967296 + Lm.B * 0) = m
  have : Lm.B = 4294967296 := rfl
  rw [this]; omega

end Go.Proofs.YtjcjphgpmpjmbaaDoor

/-! The references' whole numbers (polestarref01): order. -/
namespace Go.Proofs.YtjcjphgpmpjmbaaDoor
open Go.RowKit

/-- Two numbers held against one another. -/
def icmp (x y : Int) : Int := if x < y then -1 else if y < x then 1 else 0

end Go.Proofs.YtjcjphgpmpjmbaaDoor
