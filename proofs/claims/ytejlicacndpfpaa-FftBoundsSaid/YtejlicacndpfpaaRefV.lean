/-
  The references whole numbers (polestarref01): shifts, bits, quotients.
-/
import Derived.Test.YtejlicacndpfpaaRefU
import Derived.Test.YtejlicacndpfpaaZero
/-! The references' whole numbers (polestarref01): differences, products. -/
namespace Go.Proofs.Ytejlicacndpfpaa
open Go.RowKit

theorem IsInt.drewN {w : World} {neg : Bool} {A : Option Addr} {n c : Nat} {z : Int} (h : IsInt w neg A n c z) (k : Nat) : IsInt (w.drewN k) neg A n c z := h

end Go.Proofs.Ytejlicacndpfpaa




/-! The references' whole numbers (polestarref01): bits; halved so many times. -/
namespace Go.Proofs.Ytejlicacndpfpaa
open Go.RowKit

theorem Sl.cut {w : World} {n c : Nat} {A : Option Addr} {l : List Nat} (h : Sl w A n c l) {k : Nat} (hk : k ≤ n) : Sl w (if c = k then A else A.map (·.add k)) (n - k) (c - k) (l.drop k) :=
  ⟨by have := h.1.cut (cap := c) hk h.cap; unfold u32s at this ⊢; rwa [List.map_drop], by have := h.cap; omega, Lm.ok_drop h.ok k⟩

end Go.Proofs.Ytejlicacndpfpaa



/-! The references' whole numbers (polestarref01): limbs by limbs. -/
namespace Go.Proofs.Ytejlicacndpfpaa
open Go.RowKit

theorem only_of_below {a w : World} (h : Below a.heap.size a w) : a.grownBy w none := ⟨h.os, h.tape, h.output, h.size, fun i hi _ => h.block i hi⟩
theorem own_kept {w w' : World} {base : Nat} {e : TypeId} {g n c : Nat} {xs : List Value} (h : w.ownsRow base e 1 (.slice (some ⟨g, 0, none⟩) n c) n xs) (hb : Below w.heap.size w w') : w'.ownsRow base e 1 (.slice (some ⟨g, 0, none⟩) n c) n xs :=
  h.kept (only_of_below hb) (.inr (by simp [Value.ownBlock]))
end Go.Proofs.Ytejlicacndpfpaa
