/-
  A block of two fractions.
-/
import Derived.Test.YtcjpocepgkfkaaaGreatFrY
namespace Go.Proofs.YtcjpocepgkfkaaaGreat
open Go.RowKit

def two2 (a b : FrE) (i : Nat) : FrE := if i = 0 then a else b
theorem two2_l {a b : FrE} {r : Rat} (h : a.2.2 = r) : (two2 a b 0).2.2 = r := h
theorem two2_r {a b : FrE} {r : Rat} (h : b.2.2 = r) : (two2 a b 1).2.2 = r := h
theorem frs_two (w : World) {g : Nat} (hg : w.heap.size = g) (a b : FrE) (ha : FrE.at_ w a) (hb : FrE.at_ w b) (t : TypeId) : Frs (w.alloc (.cells #[.bool a.1.1, .slice a.1.2.1 a.1.2.2.1 a.1.2.2.2, .bool a.2.1.1, .slice a.2.1.2.1 a.2.1.2.2.1 a.2.1.2.2.2, .bool b.1.1, .slice b.1.2.1 b.1.2.2.1 b.1.2.2.2, .bool b.2.1.1, .slice b.2.1.2.1 b.2.1.2.2.1 b.2.1.2.2.2] t)) g 2 (two2 a b) := by
  subst hg
  refine ⟨by simp, fun i hi => ?_⟩
  have hA : FrE.at_ (w.alloc (.cells #[.bool a.1.1, .slice a.1.2.1 a.1.2.2.1 a.1.2.2.2, .bool a.2.1.1, .slice a.2.1.2.1 a.2.1.2.2.1 a.2.1.2.2.2, .bool b.1.1, .slice b.1.2.1 b.1.2.2.1 b.1.2.2.2, .bool b.2.1.1, .slice b.2.1.2.1 b.2.1.2.2.1 b.2.1.2.2.2] t)) a := ⟨ha.1.alloc _, ha.2.alloc _⟩
  have hB : FrE.at_ (w.alloc (.cells #[.bool a.1.1, .slice a.1.2.1 a.1.2.2.1 a.1.2.2.2, .bool a.2.1.1, .slice a.2.1.2.1 a.2.1.2.2.1 a.2.1.2.2.2, .bool b.1.1, .slice b.1.2.1 b.1.2.2.1 b.1.2.2.2, .bool b.2.1.1, .slice b.2.1.2.1 b.2.1.2.2.1 b.2.1.2.2.2] t)) b := ⟨hb.1.alloc _, hb.2.alloc _⟩
  match i, hi with
  | 0, _ => exact ⟨⟨by simp [go_sem, two2], by simp [go_sem, two2], by simp [go_sem, two2], by simp [go_sem, two2]⟩, hA⟩
  | 1, _ => exact ⟨⟨by simp [go_sem, two2], by simp [go_sem, two2], by simp [go_sem, two2], by simp [go_sem, two2]⟩, hB⟩
  | (k + 2), hi => exact absurd hi (by omega)

end Go.Proofs.YtcjpocepgkfkaaaGreat
