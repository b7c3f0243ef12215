/-
  The references' spans (polestarref05): Do of any operation and any two spans.
-/
import Derived.Test.YtcjpocepgkfkaaaFrZ
import Derived.Test.YtcjpocepgkfkaaaSpnZ
namespace Go.Proofs.Ytcjpocepgkfkaaa
open Go.RowKit

theorem RetSp.mono {W : World} {q q' : Nat × Nat × Int → Prop} {e : Ending} {w' : World} (h : RetSp W q e w') (k : ∀ p, q p → q' p) : RetSp W q' e w' := by
  obtain ⟨p, h1, h2⟩ := h
  exact ⟨p, k p h1, h2⟩
theorem ref5_do_any (k : Nat) (hk : k < 4) (la ha lb hb : Nat) (b1 : la < 2 ^ 64) (b2 : ha < 2 ^ 64) (b3 : lb < 2 ^ 64) (b4 : hb < 2 ^ 64) (w : World) :
    Calls Try.prog 5 #[.int .i64 (k : Int), .agg #[.float .f64 la, .float .f64 ha], .agg #[.float .f64 lb, .float .f64 hb]] w (RetSp w (DoR k la ha lb hb)) := by
  rcases okI_cases la ha with ⟨a1, _⟩ | ⟨a1, _⟩
  · rcases okI_cases lb hb with ⟨c1, _⟩ | ⟨c1, _⟩
    · have hok : (okS la ha && okS lb hb) = true := by rw [a1, c1]; rfl
      have good : ∀ k', (k' = 3 → zB lb hb = false) → ∀ p, DoE k' la ha lb hb p → DoR k' la ha lb hb p := fun k' hz p hp => ⟨fun h => by rw [hok] at h; exact absurd h (by decide), fun _ h3 hz' => by rw [hz h3] at hz'; exact absurd hz' (by decide), fun _ _ => hp⟩
      match k, hk with
      | 0, _ => exact (ref5_do_0 la ha lb hb b1 b2 b3 b4 a1 c1 w).mono (fun e w' h => h.mono (good 0 (by omega)))
      | 1, _ => exact (ref5_do_1 la ha lb hb b1 b2 b3 b4 a1 c1 w).mono (fun e w' h => h.mono (good 1 (by omega)))
      | 2, _ => exact (ref5_do_2 la ha lb hb b1 b2 b3 b4 a1 c1 w).mono (fun e w' h => h.mono (good 2 (by omega)))
      | 3, _ =>
        cases o2 : (Ieee.double.order lb 0 == some .lt || Ieee.double.order lb 0 == some .eq) with
        | false =>
          have hz : zB lb hb = false := by unfold zB leB; rw [o2]; rfl
          exact (ref5_do_3a la ha lb hb b1 b2 b3 b4 a1 c1 hz o2 w).mono (fun e w' h => h.mono (good 3 (fun _ => hz)))
        | true =>
          cases o3 : (Ieee.double.order hb 0 == some .gt || Ieee.double.order hb 0 == some .eq) with
          | false =>
            have hz : zB lb hb = false := by unfold zB leB; rw [o2, o3]; rfl
            exact (ref5_do_3b la ha lb hb b1 b2 b3 b4 a1 c1 hz o2 o3 w).mono (fun e w' h => h.mono (good 3 (fun _ => hz)))
          | true =>
            have hz : zB lb hb = true := by unfold zB leB; rw [o2, o3]; rfl
            exact (ref5_do_zero la ha lb hb a1 c1 o2 o3 w).mono (fun e w' h => ⟨(0, 0, 3), ⟨fun h => by rw [hok] at h; exact absurd h (by decide), fun _ _ _ => rfl, fun _ h => by rw [hz] at h; exact absurd (h rfl) (by decide)⟩, h⟩)
    · have hok : (okS la ha && okS lb hb) = false := by rw [a1, c1]; rfl
      exact (ref5_do_no k la ha lb hb (Or.inr ⟨a1, c1⟩) w).mono (fun e w' h => ⟨(0, 0, 1), ⟨fun _ => rfl, fun h => by rw [hok] at h; exact absurd h (by decide), fun h => by rw [hok] at h; exact absurd h (by decide)⟩, h⟩)
  · have hok : (okS la ha && okS lb hb) = false := by rw [a1]; rfl
    exact (ref5_do_no k la ha lb hb (Or.inl a1) w).mono (fun e w' h => ⟨(0, 0, 1), ⟨fun _ => rfl, fun h => by rw [hok] at h; exact absurd h (by decide), fun h => by rw [hok] at h; exact absurd h (by decide)⟩, h⟩)
end Go.Proofs.Ytcjpocepgkfkaaa
