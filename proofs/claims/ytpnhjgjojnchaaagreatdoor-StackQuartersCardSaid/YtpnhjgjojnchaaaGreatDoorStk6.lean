/-
  Films by floats: copies of lists of coats (polestarlaw01.TwinCoats, SameCoat, LeftCoats).
-/
import Derived.Test.YtpnhjgjojnchaaaGreatDoorStk2
import Derived.Test.YtpnhjgjojnchaaaGreatDoorSame
import Derived.Deep.RegionHeld3
namespace Go.Proofs.YtpnhjgjojnchaaaGreatDoor
open Go.RowKit

theorem info_coat : (Tryz.prog.info? 105).map (fun i => (i.zero, i.size, i.bytes)) = some (some (.agg #[.float .f64 0, .int .i64 0, .int .i64 0]), 3, 24) := by kernel_rfl
/-- The cells of coats. -/
def coatsV (C : Nat → Coat) : Nat → List Value
  | 0 => []
  | k + 1 => coatsV C k ++ [.float .f64 (C k).1, .int .i64 (C k).2.1, .int .i64 (C k).2.2]
theorem coatsV_len (C : Nat → Coat) : ∀ k, (coatsV C k).length = k * 3
  | 0 => rfl
  | k + 1 => by rw [coatsV, List.length_append, coatsV_len C k]; simp; omega
theorem coatsV_at (C : Nat → Coat) : ∀ k i, i < k → (coatsV C k)[i * 3]? = some (.float .f64 (C i).1) ∧ (coatsV C k)[i * 3 + 1]? = some (.int .i64 (C i).2.1) ∧ (coatsV C k)[i * 3 + 2]? = some (.int .i64 (C i).2.2)
  | 0, i, h => absurd h (by omega)
  | k + 1, i, h => by
    have hl := coatsV_len C k
    rcases Nat.lt_or_ge i k with h1 | h1
    · obtain ⟨a, b, c⟩ := coatsV_at C k i h1
      rw [coatsV, List.getElem?_append_left (by omega), List.getElem?_append_left (by omega), List.getElem?_append_left (by omega)]
      exact ⟨a, b, c⟩
    · obtain rfl : i = k := by omega
      rw [coatsV, List.getElem?_append_right (by omega), List.getElem?_append_right (by omega), List.getElem?_append_right (by omega), hl]
      refine ⟨?_, ?_, ?_⟩
      · rw [show i * 3 - i * 3 = 0 by omega]; rfl
      · rw [show i * 3 + 1 - i * 3 = 1 by omega]; rfl
      · rw [show i * 3 + 2 - i * 3 = 2 by omega]; rfl
theorem three_new (w : World) (t : TypeId) (a b c : Value) : ∀ j u, [a, b, c][j]? = some u → (w.alloc (.cells #[a, b, c] t)).cell? ((⟨w.heap.size, 0, none⟩ : Addr).add j) = some u := by
  obtain ⟨ad, e, _, hc⟩ := (reads_new w t [a, b, c]).2 (by simp)
  injection e with e
  subst e
  exact hc
/-- What a copy of a list of coats is: the same coats, a mark behind. -/
def Twn (w : World) (g n c : Nat) (C : Nat → Coat) : Prop :=
  n < c ∧ g < w.heap.size ∧ (∀ i, i < n → w.cell? ⟨g, i * 3, none⟩ = some (.float .f64 (C i).1) ∧ w.cell? ⟨g, i * 3 + 1, none⟩ = some (.int .i64 (C i).2.1) ∧ w.cell? ⟨g, i * 3 + 2, none⟩ = some (.int .i64 (C i).2.2)) ∧
  w.cell? ⟨g, n * 3, none⟩ = some (.float .f64 0) ∧ w.cell? ⟨g, n * 3 + 1, none⟩ = some (.int .i64 7777) ∧ w.cell? ⟨g, n * 3 + 2, none⟩ = some (.int .i64 0)
theorem Twn.below {w w' : World} {g n c : Nat} {C : Nat → Coat} (h : Twn w g n c C) (hb : Below w.heap.size w w') : Twn w' g n c C := by
  obtain ⟨h1, h2, h3, h4, h5, h6⟩ := h
  obtain ⟨bc, _⟩ := bcell hb
  exact ⟨h1, Nat.lt_of_lt_of_le h2 hb.size, fun i hi => ⟨(bc _ _ h2).trans (h3 i hi).1, (bc _ _ h2).trans (h3 i hi).2.1, (bc _ _ h2).trans (h3 i hi).2.2⟩, (bc _ _ h2).trans h4, (bc _ _ h2).trans h5, (bc _ _ h2).trans h6⟩
theorem Twn.coats {w : World} {g n c : Nat} {C : Nat → Coat} (h : Twn w g n c C) (hl : ∀ i, i < n → (C i).1 < 2 ^ 64) : Cs w (some ⟨g, 0, none⟩) n C := fun _ =>
  ⟨g, 0, rfl, h.2.1, fun i hi => by
    obtain ⟨a, b, c⟩ := h.2.2.1 i hi
    rw [Nat.zero_add]
    exact ⟨a, b, c, hl i hi⟩⟩
theorem sameFloat_self (x : Nat) (w : World) : Calls Tryz.prog 111 #[.float .f64 x, .float .f64 x] w fun e w' => e = .returned (.bool true) ∧ w = w' := by
  refine (law_sameFloat x x w).mono fun e w' h => ⟨?_, h.2⟩
  rw [h.1, Flt.sameB_iff.2 (Or.inl rfl)]
set_option maxHeartbeats 800000 in
theorem same_coat_self (N : Nat) (K T : Int) (w : World) : Calls Tryz.prog 57 #[.agg #[.float .f64 N, .int .i64 K, .int .i64 T], .agg #[.float .f64 N, .int .i64 K, .int .i64 T]] w fun e w' => e = .returned (.bool true) ∧ Below w.heap.size w w' := by
  go_enter Tryz.func57, Tryz.ntmps57
  go_wp2_with (go_at_call 111; (with_reducible refine (sameFloat_self N _).mono ?_); rintro e1 w1 ⟨rfl, rfl⟩)
  go_ret
  exact ⟨rfl, ((Below.refl _ _).alloc (Nat.le_refl _) _).alloc (by simp) _⟩
end Go.Proofs.YtpnhjgjojnchaaaGreatDoor
