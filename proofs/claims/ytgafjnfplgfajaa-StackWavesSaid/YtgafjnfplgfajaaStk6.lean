/-
  Films by floats: copies of lists of coats (polestarlaw01.TwinCoats, SameCoat, LeftCoats).
-/
import Derived.Test.YtgafjnfplgfajaaStk2
import Derived.Test.YtgafjnfplgfajaaSame
import Derived.Deep.RegionHeld3
namespace Go.Proofs.Ytgafjnfplgfajaa
open Go.RowKit

theorem info_coat : (Try.prog.info? 57).map (fun i => (i.zero, i.size, i.bytes)) = some (some (.agg #[.float .f64 0, .int .i64 0, .int .i64 0]), 3, 24) := by kernel_rfl
/-- The cells of coats. -/
def coatsV (C : Nat → Coat) : Nat → List Value
  | 0 => []
  | k + 1 => coatsV C k ++ [.float .f64 (C k).1, .int .i64 (C k).2.1, .int .i64 (C k).2.2]
theorem coatsV_len (C : Nat → Coat) : ∀ k, (coatsV C k).length = k * 3
  | 0 => rfl
  | k + 1 => by rw [coatsV, List.length_append, coatsV_len C k]; simp; omega
theorem coatsV_at (C : Nat → Coat) : ∀ k i, i < k → (coatsV C k)[i * 3]? = some (.float .f64 (C i).1) ∧ (coatsV C k)[i * 3 + 1]? = some (.int .i64 (C i).2.1) ∧ (coatsV C k)[i * 3 + 2]? = some (.int .i64 (C i).2.2)
  | 0, i, h => absurd h (by omega)
  | k + 1, i, h => by
    have hl := coatsV_len C k
    rcases Nat.lt_or_ge i k with h1 | h1
    · obtain ⟨a, b, c⟩ := coatsV_at C k i h1
      rw [coatsV, List.getElem?_append_left (by omega), List.getElem?_append_left (by omega), List.getElem?_append_left (by omega)]
      exact ⟨a, b, c⟩
    · obtain rfl : i = k := by omega
      rw [coatsV, List.getElem?_append_right (by omega), List.getElem?_append_right (by omega), List.getElem?_append_right (by omega), hl]
      refine ⟨?_, ?_, ?_⟩
      · rw [show i * 3 - i * 3 = 0 by omega]; rfl
      · rw [show i * 3 + 1 - i * 3 = 1 by omega]; rfl
      · rw [show i * 3 + 2 - i * 3 = 2 by omega]; rfl
theorem three_new (w : World) (t : TypeId) (a b c : Value) : ∀ j u, [a, b, c][j]? = some u → (w.alloc (.cells #[a, b, c] t)).cell? ((⟨w.heap.size, 0, none⟩ : Addr).add j) = some u := by
  obtain ⟨ad, e, _, hc⟩ := (reads_new w t [a, b, c]).2 (by simp)
  injection e with e
  subst e
  exact hc
theorem three_one (N : Nat) (K T : Int) : ∀ u ∈ ([.float .f64 N, .int .i64 K, .int .i64 T] : List Value), u.oneCell' = true := by
  intro u hu
  simp at hu
  rcases hu with rfl | rfl | rfl <;> rfl
/-- What a copy of a list of coats is: the same coats, a mark behind. -/
def Twn (w : World) (g n c : Nat) (C : Nat → Coat) : Prop :=
  n < c ∧ g < w.heap.size ∧ (∀ i, i < n → w.cell? ⟨g, i * 3, none⟩ = some (.float .f64 (C i).1) ∧ w.cell? ⟨g, i * 3 + 1, none⟩ = some (.int .i64 (C i).2.1) ∧ w.cell? ⟨g, i * 3 + 2, none⟩ = some (.int .i64 (C i).2.2)) ∧
  w.cell? ⟨g, n * 3, none⟩ = some (.float .f64 0) ∧ w.cell? ⟨g, n * 3 + 1, none⟩ = some (.int .i64 7777) ∧ w.cell? ⟨g, n * 3 + 2, none⟩ = some (.int .i64 0)
theorem Twn.below {w w' : World} {g n c : Nat} {C : Nat → Coat} (h : Twn w g n c C) (hb : Below w.heap.size w w') : Twn w' g n c C := by
  obtain ⟨h1, h2, h3, h4, h5, h6⟩ := h
  obtain ⟨bc, _⟩ := bcell hb
  exact ⟨h1, Nat.lt_of_lt_of_le h2 hb.size, fun i hi => ⟨(bc _ _ h2).trans (h3 i hi).1, (bc _ _ h2).trans (h3 i hi).2.1, (bc _ _ h2).trans (h3 i hi).2.2⟩, (bc _ _ h2).trans h4, (bc _ _ h2).trans h5, (bc _ _ h2).trans h6⟩
theorem Twn.coats {w : World} {g n c : Nat} {C : Nat → Coat} (h : Twn w g n c C) (hl : ∀ i, i < n → (C i).1 < 2 ^ 64) : Cs w (some ⟨g, 0, none⟩) n C := fun _ =>
  ⟨g, 0, rfl, h.2.1, fun i hi => by
    obtain ⟨a, b, c⟩ := h.2.2.1 i hi
    rw [Nat.zero_add]
    exact ⟨a, b, c, hl i hi⟩⟩
def RetTwn (W : World) (n : Nat) (C : Nat → Coat) (e : Ending) (w' : World) : Prop :=
  ∃ g c, e = .returned (.slice (some ⟨g, 0, none⟩) n c) ∧ Twn w' g n c C ∧ Below W.heap.size W w'
set_option maxRecDepth 100000 in
set_option maxHeartbeats 1600000 in
theorem twin_coats_any (A : Option Addr) (n c : Nat) (C : Nat → Coat) (w : World) (hC : Cs w A n C) (hn : n ≤ 1048576) :
    Calls Try.prog 7 #[.slice A n c] w (RetTwn w n C) := by
  obtain ⟨i0, hi, hz0, hz1, hz2⟩ := info_parts info_coat
  have e1 : (((n : Nat) : Int) + 1) = ((n + 1 : Nat) : Int) := by omega
  have HE := Lib.hid e1
  clear e1
  go_enter Try.func7, Try.ntmps7
  go_wp2_with (at_make; refine wpList_make_own _ rfl _ _ 23 rfl w.heap.size 57 i0 (.agg #[.float .f64 0, .int .i64 0, .int .i64 0]) 3 Try.underlying23 hi hz0 hz1 _ _ _ (n + 1) rfl rfl ?c1 ?c2 ?c3 ?c4 ?_)
  case c1 => exact HE.out
  case c2 => rw [hz2]; omega
  case c3 => unfold maxLen; omega
  case c4 => exact Nat.le_refl _
  intro w1 hown hgrow
  have hb1 : Below w.heap.size w w1 := (Below.refl _ _).grown hgrow (Nat.le_refl _) (fun k hk => by cases hk)
  clear hgrow
  go_wp2_with fail
  go_loopw [3, 4] (fun t i wr => ∃ k : Nat, k ≤ n ∧ t = .slice (some ⟨w.heap.size, 0, none⟩) k (n + 1) ∧ i = .int .i64 (k : Int) ∧ wr.ownsRow w.heap.size 57 3 (.slice (some ⟨w.heap.size, 0, none⟩) k (n + 1)) k (coatsV C k) ∧ Below w.heap.size w wr)
    (fun _ i _ => n - (intOf i).toNat)
  case atStart => exact ⟨0, Nat.zero_le _, rfl, rfl, hown, hb1⟩
  case round =>
    clear hown hb1
    obtain ⟨k, hk, rfl, rfl, hown, hb⟩ := hrel
    have hsz := (hown.lt _ rfl).2
    by_cases hlt : k < n
    · obtain ⟨g, o, rfl, hg, hc⟩ := (hC.below hb) (by omega)
      obtain ⟨c0, c1, c2, c3⟩ := hc k hlt
      have HV : Hid (coatsV C (k + 1) = coatsV C k ++ [.float .f64 (C k).1, .int .i64 (C k).2.1, .int .i64 (C k).2.2]) := Lib.hid rfl
      obtain ⟨⟨N, K, T⟩, hct⟩ : ∃ t, C k = t := ⟨_, rfl⟩
      rw [hct] at c0 c1 c2 HV
      have hlt' : (k : Int) < (n : Int) := by omega
      have hk0 : (0 : Int) ≤ (k : Int) := Int.natCast_nonneg _
      clear hc hct c3
      go_wp2_with (at_builtin; refine wpList_append_fits _ rfl _ _ 23 rfl w.heap.size 57 i0 3 Try.underlying23 hi hz1 w.heap.size k (n + 1) (coatsV C k) rfl (hown.alloc _) ⟨wr.heap.size, 0, none⟩ 1 1 [.float .f64 N, .int .i64 K, .int .i64 T] rfl rfl (three_new _ _ _ _ _) (three_one _ _ _) (by omega) ?_)
      intro w2 hown2 hgrow2
      have hb2 : Below w.heap.size w w2 := (hb.alloc (by omega) _).grown hgrow2 (by simp; omega) (fun k hk => by injection hk with hk; omega)
      rw [← HV.out] at hown2
      clear hown hgrow2
      go_wp2_with fail
      go_roundw
      case rel => exact ⟨k + 1, hlt, rfl, by go_num, hown2, hb2⟩
      case measure => simp [intOf]; omega
    · obtain rfl : k = n := by omega
      go_wp2_with (at_builtin; refine wpList_append_fits _ rfl _ _ 23 rfl w.heap.size 57 i0 3 Try.underlying23 hi hz1 w.heap.size k (k + 1) (coatsV C k) rfl (hown.alloc _) ⟨wr.heap.size, 0, none⟩ 1 1 [.float .f64 0, .int .i64 7777, .int .i64 0] rfl rfl (three_new _ _ _ _ _) (three_one _ _ _) (by omega) ?_)
      intro w2 hown2 hgrow2
      have hb2 : Below w.heap.size w w2 := (hb.alloc (by omega) _).grown hgrow2 (by simp; omega) (fun k hk => by injection hk with hk; omega)
      clear hown hgrow2
      go_wp2_with fail
      go_ret
      have ha : ∀ j, j < (k + 1) * 3 → w2.cell? ⟨w.heap.size, j, none⟩ = (coatsV C k ++ [.float .f64 0, .int .i64 7777, .int .i64 0])[j]? := fun j hj => hown2.cellAt j hj
      have hl := coatsV_len C k
      refine ⟨w.heap.size, k + 1, rfl, ⟨by omega, (hown2.lt _ rfl).2, fun i hi => ?_, ?_, ?_, ?_⟩, hb2⟩
      · obtain ⟨a, b, c⟩ := coatsV_at C k i hi
        refine ⟨?_, ?_, ?_⟩
        · rw [ha _ (by omega), List.getElem?_append_left (by omega)]; exact a
        · rw [ha _ (by omega), List.getElem?_append_left (by omega)]; exact b
        · rw [ha _ (by omega), List.getElem?_append_left (by omega)]; exact c
      · rw [ha _ (by omega), List.getElem?_append_right (by omega), hl, show k * 3 - k * 3 = 0 by omega]; rfl
      · rw [ha _ (by omega), List.getElem?_append_right (by omega), hl, show k * 3 + 1 - k * 3 = 1 by omega]; rfl
      · rw [ha _ (by omega), List.getElem?_append_right (by omega), hl, show k * 3 + 2 - k * 3 = 2 by omega]; rfl
theorem sameFloat_self (x : Nat) (w : World) : Calls Try.prog 39 #[.float .f64 x, .float .f64 x] w fun e w' => e = .returned (.bool true) ∧ w = w' := by
  refine (law_sameFloat x x w).mono fun e w' h => ⟨?_, h.2⟩
  rw [h.1, Flt.sameB_iff.2 (Or.inl rfl)]
set_option maxHeartbeats 800000 in
theorem same_coat_self (N : Nat) (K T : Int) (w : World) : Calls Try.prog 40 #[.agg #[.float .f64 N, .int .i64 K, .int .i64 T], .agg #[.float .f64 N, .int .i64 K, .int .i64 T]] w fun e w' => e = .returned (.bool true) ∧ Below w.heap.size w w' := by
  go_enter Try.func40, Try.ntmps40
  go_wp2_with (go_at_call 39; (with_reducible refine (sameFloat_self N _).mono ?_); rintro e1 w1 ⟨rfl, rfl⟩)
  go_ret
  exact ⟨rfl, ((Below.refl _ _).alloc (Nat.le_refl _) _).alloc (by simp) _⟩
set_option maxRecDepth 100000 in
set_option maxHeartbeats 3200000 in
theorem left_coats_any (A : Option Addr) (n c g c' : Nat) (C : Nat → Coat) (w : World) (hC : Cs w A n C) (hT : Twn w g n c' C) (hn : n ≤ 1048576) :
    Calls Try.prog 11 #[.slice (some ⟨g, 0, none⟩) n c', .slice A n c] w (RetV w (.bool true)) := by
  have hq : ∀ w, (Op.equalIn 9999 22 (.float .f64 0) (.float .f64 0)).run Try.prog w = .ok true w := fun _ => by kernel_rfl
  have hcap : ¬ (c' : Int) ≤ (n : Int) := by have := hT.1; omega
  have hcap2 : n + 1 ≤ c' := hT.1
  have hcap3 : (n : Int) + 1 ≤ (c' : Int) := by omega
  have hl0 : (0 : Int) ≤ (n : Int) + 1 := by omega
  have hl1 : (n : Int) < (n : Int) + 1 := by omega
  go_enter Try.func11, Try.ntmps11
  go_wp2_with fail
  go_loopw [5] (fun i wr => ∃ k : Nat, k ≤ n ∧ i = .int .i64 (k : Int) ∧ Below w.heap.size w wr) (fun i _ => n - (intOf i).toNat)
  case atStart => exact ⟨0, Nat.zero_le _, rfl, Below.refl _ _⟩
  case round =>
    obtain ⟨k, hk, rfl, hb⟩ := hrel
    by_cases hlt : k < n
    · obtain ⟨g1, o, rfl, hg1, hc1⟩ := (hC.below hb) (by omega)
      obtain ⟨c0, c1, c2, c3⟩ := hc1 k hlt
      obtain ⟨_, hg, hc2, _⟩ := hT.below hb
      obtain ⟨d0, d1, d2⟩ := hc2 k hlt
      obtain ⟨⟨N, K, T⟩, hct⟩ : ∃ t, C k = t := ⟨_, rfl⟩
      rw [hct] at c0 c1 c2 d0 d1 d2
      have hlt' : (k : Int) < (n : Int) := by omega
      have hk0 : (0 : Int) ≤ (k : Int) := Int.natCast_nonneg _
      clear hc1 hct c3 hc2
      go_wp2_with fail
      go_region_held3 (fun w' => w'.cell? ⟨g, k * 3, none⟩ = some (.float .f64 N) ∧ w'.cell? ⟨g, k * 3 + 1, none⟩ = some (.int .i64 K) ∧ w'.cell? ⟨g, k * 3 + 2, none⟩ = some (.int .i64 T) ∧ w'.cell? ⟨g1, o + k * 3, none⟩ = some (.float .f64 N) ∧ w'.cell? ⟨g1, o + k * 3 + 1, none⟩ = some (.int .i64 K) ∧ w'.cell? ⟨g1, o + k * 3 + 2, none⟩ = some (.int .i64 T))
        (first | exact ⟨d0, d1, d2, c0, c1, c2⟩ | exact hh | go_keep)
        (first
          | (go_at_call 40; (with_reducible refine (same_coat_self N K T _).mono ?_); rintro e2 w2 ⟨rfl, hb2⟩; have hh := And.intro (((bcell hb2).1 _ _ hg).trans d0) (And.intro (((bcell hb2).1 _ _ hg).trans d1) (And.intro (((bcell hb2).1 _ _ hg).trans d2) (And.intro (((bcell hb2).1 _ _ hg1).trans c0) (And.intro (((bcell hb2).1 _ _ hg1).trans c1) (((bcell hb2).1 _ _ hg1).trans c2)))))))
      go_wp2_with fail
      refine ⟨⟨k + 1, hlt, congrArg (Value.int .i64) (by omega), below_next hb (by first | exact hb2 | exact below_of_drew hb2)⟩, ?_⟩
      simp [intOf]
      omega
    · obtain rfl : k = n := by omega
      obtain ⟨_, hg, _, m0, m1, m2⟩ := hT.below hb
      go_wp2_with fail
      go_ret
      exact ⟨rfl, hb.alloc hb.size _⟩
end Go.Proofs.Ytgafjnfplgfajaa
