/-
  Films by floats: lists of coats; what all calls refuse first (stack.check, polestarref19.Check).
-/
import Derived.Test.YtgafjnfplgfajaaStk1
namespace Go.Proofs.Ytgafjnfplgfajaa
open Go.RowKit

abbrev Coat := Nat × Int × Int
/-- The slice value reads as coats. -/
def Cs (w : World) (A : Option Addr) (n : Nat) (C : Nat → Coat) : Prop :=
  0 < n → ∃ g o, A = some ⟨g, o, none⟩ ∧ g < w.heap.size ∧ ∀ i, i < n → w.cell? ⟨g, o + i * 3, none⟩ = some (.float .f64 (C i).1) ∧ w.cell? ⟨g, o + i * 3 + 1, none⟩ = some (.int .i64 (C i).2.1) ∧ w.cell? ⟨g, o + i * 3 + 2, none⟩ = some (.int .i64 (C i).2.2) ∧ (C i).1 < 2 ^ 64
theorem Cs.below {w w' : World} {A : Option Addr} {n : Nat} {C : Nat → Coat} (h : Cs w A n C) (hb : Below w.heap.size w w') : Cs w' A n C := fun h0 => by
  obtain ⟨g, o, rfl, hg, hc⟩ := h h0
  obtain ⟨bc, _⟩ := bcell hb
  exact ⟨g, o, rfl, Nat.lt_of_lt_of_le hg hb.size, fun i hi => ⟨(bc _ _ hg).trans (hc i hi).1, (bc _ _ hg).trans (hc i hi).2.1, (bc _ _ hg).trans (hc i hi).2.2.1, (hc i hi).2.2.2⟩⟩
theorem Cs.drewN {w : World} {A : Option Addr} {n : Nat} {C : Nat → Coat} (h : Cs w A n C) (k : Nat) : Cs (w.drewN k) A n C := h.below (below_drewN (Below.refl _ _) k)
def coatB (c : Coat) : Bool := idxF c.1 && decide (0 ≤ c.2.2) && decide (c.2.2 ≤ 16)
/-- What all calls refuse first. -/
def chkF (x y n : Nat) (C : Nat → Coat) : Int := if idxF x && idxF y then (if 64 < n then 4 else if (List.range n).all (fun i => coatB (C i)) then 0 else 1) else 1
theorem ck_bad {x y n : Nat} {C : Nat → Coat} (h : (idxF x && idxF y) = false) : chkF x y n C = 1 := by unfold chkF; rw [h]; rfl
theorem ck_long {x y n : Nat} {C : Nat → Coat} (h : (idxF x && idxF y) = true) (hn : 64 < n) : chkF x y n C = 4 := by unfold chkF; rw [h, if_pos rfl, if_pos hn]
theorem ck_ok {x y n : Nat} {C : Nat → Coat} (h : (idxF x && idxF y) = true) (hn : ¬ 64 < n) (ha : ∀ j, j < n → coatB (C j) = true) : chkF x y n C = 0 := by
  unfold chkF
  rw [h, if_pos rfl, if_neg hn, if_pos]
  rw [List.all_eq_true]
  intro i hi
  exact ha i (List.mem_range.1 hi)
theorem ck_no {x y n k : Nat} {C : Nat → Coat} (h : (idxF x && idxF y) = true) (hn : ¬ 64 < n) (hk : k < n) (ha : coatB (C k) = false) : chkF x y n C = 1 := by
  unfold chkF
  rw [h, if_pos rfl, if_neg hn, if_neg]
  intro k'
  rw [List.all_eq_true] at k'
  have := k' k (List.mem_range.2 hk)
  rw [ha] at this
  exact absurd this (by decide)
set_option maxRecDepth 100000 in
set_option maxHeartbeats 3200000 in
theorem stack_check_any (x y : Nat) (hx : x < 2 ^ 64) (hy : y < 2 ^ 64) (A : Option Addr) (n c : Nat) (C : Nat → Coat) (w : World) (hC : Cs w A n C) :
    Calls Try.prog 22 #[.float .f64 x, .float .f64 y, .slice A n c] w fun e w' => e = .returned (.int .i64 (chkF x y n C)) ∧ Below w.heap.size w w' := by
  obtain ⟨m1, h1⟩ : ∃ m, idxF x = m := ⟨_, rfl⟩
  obtain ⟨m2, h2⟩ : ∃ m, idxF y = m := ⟨_, rfl⟩
  have H1 := Lib.hid h1
  have H2 := Lib.hid h2
  clear h1 h2
  cases m1 with
  | false =>
    have HR : Hid (chkF x y n C = 1) := Lib.hid (ck_bad (by rw [H1.out]; rfl))
    rw [HR.out]
    go_enter Try.func22, Try.ntmps22
    go_wp2_with (go_at_call 53; (with_reducible refine (stack_index_any x hx _).mono ?_); rintro e1 w1 ⟨rfl, rfl⟩; rw [H1.out])
    go_ret
    exact ⟨rfl, Below.refl _ _⟩
  | true =>
    cases m2 with
    | false =>
      have HR : Hid (chkF x y n C = 1) := Lib.hid (ck_bad (by rw [H1.out, H2.out]; rfl))
      rw [HR.out]
      go_enter Try.func22, Try.ntmps22
      go_wp2_with (first | (go_at_call 53; (with_reducible refine (stack_index_any x hx _).mono ?_); rintro e1 w1 ⟨rfl, rfl⟩; rw [H1.out]) | (go_at_call 53; (with_reducible refine (stack_index_any y hy _).mono ?_); rintro e1 w1 ⟨rfl, rfl⟩; rw [H2.out]))
      go_ret
      exact ⟨rfl, Below.refl _ _⟩
    | true =>
      have hxy : (idxF x && idxF y) = true := by rw [H1.out, H2.out]; rfl
      by_cases hn : 64 < n
      · have HR : Hid (chkF x y n C = 4) := Lib.hid (ck_long hxy hn)
        rw [HR.out]
        have hn' : (64 : Int) < (n : Int) := by omega
        clear hxy
        go_enter Try.func22, Try.ntmps22
        go_wp2_with (first | (go_at_call 53; (with_reducible refine (stack_index_any x hx _).mono ?_); rintro e1 w1 ⟨rfl, rfl⟩; rw [H1.out]) | (go_at_call 53; (with_reducible refine (stack_index_any y hy _).mono ?_); rintro e1 w1 ⟨rfl, rfl⟩; rw [H2.out]))
        go_ret
        exact ⟨rfl, Below.refl _ _⟩
      · have HO : Hid ((∀ j, j < n → coatB (C j) = true) → chkF x y n C = 0) := Lib.hid (fun ha => ck_ok hxy hn ha)
        have HN : Hid (∀ k, k < n → coatB (C k) = false → chkF x y n C = 1) := Lib.hid (fun k hk ha => ck_no hxy hn hk ha)
        have hn' : ¬ (64 : Int) < (n : Int) := by omega
        have hn64 : n ≤ 64 := by omega
        clear hxy hn
        go_enter Try.func22, Try.ntmps22
        go_wp2_with (first | (go_at_call 53; (with_reducible refine (stack_index_any x hx _).mono ?_); rintro e1 w1 ⟨rfl, rfl⟩; rw [H1.out]) | (go_at_call 53; (with_reducible refine (stack_index_any y hy _).mono ?_); rintro e1 w1 ⟨rfl, rfl⟩; rw [H2.out]))
        go_loopw [24] (fun i wr => ∃ k : Nat, i = .int .i64 (k : Int) ∧ k ≤ n ∧ Hid (∀ j, j < k → coatB (C j) = true) ∧ Below w.heap.size w wr) (fun i _ => n - (intOf i).toNat)
        case atStart => exact ⟨0, rfl, Nat.zero_le _, Lib.hid (fun j hj => absurd hj (by omega)), Below.refl _ _⟩
        case round =>
          obtain ⟨k, rfl, hk, HK, hb⟩ := hrel
          by_cases hlt : k < n
          · obtain ⟨g, o, rfl, hg, hc⟩ := (hC.below hb) (by omega)
            obtain ⟨c0, c1, c2, c3⟩ := hc k hlt
            obtain ⟨⟨N, K, T⟩, hct⟩ : ∃ t, C k = t := ⟨_, rfl⟩
            rw [hct] at c0 c1 c2 c3
            have HCT := Lib.hid hct
            have hlt' : (k : Int) < (n : Int) := by omega
            have hk0 : (0 : Int) ≤ (k : Int) := Int.natCast_nonneg _
            clear hc hct
            obtain ⟨m3, h3⟩ : ∃ m, idxF N = m := ⟨_, rfl⟩
            have H3 := Lib.hid h3
            clear h3
            cases m3 with
            | false =>
              have HR : Hid (chkF x y n C = 1) := Lib.hid (HN.out k hlt (by rw [HCT.out]; unfold coatB; rw [H3.out]; rfl))
              go_wp2_with (go_at_call 53; (with_reducible refine (stack_index_any N c3 _).mono ?_); rintro e1 w1 ⟨rfl, rfl⟩; rw [H3.out])
              go_ret
              exact ⟨by rw [HR.out]; rfl, hb.alloc hb.size _⟩
            | true =>
              by_cases ht : T < 0
              · have HR : Hid (chkF x y n C = 1) := Lib.hid (HN.out k hlt (by rw [HCT.out]; unfold coatB; rw [H3.out, decide_eq_false (show ¬ 0 ≤ T by omega)]; rfl))
                go_wp2_with (go_at_call 53; (with_reducible refine (stack_index_any N c3 _).mono ?_); rintro e1 w1 ⟨rfl, rfl⟩; rw [H3.out])
                go_ret
                exact ⟨by rw [HR.out]; rfl, hb.alloc hb.size _⟩
              · by_cases ht2 : 16 < T
                · have HR : Hid (chkF x y n C = 1) := Lib.hid (HN.out k hlt (by rw [HCT.out]; unfold coatB; rw [H3.out, decide_eq_false (show ¬ T ≤ 16 by omega)]; simp))
                  go_wp2_with (go_at_call 53; (with_reducible refine (stack_index_any N c3 _).mono ?_); rintro e1 w1 ⟨rfl, rfl⟩; rw [H3.out])
                  go_ret
                  exact ⟨by rw [HR.out]; rfl, hb.alloc hb.size _⟩
                · have HK2 : Hid (∀ j, j < k + 1 → coatB (C j) = true) := Lib.hid (fun j hj => by
                    by_cases e : j = k
                    · rw [e, HCT.out]; unfold coatB; rw [H3.out, decide_eq_true (show 0 ≤ T by omega), decide_eq_true (show T ≤ 16 by omega)]; rfl
                    · exact HK.out j (by omega))
                  go_wp2_with (go_at_call 53; (with_reducible refine (stack_index_any N c3 _).mono ?_); rintro e1 w1 ⟨rfl, rfl⟩; rw [H3.out])
                  go_roundw
                  case rel => exact ⟨k + 1, by go_num, hlt, HK2, hb.alloc hb.size _⟩
                  case measure => simp [intOf]; omega
          · obtain rfl : k = n := by omega
            have HR : Hid (chkF x y k C = 0) := Lib.hid (HO.out HK.out)
            go_wp2_with fail
            go_ret
            exact ⟨by rw [HR.out]; rfl, hb⟩
set_option maxHeartbeats 1600000 in
theorem ref19_may_any (N : Nat) (K T : Int) (hN : N < 2 ^ 64) (w : World) : Calls Try.prog 61 #[.agg #[.float .f64 N, .int .i64 K, .int .i64 T]] w fun e w' => e = .returned (.bool (coatB (N, K, T))) ∧ Below w.heap.size w w' := by
  obtain ⟨m3, h3⟩ : ∃ m, idxF N = m := ⟨_, rfl⟩
  have H3 := Lib.hid h3
  clear h3
  cases m3 with
  | false =>
    have HR : Hid (coatB (N, K, T) = false) := Lib.hid (by unfold coatB; rw [H3.out]; rfl)
    rw [HR.out]
    go_enter Try.func61, Try.ntmps61
    go_wp2_with (go_at_call 60; (with_reducible refine (ref19_index_any N hN _).mono ?_); rintro e1 w1 ⟨rfl, rfl⟩; rw [H3.out])
    go_ret
    exact ⟨rfl, (Below.refl _ _).alloc (Nat.le_refl _) _⟩
  | true =>
    by_cases ht : T < 0
    · have HR : Hid (coatB (N, K, T) = false) := Lib.hid (by unfold coatB; rw [H3.out, decide_eq_false (show ¬ 0 ≤ T by omega)]; rfl)
      have ht' : ¬ 0 ≤ T := by omega
      rw [HR.out]
      go_enter Try.func61, Try.ntmps61
      go_wp2_with (go_at_call 60; (with_reducible refine (ref19_index_any N hN _).mono ?_); rintro e1 w1 ⟨rfl, rfl⟩; rw [H3.out])
      go_ret
      exact ⟨rfl, (Below.refl _ _).alloc (Nat.le_refl _) _⟩
    · have ht' : 0 ≤ T := by omega
      by_cases ht2 : 16 < T
      · have HR : Hid (coatB (N, K, T) = false) := Lib.hid (by unfold coatB; rw [H3.out, decide_eq_false (show ¬ T ≤ 16 by omega)]; simp)
        have ht3 : ¬ T ≤ 16 := by omega
        rw [HR.out]
        go_enter Try.func61, Try.ntmps61
        go_wp2_with (go_at_call 60; (with_reducible refine (ref19_index_any N hN _).mono ?_); rintro e1 w1 ⟨rfl, rfl⟩; rw [H3.out])
        go_ret
        exact ⟨by simp [ht3], (Below.refl _ _).alloc (Nat.le_refl _) _⟩
      · have HR : Hid (coatB (N, K, T) = true) := Lib.hid (by unfold coatB; rw [H3.out, decide_eq_true ht', decide_eq_true (show T ≤ 16 by omega)]; rfl)
        have ht3 : T ≤ 16 := by omega
        rw [HR.out]
        go_enter Try.func61, Try.ntmps61
        go_wp2_with (go_at_call 60; (with_reducible refine (ref19_index_any N hN _).mono ?_); rintro e1 w1 ⟨rfl, rfl⟩; rw [H3.out])
        go_ret
        exact ⟨rfl, (Below.refl _ _).alloc (Nat.le_refl _) _⟩
set_option maxRecDepth 100000 in
set_option maxHeartbeats 3200000 in
theorem ref19_check_any (x y : Nat) (hx : x < 2 ^ 64) (hy : y < 2 ^ 64) (A : Option Addr) (n c : Nat) (C : Nat → Coat) (w : World) (hC : Cs w A n C) :
    Calls Try.prog 32 #[.float .f64 x, .float .f64 y, .slice A n c] w fun e w' => e = .returned (.int .i64 (chkF x y n C)) ∧ Below w.heap.size w w' := by
  obtain ⟨m1, h1⟩ : ∃ m, idxF x = m := ⟨_, rfl⟩
  obtain ⟨m2, h2⟩ : ∃ m, idxF y = m := ⟨_, rfl⟩
  have H1 := Lib.hid h1
  have H2 := Lib.hid h2
  clear h1 h2
  cases m1 with
  | false =>
    have HR : Hid (chkF x y n C = 1) := Lib.hid (ck_bad (by rw [H1.out]; rfl))
    rw [HR.out]
    go_enter Try.func32, Try.ntmps32
    go_wp2_with (go_at_call 60; (with_reducible refine (ref19_index_any x hx _).mono ?_); rintro e1 w1 ⟨rfl, rfl⟩; rw [H1.out])
    go_ret
    exact ⟨rfl, Below.refl _ _⟩
  | true =>
    cases m2 with
    | false =>
      have HR : Hid (chkF x y n C = 1) := Lib.hid (ck_bad (by rw [H1.out, H2.out]; rfl))
      rw [HR.out]
      go_enter Try.func32, Try.ntmps32
      go_wp2_with (first | (go_at_call 60; (with_reducible refine (ref19_index_any x hx _).mono ?_); rintro e1 w1 ⟨rfl, rfl⟩; rw [H1.out]) | (go_at_call 60; (with_reducible refine (ref19_index_any y hy _).mono ?_); rintro e1 w1 ⟨rfl, rfl⟩; rw [H2.out]))
      go_ret
      exact ⟨rfl, Below.refl _ _⟩
    | true =>
      have hxy : (idxF x && idxF y) = true := by rw [H1.out, H2.out]; rfl
      by_cases hn : 64 < n
      · have HR : Hid (chkF x y n C = 4) := Lib.hid (ck_long hxy hn)
        rw [HR.out]
        have hn' : (64 : Int) < (n : Int) := by omega
        clear hxy
        go_enter Try.func32, Try.ntmps32
        go_wp2_with (first | (go_at_call 60; (with_reducible refine (ref19_index_any x hx _).mono ?_); rintro e1 w1 ⟨rfl, rfl⟩; rw [H1.out]) | (go_at_call 60; (with_reducible refine (ref19_index_any y hy _).mono ?_); rintro e1 w1 ⟨rfl, rfl⟩; rw [H2.out]))
        go_ret
        exact ⟨rfl, Below.refl _ _⟩
      · have HO : Hid ((∀ j, j < n → coatB (C j) = true) → chkF x y n C = 0) := Lib.hid (fun ha => ck_ok hxy hn ha)
        have HN : Hid (∀ k, k < n → coatB (C k) = false → chkF x y n C = 1) := Lib.hid (fun k hk ha => ck_no hxy hn hk ha)
        have hn' : ¬ (64 : Int) < (n : Int) := by omega
        have hn64 : n ≤ 64 := by omega
        clear hxy hn
        go_enter Try.func32, Try.ntmps32
        go_wp2_with (first | (go_at_call 60; (with_reducible refine (ref19_index_any x hx _).mono ?_); rintro e1 w1 ⟨rfl, rfl⟩; rw [H1.out]) | (go_at_call 60; (with_reducible refine (ref19_index_any y hy _).mono ?_); rintro e1 w1 ⟨rfl, rfl⟩; rw [H2.out]))
        go_loopw [7] (fun i wr => ∃ k : Nat, i = .int .i64 (k : Int) ∧ k ≤ n ∧ Hid (∀ j, j < k → coatB (C j) = true) ∧ Below w.heap.size w wr) (fun i _ => n - (intOf i).toNat)
        case atStart => exact ⟨0, rfl, Nat.zero_le _, Lib.hid (fun j hj => absurd hj (by omega)), Below.refl _ _⟩
        case round =>
          obtain ⟨k, rfl, hk, HK, hb⟩ := hrel
          by_cases hlt : k < n
          · obtain ⟨g, o, rfl, hg, hc⟩ := (hC.below hb) (by omega)
            obtain ⟨c0, c1, c2, c3⟩ := hc k hlt
            obtain ⟨⟨N, K, T⟩, hct⟩ : ∃ t, C k = t := ⟨_, rfl⟩
            rw [hct] at c0 c1 c2 c3
            have HCT := Lib.hid hct
            have hlt' : (k : Int) < (n : Int) := by omega
            have hk0 : (0 : Int) ≤ (k : Int) := Int.natCast_nonneg _
            clear hc hct
            obtain ⟨m3, h3⟩ : ∃ m, coatB (N, K, T) = m := ⟨_, rfl⟩
            have H3 := Lib.hid h3
            clear h3
            go_wp2_with fail
            refine (ref19_may_any N K T c3 _).mono ?_
            rintro e1 w1 ⟨rfl, hb1⟩
            rw [H3.out]
            have hb2 := below_next hb hb1
            cases m3 with
            | false =>
              have HR : Hid (chkF x y n C = 1) := Lib.hid (HN.out k hlt (by rw [HCT.out]; exact H3.out))
              go_wp2_with fail
              go_ret
              exact ⟨by rw [HR.out]; rfl, hb2⟩
            | true =>
              have HK2 : Hid (∀ j, j < k + 1 → coatB (C j) = true) := Lib.hid (fun j hj => by
                by_cases e : j = k
                · rw [e, HCT.out]; exact H3.out
                · exact HK.out j (by omega))
              go_wp2_with fail
              go_roundw
              case rel => exact ⟨k + 1, by go_num, hlt, HK2, hb2⟩
              case measure => simp [intOf]; omega
          · obtain rfl : k = n := by omega
            have HR : Hid (chkF x y k C = 0) := Lib.hid (HO.out HK.out)
            go_wp2_with fail
            go_ret
            exact ⟨by rw [HR.out]; rfl, hb⟩
end Go.Proofs.Ytgafjnfplgfajaa
