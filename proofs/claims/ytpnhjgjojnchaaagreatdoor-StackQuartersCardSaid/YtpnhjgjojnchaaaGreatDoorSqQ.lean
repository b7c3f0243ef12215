/-
  Sheets of a quarter (stack.Quarter, polestarref19.Quarter); two lists of the same coats (polestarlaw01.SameCoats).
-/
import Derived.Test.YtpnhjgjojnchaaaGreatDoorStk6
import Derived.Test.YtpnhjgjojnchaaaGreatDoorStk1
import Derived.Test.YtpnhjgjojnchaaaGreatDoorBkP
namespace Go.Proofs.YtpnhjgjojnchaaaGreatDoor
open Go.RowKit

def qC (h l : Nat) (i : Nat) : Coat := (if i % 2 = 0 then h else l, 1, 2)
theorem qC_two (h l k : Nat) : coatsV (qC h l) ((k + 1) * 2) = coatsV (qC h l) (k * 2) ++ [.float .f64 h, .int .i64 1, .int .i64 2, .float .f64 l, .int .i64 1, .int .i64 2] := by
  rw [show (k + 1) * 2 = k * 2 + 1 + 1 by omega, coatsV, coatsV]
  unfold qC
  rw [if_pos (by omega), if_neg (by omega), List.append_assoc]
  rfl
/-- How many pairs are made; the error. -/
def qP (h l : Nat) (p : Int) : Nat := if idxF h && idxF l && decide (0 ≤ p) && decide (p ≤ 32) then p.toNat else 0
def qE (h l : Nat) (p : Int) : Int := if idxF h && idxF l && decide (0 ≤ p) then (if p ≤ 32 then 0 else 4) else 1
def RetQ (W : World) (h l : Nat) (p : Int) (e : Ending) (w' : World) : Prop :=
  ∃ A c, e = .returned (.tuple #[.slice A (qP h l p * 2) c, .int .i64 (qE h l p)]) ∧ w'.ownsRow W.heap.size 105 3 (.slice A (qP h l p * 2) c) (qP h l p * 2) (coatsV (qC h l) (qP h l p * 2)) ∧ Below W.heap.size W w'
theorem retQ_none {W w' : World} {h l : Nat} {p : Int} (hP : qP h l p = 0) (E : Int) (hE : qE h l p = E) (hb : Below W.heap.size W w') : RetQ W h l p (.returned (.tuple #[.slice none 0 0, .int .i64 E])) w' :=
  ⟨none, 0, by rw [hP, hE], by rw [hP]; exact World.ownsRow_nil _ _ _ _, hb⟩
theorem six_new (w : World) (t : TypeId) (a b c d e f : Value) : ∀ j u, [a, b, c, d, e, f][j]? = some u → (w.alloc (.cells #[a, b, c, d, e, f] t)).cell? ((⟨w.heap.size, 0, none⟩ : Addr).add j) = some u := World.news_of_block (heap_alloc_new w _)

set_option maxRecDepth 100000 in
set_option maxHeartbeats 3200000 in
theorem quarter_ok (h l p : Nat) (hh : h < 2 ^ 64) (hl : l < 2 ^ 64) (hp : p ≤ 32) (ih : idxF h = true) (il : idxF l = true) (w : World) : Calls Tryz.prog 9 #[.float .f64 h, .float .f64 l, .int .i64 (p : Int)] w (RetQ w h l (p : Int)) := by
  obtain ⟨i0, hi, hz0, hz1, hz2⟩ := info_parts info_coat
  have HP : Hid (qP h l (p : Int) = p) := Lib.hid (by unfold qP; rw [ih, il, decide_eq_true (by omega), decide_eq_true (by omega)]; rfl)
  have HE : Hid (qE h l (p : Int) = 0) := Lib.hid (by unfold qE; rw [ih, il, decide_eq_true (by omega)]; simp only [Bool.and_self, if_true]; exact if_pos (by omega))
  go_enter Tryz.func9, Tryz.ntmps9
  go_wp2_with (first
    | (go_at_call 55; (with_reducible refine (stack_index_any h hh _).mono ?_); rintro e1 w1 ⟨rfl, rfl⟩; rw [ih])
    | (go_at_call 55; (with_reducible refine (stack_index_any l hl _).mono ?_); rintro e1 w1 ⟨rfl, rfl⟩; rw [il]))
  go_loopw [8, 26] (fun out i wr => ∃ (k : Nat) (A : Option Addr) (c : Nat), out = .slice A (k * 2) c ∧ i = .int .i64 (k : Int) ∧ k ≤ p ∧ wr.ownsRow w.heap.size 105 3 (.slice A (k * 2) c) (k * 2) (coatsV (qC h l) (k * 2)) ∧ Below w.heap.size w wr) (fun _ i _ => p - (intOf i).toNat)
  case atStart => exact ⟨0, none, 0, rfl, rfl, Nat.zero_le _, World.ownsRow_nil _ _ _ _, Below.refl _ _⟩
  case round =>
    obtain ⟨k, A, c, rfl, rfl, hk, hown, hb⟩ := hrel
    by_cases hlt : k < p
    · have own2 := hown.alloc (.cells #[.float .f64 h, .int .i64 1, .int .i64 2, .float .f64 l, .int .i64 1, .int .i64 2] 105)
      have hsz := hb.size
      go_wp2_with (at_builtin; refine wpList_append_either _ rfl _ _ 23 rfl w.heap.size 105 i0 (.agg #[.float .f64 0, .int .i64 0, .int .i64 0]) 3 24 Tryz.underlying23 hi hz0 hz1 hz2 rfl (by decide) (.slice A (k * 2) c) (k * 2) _ rfl own2 ⟨wr.heap.size, 0, none⟩ 2 2 [.float .f64 h, .int .i64 1, .int .i64 2, .float .f64 l, .int .i64 1, .int .i64 2] rfl rfl (six_new wr _ _ _ _ _ _ _) (by simp [Value.oneCell']) (by decide) (by simp [maxLen]; omega) (by omega) (by simp; omega) ?_; intro g' cap' w2 hown2 hor)
      rw [← qC_two] at hown2
      have hF := (fr_grow (Fr.refl (fun b => Value.ownBlock (.slice A (k * 2) c) = some b) (wr.alloc (.cells #[.float .f64 h, .int .i64 1, .int .i64 2, .float .f64 l, .int .i64 1, .int .i64 2] 105))) (fun g hg => .inl hg) hor).1
      have hb2 := hF.below (fun b e => (hown.lt b e).1) (by simp; omega)
      go_roundw
      case rel => exact ⟨k + 1, some ⟨g', 0, none⟩, cap', by rw [show (k + 1) * 2 = k * 2 + 2 by omega], by go_num, by omega, by rw [show (k + 1) * 2 = k * 2 + 2 by omega] at hown2 ⊢; exact hown2, (hb.alloc hb.size _).trans hb2⟩
      case measure => simp [intOf]; omega
    · obtain rfl : k = p := by omega
      go_wp2_with fail
      exact bodyPost_ret (v := .tuple #[.slice A (k * 2) c, .int .i64 0]) (by simp [results, Tryz.results9, go_sem]) rfl ⟨A, c, by rw [HP.out, HE.out], by rw [HP.out]; exact hown, hb⟩

set_option maxRecDepth 100000 in
set_option maxHeartbeats 3200000 in
theorem ref19_quarter_ok (h l p : Nat) (hh : h < 2 ^ 64) (hl : l < 2 ^ 64) (hp : p ≤ 32) (ih : idxF h = true) (il : idxF l = true) (w : World) : Calls Tryz.prog 10 #[.float .f64 h, .float .f64 l, .int .i64 (p : Int)] w (RetQ w h l (p : Int)) := by
  obtain ⟨i0, hi, hz0, hz1, hz2⟩ := info_parts info_coat
  have HP : Hid (qP h l (p : Int) = p) := Lib.hid (by unfold qP; rw [ih, il, decide_eq_true (by omega), decide_eq_true (by omega)]; rfl)
  have HE : Hid (qE h l (p : Int) = 0) := Lib.hid (by unfold qE; rw [ih, il, decide_eq_true (by omega)]; simp only [Bool.and_self, if_true]; exact if_pos (by omega))
  go_enter Tryz.func10, Tryz.ntmps10
  go_wp2_with (first
    | (go_at_call 56; (with_reducible refine (ref19_index_any h hh _).mono ?_); rintro e1 w1 ⟨rfl, rfl⟩; rw [ih])
    | (go_at_call 56; (with_reducible refine (ref19_index_any l hl _).mono ?_); rintro e1 w1 ⟨rfl, rfl⟩; rw [il]))
  go_loopw [8, 9] (fun out i wr => ∃ (k : Nat) (A : Option Addr) (c : Nat), out = .slice A (k * 2) c ∧ i = .int .i64 (k : Int) ∧ k ≤ p ∧ wr.ownsRow w.heap.size 105 3 (.slice A (k * 2) c) (k * 2) (coatsV (qC h l) (k * 2)) ∧ Below w.heap.size w wr) (fun _ i _ => p - (intOf i).toNat)
  case atStart => exact ⟨0, none, 0, rfl, rfl, Nat.zero_le _, World.ownsRow_nil _ _ _ _, Below.refl _ _⟩
  case round =>
    obtain ⟨k, A, c, rfl, rfl, hk, hown, hb⟩ := hrel
    by_cases hlt : k < p
    · have own2 := hown.alloc (.cells #[.float .f64 h, .int .i64 1, .int .i64 2] 105)
      have hsz := hb.size
      have HO := Lib.hid hown
      clear hown
      go_wp2_with (first
        | (at_builtin; refine wpList_append_either _ rfl _ _ 23 rfl w.heap.size 105 i0 (.agg #[.float .f64 0, .int .i64 0, .int .i64 0]) 3 24 Tryz.underlying23 hi hz0 hz1 hz2 rfl (by decide) (.slice A (k * 2) c) (k * 2) _ rfl own2 ⟨wr.heap.size, 0, none⟩ 1 1 [.float .f64 h, .int .i64 1, .int .i64 2] rfl rfl (three_new wr _ _ _ _) (by simp [Value.oneCell']) (by decide) (by simp [maxLen]; omega) (by omega) (by simp; omega) ?_; intro g' cap' w2 hown2 hor; have hF := (fr_grow (Fr.refl (fun b => Value.ownBlock (.slice A (k * 2) c) = some b) (wr.alloc (.cells #[.float .f64 h, .int .i64 1, .int .i64 2] 105))) (fun g hg => .inl hg) hor).1; have hb2 := hF.below (fun b e => (HO.out.lt b e).1) (by simp; omega); have hb2' := (hb.alloc hb.size (.cells #[.float .f64 h, .int .i64 1, .int .i64 2] 105)).trans hb2; have own3 := hown2.alloc (.cells #[.float .f64 l, .int .i64 1, .int .i64 2] 105); have hsz2 := hb2'.size; have HOR := Lib.hid hor; clear hor hF)
        | (at_builtin; refine wpList_append_either _ rfl _ _ 23 rfl w.heap.size 105 i0 (.agg #[.float .f64 0, .int .i64 0, .int .i64 0]) 3 24 Tryz.underlying23 hi hz0 hz1 hz2 rfl (by decide) (.slice (some ⟨g', 0, none⟩) (k * 2 + 1) cap') (k * 2 + 1) _ rfl own3 ⟨w2.heap.size, 0, none⟩ 1 1 [.float .f64 l, .int .i64 1, .int .i64 2] rfl rfl (three_new w2 _ _ _ _) (by simp [Value.oneCell']) (by decide) (by simp [maxLen]; omega) (by omega) (by simp; omega) ?_; intro g3 cap3 w3 hown3 hor3))
      have hF3 := (fr_grow (Fr.refl (fun b => Value.ownBlock (.slice (some ⟨g', 0, none⟩) (k * 2 + 1) cap') = some b) (w2.alloc (.cells #[.float .f64 l, .int .i64 1, .int .i64 2] 105))) (fun g hg => .inl hg) hor3).1
      have hb3 := hF3.below (fun b e => (hown2.lt b e).1) (by simp; omega)
      rw [List.append_assoc, show ([.float .f64 h, .int .i64 1, .int .i64 2] : List Value) ++ [.float .f64 l, .int .i64 1, .int .i64 2] = [.float .f64 h, .int .i64 1, .int .i64 2, .float .f64 l, .int .i64 1, .int .i64 2] from rfl, ← qC_two] at hown3
      go_roundw
      case rel => exact ⟨k + 1, some ⟨g3, 0, none⟩, cap3, by rw [show (k + 1) * 2 = k * 2 + 1 + 1 by omega], by go_num, by omega, by rw [show (k + 1) * 2 = k * 2 + 1 + 1 by omega] at hown3 ⊢; exact hown3, (hb2'.alloc hb2'.size _).trans hb3⟩
      case measure => simp [intOf]; omega
    · obtain rfl : k = p := by omega
      go_wp2_with fail
      exact bodyPost_ret (v := .tuple #[.slice A (k * 2) c, .int .i64 0]) (by simp [results, Tryz.results10, go_sem]) rfl ⟨A, c, by rw [HP.out, HE.out], by rw [HP.out]; exact hown, hb⟩

/-- The refusals. -/
theorem quarter_no (h l : Nat) (p : Int) (hh : h < 2 ^ 64) (hl : l < 2 ^ 64) (hc : ¬ (idxF h = true ∧ idxF l = true ∧ 0 ≤ p ∧ p ≤ 32)) (w : World) : Calls Tryz.prog 9 #[.float .f64 h, .float .f64 l, .int .i64 p] w (RetQ w h l p) ∧ Calls Tryz.prog 10 #[.float .f64 h, .float .f64 l, .int .i64 p] w (RetQ w h l p) := by
  have HP : Hid (qP h l p = 0) := Lib.hid (by
    unfold qP
    rw [if_neg]
    intro e
    rw [Bool.and_eq_true, Bool.and_eq_true, Bool.and_eq_true] at e
    exact hc ⟨e.1.1.1, e.1.1.2, of_decide_eq_true e.1.2, of_decide_eq_true e.2⟩)
  obtain ⟨a, ha⟩ : ∃ a, idxF h = a := ⟨_, rfl⟩
  obtain ⟨b, hb⟩ : ∃ b, idxF l = b := ⟨_, rfl⟩
  have HE : Hid (qE h l p = if a && b && decide (0 ≤ p) then (if p ≤ 32 then 0 else 4) else 1) := Lib.hid (by unfold qE; rw [ha, hb])
  have HC : Hid (a = true → b = true → 0 ≤ p → 32 < p) := Lib.hid (fun x y z => by
    rcases Int.lt_or_le 32 p with q | q
    · exact q
    · exact absurd ⟨by rw [ha]; exact x, by rw [hb]; exact y, z, q⟩ hc)
  have HA := Lib.hid ha
  have HB := Lib.hid hb
  clear ha hb hc
  cases a with
  | false =>
    have HE1 : Hid (qE h l p = 1) := HE
    constructor
    · go_enter Tryz.func9, Tryz.ntmps9
      go_wp2_with (go_at_call 55; (with_reducible refine (stack_index_any h hh _).mono ?_); rintro e1 w1 ⟨rfl, rfl⟩; rw [HA.out])
      exact bodyPost_ret (v := .tuple #[.slice none 0 0, .int .i64 1]) (by simp [results, Tryz.results9, go_sem]) rfl (retQ_none HP.out 1 HE1.out (Below.refl _ _))
    · go_enter Tryz.func10, Tryz.ntmps10
      go_wp2_with (go_at_call 56; (with_reducible refine (ref19_index_any h hh _).mono ?_); rintro e1 w1 ⟨rfl, rfl⟩; rw [HA.out])
      exact bodyPost_ret (v := .tuple #[.slice none 0 0, .int .i64 1]) (by simp [results, Tryz.results10, go_sem]) rfl (retQ_none HP.out 1 HE1.out (Below.refl _ _))
  | true =>
    cases b with
    | false =>
      have HE1 : Hid (qE h l p = 1) := HE
      constructor
      · go_enter Tryz.func9, Tryz.ntmps9
        go_wp2_with (first
          | (go_at_call 55; (with_reducible refine (stack_index_any h hh _).mono ?_); rintro e1 w1 ⟨rfl, rfl⟩; rw [HA.out])
          | (go_at_call 55; (with_reducible refine (stack_index_any l hl _).mono ?_); rintro e1 w1 ⟨rfl, rfl⟩; rw [HB.out]))
        exact bodyPost_ret (v := .tuple #[.slice none 0 0, .int .i64 1]) (by simp [results, Tryz.results9, go_sem]) rfl (retQ_none HP.out 1 HE1.out (Below.refl _ _))
      · go_enter Tryz.func10, Tryz.ntmps10
        go_wp2_with (first
          | (go_at_call 56; (with_reducible refine (ref19_index_any h hh _).mono ?_); rintro e1 w1 ⟨rfl, rfl⟩; rw [HA.out])
          | (go_at_call 56; (with_reducible refine (ref19_index_any l hl _).mono ?_); rintro e1 w1 ⟨rfl, rfl⟩; rw [HB.out]))
        exact bodyPost_ret (v := .tuple #[.slice none 0 0, .int .i64 1]) (by simp [results, Tryz.results10, go_sem]) rfl (retQ_none HP.out 1 HE1.out (Below.refl _ _))
    | true =>
      by_cases hp0 : p < 0
      · have HE1 : Hid (qE h l p = 1) := Lib.hid (by rw [HE.out, decide_eq_false (by omega)]; rfl)
        constructor
        · go_enter Tryz.func9, Tryz.ntmps9
          go_wp2_with (first
            | (go_at_call 55; (with_reducible refine (stack_index_any h hh _).mono ?_); rintro e1 w1 ⟨rfl, rfl⟩; rw [HA.out])
            | (go_at_call 55; (with_reducible refine (stack_index_any l hl _).mono ?_); rintro e1 w1 ⟨rfl, rfl⟩; rw [HB.out]))
          exact bodyPost_ret (v := .tuple #[.slice none 0 0, .int .i64 1]) (by simp [results, Tryz.results9, go_sem]) rfl (retQ_none HP.out 1 HE1.out (Below.refl _ _))
        · go_enter Tryz.func10, Tryz.ntmps10
          go_wp2_with (first
            | (go_at_call 56; (with_reducible refine (ref19_index_any h hh _).mono ?_); rintro e1 w1 ⟨rfl, rfl⟩; rw [HA.out])
            | (go_at_call 56; (with_reducible refine (ref19_index_any l hl _).mono ?_); rintro e1 w1 ⟨rfl, rfl⟩; rw [HB.out]))
          exact bodyPost_ret (v := .tuple #[.slice none 0 0, .int .i64 1]) (by simp [results, Tryz.results10, go_sem]) rfl (retQ_none HP.out 1 HE1.out (Below.refl _ _))
      · have h32 := HC.out rfl rfl (by omega)
        have HE1 : Hid (qE h l p = 4) := Lib.hid (by rw [HE.out, decide_eq_true (by omega)]; simp only [Bool.and_self, if_true]; exact if_neg (by omega))
        constructor
        · go_enter Tryz.func9, Tryz.ntmps9
          go_wp2_with (first
            | (go_at_call 55; (with_reducible refine (stack_index_any h hh _).mono ?_); rintro e1 w1 ⟨rfl, rfl⟩; rw [HA.out])
            | (go_at_call 55; (with_reducible refine (stack_index_any l hl _).mono ?_); rintro e1 w1 ⟨rfl, rfl⟩; rw [HB.out]))
          exact bodyPost_ret (v := .tuple #[.slice none 0 0, .int .i64 4]) (by simp [results, Tryz.results9, go_sem]) rfl (retQ_none HP.out 4 HE1.out (Below.refl _ _))
        · go_enter Tryz.func10, Tryz.ntmps10
          go_wp2_with (first
            | (go_at_call 56; (with_reducible refine (ref19_index_any h hh _).mono ?_); rintro e1 w1 ⟨rfl, rfl⟩; rw [HA.out])
            | (go_at_call 56; (with_reducible refine (ref19_index_any l hl _).mono ?_); rintro e1 w1 ⟨rfl, rfl⟩; rw [HB.out]))
          exact bodyPost_ret (v := .tuple #[.slice none 0 0, .int .i64 4]) (by simp [results, Tryz.results10, go_sem]) rfl (retQ_none HP.out 4 HE1.out (Below.refl _ _))
theorem quarter_any (h l : Nat) (p : Int) (hh : h < 2 ^ 64) (hl : l < 2 ^ 64) (w : World) : Calls Tryz.prog 9 #[.float .f64 h, .float .f64 l, .int .i64 p] w (RetQ w h l p) := by
  by_cases hc : idxF h = true ∧ idxF l = true ∧ 0 ≤ p ∧ p ≤ 32
  · obtain ⟨q, rfl⟩ := Int.eq_ofNat_of_zero_le hc.2.2.1
    exact quarter_ok h l q hh hl (by omega) hc.1 hc.2.1 w
  · exact (quarter_no h l p hh hl hc w).1
theorem ref19_quarter_any (h l : Nat) (p : Int) (hh : h < 2 ^ 64) (hl : l < 2 ^ 64) (w : World) : Calls Tryz.prog 10 #[.float .f64 h, .float .f64 l, .int .i64 p] w (RetQ w h l p) := by
  by_cases hc : idxF h = true ∧ idxF l = true ∧ 0 ≤ p ∧ p ≤ 32
  · obtain ⟨q, rfl⟩ := Int.eq_ofNat_of_zero_le hc.2.2.1
    exact ref19_quarter_ok h l q hh hl (by omega) hc.1 hc.2.1 w
  · exact (quarter_no h l p hh hl hc w).2
end Go.Proofs.YtpnhjgjojnchaaaGreatDoor
