/-
  Of the references: are numbers too long (Long, Answer), at any length.
-/
import Derived.Test.YtgekmbfmfiikkaaGreatDoorOwI
import Derived.Test.YtgekmbfmfiikkaaGreatDoorRefV
namespace Go.Proofs.YtgekmbfmfiikkaaGreatDoor
open Go.RowKit

set_option maxRecDepth 100000 in
theorem ref1_long_any (neg : Bool) (A : Option Addr) (n c : Nat) (b : Bool) (w : World) (hb : Hid (decide (2048 < n) = b)) : Calls Tryz.prog 231 #[.agg #[.bool neg, .slice A n c]] w (RetV w (.bool b)) := by
 have hl : decide ((2048 : Int) < (n : Int)) = b := by
  rw [← hb.out]
  by_cases h : 2048 < n
  ·rw [decide_eq_true h, decide_eq_true (by omega)]
  ·rw [decide_eq_false h, decide_eq_false (by omega)]
 go_enter Tryz.func231, Tryz.ntmps231
 cases b with
 | true =>
  have hl2 : (2048 : Int) < (n : Int) := of_decide_eq_true hl
  clear hl
  go_wp2_with fail
  go_ret
  exact ⟨rfl, (Below.refl _ _).alloc (Nat.le_refl _) _⟩
 | false =>
  have hl2 : ¬ (2048 : Int) < (n : Int) := of_decide_eq_false hl
  clear hl
  go_wp2_with fail
  go_ret
  exact ⟨rfl, (Below.refl _ _).alloc (Nat.le_refl _) _⟩

set_option maxRecDepth 100000 in
set_option maxHeartbeats 6400000 in
theorem ref2_long_any (g N c : Nat) (F : Nat → LmE) (w : World) (hL : Lfs w g N F) (hN : N ≤ 1000) (_hc : N ≤ c) :
  Calls Tryz.prog 122 #[.slice (some ⟨g, 0, none⟩) N c] w (RetV w (.bool (lgAll F N))) := by
 go_enter Tryz.func122, Tryz.ntmps122
 go_wp2_with fail
 go_loopw [3] (fun i wr => ∃ k : Nat, k ≤ N ∧ i = .int .i64 (k : Int) ∧ Below w.heap.size w wr ∧ Hid (∀ j, j < k → lgB (F j) = false)) (fun i _ => N - (intOf i).toNat)
 case atStart => exact ⟨0, Nat.zero_le _, rfl, Below.refl _ _, Lib.hid (fun j hj => absurd hj (by omega))⟩
 case round =>
  obtain ⟨k, hk, rfl, hb, HN⟩ := hrel
  by_cases hlt : k < N
  ·have hLw := hL.next hb
   obtain ⟨hg1, hall⟩ := id hLw
   obtain ⟨⟨a0, a1, a2, a3⟩, _⟩ := hall k hlt
   obtain ⟨f, hf⟩ : ∃ f, F k = f := ⟨_, rfl⟩
   have HF := Lib.hid hf
   rw [hf] at a0 a1 a2 a3
   obtain ⟨⟨neg, A, n, c1, l⟩, neg', A', n', c1', l'⟩ := f
   simp only at a0 a1 a2 a3
   obtain ⟨b1, hb1⟩ : ∃ b, decide (2048 < n) = b := ⟨_, rfl⟩
   obtain ⟨b2, hb2⟩ : ∃ b, decide (2048 < n') = b := ⟨_, rfl⟩
   have HB : Hid (lgB (F k) = (b1 || b2)) := Lib.hid (by rw [hf]; unfold lgB; rw [← hb1, ← hb2])
   have HB1 := Lib.hid hb1
   have HB2 := Lib.hid hb2
   have hlt' : (k : Int) < (N : Int) := by omega
   have hk0 : (0 : Int) ≤ (k : Int) := Int.natCast_nonneg _
   have HLT := Lib.hid hlt
   have hsz := hb.size
   clear hall hf hlt hb1 hb2
   go_wp2_with fail
   refine (ref1_long_any neg A n c1 b1 _ HB1).mono ?_
   rintro e1 w1 ⟨rfl, hb1⟩
   have hb3 := hb.trans (hb1.mono hsz)
   have d2 := (hb1.cell (p := ⟨g, k * 4 + 2, none⟩) hg1).trans a2
   have d3 := (hb1.cell (p := ⟨g, k * 4 + 3, none⟩) hg1).trans a3
   have hs1 := hb3.size
   clear a0 a1 a2 a3 hLw
   cases b1 with
   | true =>
    have HR := Lib.hid (lgAll_yes (F := F) (k := k) (by rw [HB.out]; rfl) HLT.out)
    go_wp2_with fail
    go_ret
    exact ⟨by rw [HR.out]; rfl, hb3⟩
   | false =>
    go_wp2_with fail
    refine (ref1_long_any neg' A' n' c1' b2 _ HB2).mono ?_
    rintro e2 w2 ⟨rfl, hb2⟩
    have hb4 := hb3.trans (hb2.mono hs1)
    clear hb2 d2 d3
    cases b2 with
    | true =>
     have HR := Lib.hid (lgAll_yes (F := F) (k := k) (by rw [HB.out]; rfl) HLT.out)
     go_wp2_with fail
     go_ret
     exact ⟨by rw [HR.out]; rfl, hb4⟩
    | false =>
     have HN2 : Hid (∀ j, j < k + 1 → lgB (F j) = false) := Lib.hid (fun j hj => by
      rcases Nat.lt_or_ge j k with h | h
      ·exact HN.out j h
      ·obtain rfl : j = k := by omega
       rw [HB.out]; rfl)
     clear HN HB
     go_wp2_with fail
     go_roundw
     case rel => exact ⟨k + 1, HLT.out, by go_num, hb4, HN2⟩
     case measure => have := HLT.out; simp [intOf]; omega
  ·obtain rfl : k = N := by omega
   have hnl : ¬ (k : Int) < (k : Int) := by omega
   have HR := Lib.hid (lgAll_no HN.out)
   go_wp2_with fail
   go_ret
   exact ⟨by rw [HR.out]; rfl, hb⟩
end Go.Proofs.YtgekmbfmfiikkaaGreatDoor
