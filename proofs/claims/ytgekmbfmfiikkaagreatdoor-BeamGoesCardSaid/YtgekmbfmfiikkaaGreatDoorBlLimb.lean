/-
  A book's lists of one kind (Limb): all are looked at.
-/
import Derived.Test.YtgekmbfmfiikkaaGreatDoorBkLimb
import Derived.Test.YtgekmbfmfiikkaaGreatDoorRefX
import Derived.BigQuiet
namespace Go.Proofs.YtgekmbfmfiikkaaGreatDoor
open Go.RowKit
def LkLimb (w : World) (L : List Hl) : Prop := ∀ (i : Nat) (h : Hl), L[i]? = some h → h.k ≤ 1000000000 ∧ h.n ≤ 1000000000 ∧ h.ln = h.n + 70 ∧ Mk w (mkLimb h.k) 1 h.v h.n ∧ Mk w (mkLimb h.k) 1 h.lv (h.n + 70)
set_option maxRecDepth 100000 in
set_option maxHeartbeats 6400000 in
theorem lookLimb_any (B H cap : Nat) (L : List Hl) (w : World) (hB : w.cell? ⟨B, 1, none⟩ = some (.slice (some ⟨H, 0, none⟩) L.length cap)) (hBl : B < w.heap.size) (hH : Held w H L) (hO : LkLimb w L) (hm : L.length ≤ 1000000000) :
  Calls Tryz.prog 92 #[.pointer (some ⟨B, 0, none⟩)] w (RetV w (.bool true)) := by
 obtain ⟨N, hN⟩ : ∃ N, L.length = N := ⟨_, rfl⟩
 rw [hN] at hB hm
 have HN := Lib.hid hN
 have HB := Lib.hid hB
 have HH := Lib.hid hH
 have HO := Lib.hid hO
 have HBL := Lib.hid hBl
 clear hN hB hH hO hBl
 go_enter Tryz.func92, Tryz.ntmps92
 go_wp2_with fail
 go_loopw [3] (fun i wr => ∃ m : Nat, i = .int .i64 (m : Int) ∧ m ≤ N ∧ Hid (Below w.heap.size w wr)) (fun i _ => N - (intOf i).toNat)
 case atStart => exact ⟨0, rfl, Nat.zero_le _, Lib.hid (Below.refl _ _)⟩
 case round =>
  obtain ⟨m, rfl, hmN, HF⟩ := hrel
  have cB : wr.cell? ⟨B, 1, none⟩ = some (.slice (some ⟨H, 0, none⟩) N cap) := (HF.out.cell (p := ⟨B, 1, none⟩) HBL.out).trans HB.out
  by_cases hlt : m < N
  ·obtain ⟨⟨A, n, c, xs, lA, ln, lc, k⟩, hh⟩ : ∃ h, L[m]? = some h := ⟨_, List.getElem?_eq_getElem (by have := HN.out; omega)⟩
   have hFr := Fr.of_below (fun _ => False) HF.out
   obtain ⟨a0, a1, a2⟩ := (HH.out.next hFr id).at_ hh
   obtain ⟨hkk, hnn, hln, hv, hlv⟩ : k ≤ 1000000000 ∧ n ≤ 1000000000 ∧ ln = n + 70 ∧ Mk w (mkLimb k) 1 (.slice A n c) n ∧ Mk w (mkLimb k) 1 (.slice lA ln lc) (n + 70) := HO.out m _ hh
   subst hln
   have HV := Lib.hid (hv.next hFr (fun _ _ => id))
   have HLV := Lib.hid (hlv.next hFr (fun _ _ => id))
   clear hh hv hlv hFr
   obtain ⟨W, hW⟩ : ∃ W, W = wr := ⟨_, rfl⟩
   subst hW
   have hw64 : wrap64 ((n : Int) + 70) = (n : Int) + 70 := by unfold wrap64; omega
   go_wp2_with fail
   go_loopw [5] (fun i wr => ∃ q : Nat, i = .int .i64 (q : Int) ∧ q ≤ n + 70 ∧ Hid (Below (W.alloc (.cells #[.slice A n c, .slice lA (n + 70) lc, .int .i64 (k : Int)] 163)).heap.size (W.alloc (.cells #[.slice A n c, .slice lA (n + 70) lc, .int .i64 (k : Int)] 163)) wr)) (fun i _ => n + 70 - (intOf i).toNat)
   case atStart => exact ⟨0, rfl, Nat.zero_le _, Lib.hid (Below.refl _ _)⟩
   case round =>
    obtain ⟨q, rfl, hqn, HFq⟩ := hrel
    have hbx : W.heap.size < (W.alloc (.cells #[.slice A n c, .slice lA (n + 70) lc, .int .i64 (k : Int)] 163)).heap.size := by simp
    have b0 : wr.cell? ⟨W.heap.size, 0, none⟩ = some (.slice A n c) := (HFq.out.cell (p := ⟨W.heap.size, 0, none⟩) hbx).trans (by simp [go_sem])
    have b1 : wr.cell? ⟨W.heap.size, 1, none⟩ = some (.slice lA (n + 70) lc) := (HFq.out.cell (p := ⟨W.heap.size, 1, none⟩) hbx).trans (by simp [go_sem])
    have b2 : wr.cell? ⟨W.heap.size, 2, none⟩ = some (.int .i64 (k : Int)) := (HFq.out.cell (p := ⟨W.heap.size, 2, none⟩) hbx).trans (by simp [go_sem])
    have hbl : W.heap.size < wr.heap.size := Nat.lt_of_lt_of_le hbx HFq.out.size
    have hWr : Below W.heap.size W wr := below_box HFq.out
    have hFr := Fr.of_below (fun _ => False) hWr
    have hwr : Below w.heap.size w wr := HF.out.trans (hWr.mono HF.out.size)
    have hv := HV.out.next hFr (fun _ _ => id)
    have hlv := HLV.out.next hFr (fun _ _ => id)
    have HWR := Lib.hid hWr
    clear hbx hFr hWr hwr
    by_cases hql : q < n + 70
    ·obtain ⟨gl, lc', hlvv, hgl, hlc⟩ : ∃ g c, (Value.slice lA (n + 70) lc) = .slice (some ⟨g, 0, none⟩) (n + 70) c ∧ g < wr.heap.size ∧ ∀ j, j < (n + 70) * 1 → wr.cell? ⟨g, j, none⟩ = (mkLimb k)[j % 1]? := by
      rcases hlv with ⟨_, h0⟩ | h
      ·omega
      ·exact h
     injection hlvv with e1 e2 e3
     subst e1; subst e3
     have l0 : wr.cell? ⟨gl, q, none⟩ = some (.int .u32 (100000 + ((k : Nat) : Int))) := (hlc (q) (by omega)).trans (by rw [Nat.mod_one]; rfl)
     clear hlc hlv
     by_cases hqn2 : q < n
     ·obtain ⟨g, c', hvv, hg, hc⟩ : ∃ g c', (Value.slice A n c) = .slice (some ⟨g, 0, none⟩) n c' ∧ g < wr.heap.size ∧ ∀ j, j < n * 1 → wr.cell? ⟨g, j, none⟩ = (mkLimb k)[j % 1]? := by
       rcases hv with ⟨_, h0⟩ | h
       ·omega
       ·exact h
      injection hvv with e1 e2 e3
      subst e1; subst e3
      have v0 : wr.cell? ⟨g, q, none⟩ = some (.int .u32 (100000 + ((k : Nat) : Int))) := (hc (q) (by omega)).trans (by rw [Nat.mod_one]; rfl)
      have HC : Hid (∀ w', Below wr.heap.size wr w' → w'.cell? ⟨W.heap.size, 0, none⟩ = some (.slice (some ⟨g, 0, none⟩) n c) ∧ w'.cell? ⟨W.heap.size, 1, none⟩ = some (.slice (some ⟨gl, 0, none⟩) (n + 70) lc) ∧ w'.cell? ⟨W.heap.size, 2, none⟩ = some (.int .i64 (k : Int)) ∧ w'.cell? ⟨gl, q, none⟩ = some (.int .u32 (100000 + ((k : Nat) : Int))) ∧ w'.cell? ⟨g, q, none⟩ = some (.int .u32 (100000 + ((k : Nat) : Int)))) := Lib.hid (fun w' hb => ⟨(hb.cell (p := ⟨W.heap.size, 0, none⟩) hbl).trans b0, (hb.cell (p := ⟨W.heap.size, 1, none⟩) hbl).trans b1, (hb.cell (p := ⟨W.heap.size, 2, none⟩) hbl).trans b2, (hb.cell (p := ⟨gl, q, none⟩) hgl).trans l0, (hb.cell (p := ⟨g, q, none⟩) hg).trans v0⟩)
      clear hc hv
      have HFQ := HFq
      clear HFq
      go_wp2_with fail
      go_region_held3 (fun w' => w'.cell? ⟨W.heap.size, 0, none⟩ = some (.slice (some ⟨g, 0, none⟩) n c) ∧ w'.cell? ⟨W.heap.size, 1, none⟩ = some (.slice (some ⟨gl, 0, none⟩) (n + 70) lc) ∧ w'.cell? ⟨W.heap.size, 2, none⟩ = some (.int .i64 (k : Int)) ∧ w'.cell? ⟨gl, q, none⟩ = some (.int .u32 (100000 + ((k : Nat) : Int))) ∧ w'.cell? ⟨g, q, none⟩ = some (.int .u32 (100000 + ((k : Nat) : Int))))
       (go_keep)
       (first
      | (go_at_call 193; (with_reducible refine (isLimb_any k hkk _).mono ?_); rintro e1 w1 ⟨rfl, hb1⟩; have hbA : Below wr.heap.size wr w1 := (by first | exact below_of_drew hb1 | exact below_of_drewN hb1); obtain ⟨b0a, b1a, b2a, l0a, v0a⟩ := HC.out _ hbA; clear hb1)
      | (go_at_call 193; (with_reducible refine (isLimb_any k hkk _).mono ?_); rintro e2 w2 ⟨rfl, hb2⟩; have hbB := below_next hbA hb2; obtain ⟨b0b, b1b, b2b, l0b, v0b⟩ := HC.out _ hbB; clear hb2)
      | fail)
      all_goals (go_wp2_with fail)
      all_goals (go_roundw)
      all_goals (first
       | exact ⟨q + 1, by go_num, by omega, Lib.hid (HFQ.out.trans (hbB.mono HFQ.out.size))⟩
       | (simp [intOf]; omega))
     ·have HC : Hid (∀ w', Below wr.heap.size wr w' → w'.cell? ⟨W.heap.size, 0, none⟩ = some (.slice A n c) ∧ w'.cell? ⟨W.heap.size, 1, none⟩ = some (.slice (some ⟨gl, 0, none⟩) (n + 70) lc) ∧ w'.cell? ⟨W.heap.size, 2, none⟩ = some (.int .i64 (k : Int)) ∧ w'.cell? ⟨gl, q, none⟩ = some (.int .u32 (100000 + ((k : Nat) : Int)))) := Lib.hid (fun w' hb => ⟨(hb.cell (p := ⟨W.heap.size, 0, none⟩) hbl).trans b0, (hb.cell (p := ⟨W.heap.size, 1, none⟩) hbl).trans b1, (hb.cell (p := ⟨W.heap.size, 2, none⟩) hbl).trans b2, (hb.cell (p := ⟨gl, q, none⟩) hgl).trans l0⟩)
      have hdq : decide ((q : Int) < (n : Int)) = false := decide_eq_false (by omega)
      have hdn : decide (q < n) = false := decide_eq_false (by omega)
      have hdm : n ≤ q := by omega
      clear hqn2
      clear hv
      have HFQ := HFq
      clear HFq
      go_wp2_with fail
      refine wp_region_held_drew (S := fun w' => w'.cell? ⟨W.heap.size, 0, none⟩ = some (.slice A n c) ∧ w'.cell? ⟨W.heap.size, 1, none⟩ = some (.slice (some ⟨gl, 0, none⟩) (n + 70) lc) ∧ w'.cell? ⟨W.heap.size, 2, none⟩ = some (.int .i64 (k : Int)) ∧ w'.cell? ⟨gl, q, none⟩ = some (.int .u32 (100000 + ((k : Nat) : Int)))) (by kernel_rfl) ⟨b0, b1, b2, l0⟩ (fun hHeld => ?_)
      refine wpAnyH_take (i := 0) (oi := ?oi0) (v := ?v0) ?hi0 (by kernel_rfl) (by kernel_rfl) (by kernel_rfl) ?hQ0 (Or.inl ⟨?hw0, ?hy0⟩) (by assumption) ?rest0
      case hi0 =>
       simp only [List.getElem?_toArray, List.getElem?_cons_zero]
       rfl
      case hQ0 => exact fun _ _ _ h => h
      case hw0 => rfl
      case hy0 =>
       intro w hSw
       try dsimp only at hSw
       go_simp
       try with_reducible rfl
      try simp only [Act.put, List.setIfInBounds_toArray, List.set_cons_zero, List.set_cons_succ]
      refine wpAnyH_take (i := 1) (oi := ?oi1) (v := ?v1) ?hi1 (by kernel_rfl) (by kernel_rfl) (by kernel_rfl) ?hQ1 (Or.inl ⟨?hw1, ?hy1⟩) (by assumption) ?rest1
      case hi1 =>
       simp only [List.getElem?_toArray, List.getElem?_cons_succ, List.getElem?_cons_zero]
       rfl
      case hQ1 => exact fun _ _ _ h => h
      case hw1 => rfl
      case hy1 =>
       intro w hSw
       try dsimp only at hSw
       go_simp
       try with_reducible rfl
      try simp only [Act.put, List.setIfInBounds_toArray, List.set_cons_zero, List.set_cons_succ]
      refine wpAnyH_take (i := 2) (oi := ?oi2) (v := ?v2) ?hi2 (by kernel_rfl) (by kernel_rfl) (by kernel_rfl) ?hQ2 (Or.inl ⟨?hw2, ?hy2⟩) (by assumption) ?rest2
      case hi2 =>
       simp only [List.getElem?_toArray, List.getElem?_cons_succ, List.getElem?_cons_zero]
       rfl
      case hQ2 => exact fun _ _ _ h => h
      case hw2 => rfl
      case hy2 =>
       intro w hSw
       try dsimp only at hSw
       go_simp
       try with_reducible rfl
      try simp only [Act.put, List.setIfInBounds_toArray, List.set_cons_zero, List.set_cons_succ]
      refine wpAnyH_take (i := 3) (oi := ?oi3) (v := ?v3) ?hi3 (by kernel_rfl) (by kernel_rfl) (by kernel_rfl) ?hQ3 (Or.inl ⟨?hw3, ?hy3⟩) (by assumption) ?rest3
      case hi3 =>
       simp only [List.getElem?_toArray, List.getElem?_cons_succ, List.getElem?_cons_zero]
       rfl
      case hQ3 => exact fun _ _ _ h => h
      case hw3 => rfl
      case hy3 =>
       intro w hSw
       try dsimp only at hSw
       go_simp
       try with_reducible rfl
      try simp only [Act.put, List.setIfInBounds_toArray, List.set_cons_zero, List.set_cons_succ]
      refine wpAnyH_take (i := 4) (oi := ?oi4) (v := ?v4) ?hi4 (by kernel_rfl) (by kernel_rfl) (by kernel_rfl) ?hQ4 (Or.inl ⟨?hw4, ?hy4⟩) (by assumption) ?rest4
      case hi4 =>
       simp only [List.getElem?_toArray, List.getElem?_cons_succ, List.getElem?_cons_zero]
       rfl
      case hQ4 => exact fun _ _ _ h => h
      case hw4 => rfl
      case hy4 =>
       intro w hSw
       try dsimp only at hSw
       go_simp
       try with_reducible rfl
      try simp only [Act.put, List.setIfInBounds_toArray, List.set_cons_zero, List.set_cons_succ]
      refine wpAnyH_take (i := 5) (oi := ?oi5) (v := ?v5) ?hi5 (by kernel_rfl) (by kernel_rfl) (by kernel_rfl) ?hQ5 (Or.inl ⟨?hw5, ?hy5⟩) (by assumption) ?rest5
      case hi5 =>
       simp only [List.getElem?_toArray, List.getElem?_cons_succ, List.getElem?_cons_zero]
       rfl
      case hQ5 => exact fun _ _ _ h => h
      case hw5 => rfl
      case hy5 =>
       intro w hSw
       try dsimp only at hSw
       go_simp
       try with_reducible rfl
      try simp only [Act.put, List.setIfInBounds_toArray, List.set_cons_zero, List.set_cons_succ]
      refine wpAnyH_take (i := 6) (oi := ?oi6) (v := ?v6) ?hi6 (by kernel_rfl) (by kernel_rfl) (by kernel_rfl) ?hQ6 (Or.inl ⟨?hw6, ?hy6⟩) (by assumption) ?rest6
      case hi6 =>
       simp only [List.getElem?_toArray, List.getElem?_cons_succ, List.getElem?_cons_zero]
       rfl
      case hQ6 => exact fun _ _ _ h => h
      case hw6 => rfl
      case hy6 =>
       intro w hSw
       try dsimp only at hSw
       go_simp
       try with_reducible rfl
      try simp only [Act.put, List.setIfInBounds_toArray, List.set_cons_zero, List.set_cons_succ]
      refine wpAnyH_ready (rs := [7]) (by kernel_rfl) (by simp) ?_
      refine AllReadyH.cons rfl (fun K hK => ?_) AllReadyH.nil
      go_simp
      (with_reducible refine (isLimb_any k hkk _).mono ?_); rintro e1 w1 ⟨rfl, hb1⟩; have hbA : Below wr.heap.size wr w1 := (by first | exact below_of_drew hb1 | exact below_of_drewN hb1); obtain ⟨b0a, b1a, b2a, l0a⟩ := HC.out _ hbA; clear hb1
      refine hK.out _ _ ⟨b0a, b1a, b2a, l0a⟩ (fun hHeld => ?_)
      clear hK K
      try simp only [Act.put, List.setIfInBounds_toArray, List.set_cons_zero, List.set_cons_succ]
      refine wpAnyH_take (i := 8) (oi := ?oi8) (v := ?v8) ?hi8 (by kernel_rfl) (by kernel_rfl) (by kernel_rfl) ?hQ8 (Or.inl ⟨?hw8, ?hy8⟩) (by assumption) ?rest8
      case hi8 =>
       simp only [List.getElem?_toArray, List.getElem?_cons_succ, List.getElem?_cons_zero]
       rfl
      case hQ8 => exact fun _ _ _ h => h
      case hw8 => rfl
      case hy8 =>
       intro w hSw
       try dsimp only at hSw
       go_simp
       try with_reducible rfl
      try simp only [Act.put, List.setIfInBounds_toArray, List.set_cons_zero, List.set_cons_succ]
      refine wpAnyH_take (i := 9) (oi := ?oi9) (v := ?v9) ?hi9 (by kernel_rfl) (by kernel_rfl) (by kernel_rfl) ?hQ9 (Or.inl ⟨?hw9, ?hy9⟩) (by assumption) ?rest9
      case hi9 =>
       simp only [List.getElem?_toArray, List.getElem?_cons_succ, List.getElem?_cons_zero]
       rfl
      case hQ9 => exact fun _ _ _ h => h
      case hw9 => rfl
      case hy9 =>
       intro w hSw
       try dsimp only at hSw
       go_simp
       try with_reducible rfl
      try simp only [Act.put, List.setIfInBounds_toArray, List.set_cons_zero, List.set_cons_succ]
      refine wpAnyH_take (i := 10) (oi := ?oi10) (v := ?v10) ?hi10 (by kernel_rfl) (by kernel_rfl) (by kernel_rfl) ?hQ10 (Or.inl ⟨?hw10, ?hy10⟩) (by assumption) ?rest10
      case hi10 =>
       simp only [List.getElem?_toArray, List.getElem?_cons_succ, List.getElem?_cons_zero]
       rfl
      case hQ10 => exact fun _ _ _ h => h
      case hw10 => rfl
      case hy10 =>
       intro w hSw
       try dsimp only at hSw
       go_simp
       try with_reducible rfl
      try simp only [Act.put, List.setIfInBounds_toArray, List.set_cons_zero, List.set_cons_succ]
      refine wpAnyH_take (i := 11) (oi := ?oi11) (v := ?v11) ?hi11 (by kernel_rfl) (by kernel_rfl) (by kernel_rfl) ?hQ11 (Or.inl ⟨?hw11, ?hy11⟩) (by assumption) ?rest11
      case hi11 =>
       simp only [List.getElem?_toArray, List.getElem?_cons_succ, List.getElem?_cons_zero]
       rfl
      case hQ11 => exact fun _ _ _ h => h
      case hw11 => rfl
      case hy11 =>
       intro w hSw
       try dsimp only at hSw
       go_simp
       try with_reducible rfl
      try simp only [Act.put, List.setIfInBounds_toArray, List.set_cons_zero, List.set_cons_succ]
      refine wpAnyH_take (i := 12) (oi := ?oi12) (v := ?v12) ?hi12 (by kernel_rfl) (by kernel_rfl) (by kernel_rfl) ?hQ12 (Or.inl ⟨?hw12, ?hy12⟩) (by assumption) ?rest12
      case hi12 =>
       simp only [List.getElem?_toArray, List.getElem?_cons_succ, List.getElem?_cons_zero]
       rfl
      case hQ12 => exact fun _ _ _ h => h
      case hw12 => rfl
      case hy12 =>
       intro w hSw
       try dsimp only at hSw
       go_simp
       try with_reducible rfl
      try simp only [Act.put, List.setIfInBounds_toArray, List.set_cons_zero, List.set_cons_succ]
      refine wpAnyH_take (i := 13) (oi := ?oi13) (v := ?v13) ?hi13 (by kernel_rfl) (by kernel_rfl) (by kernel_rfl) ?hQ13 (Or.inl ⟨?hw13, ?hy13⟩) (by assumption) ?rest13
      case hi13 =>
       simp only [List.getElem?_toArray, List.getElem?_cons_succ, List.getElem?_cons_zero]
       rfl
      case hQ13 => exact fun _ _ _ h => h
      case hw13 => rfl
      case hy13 =>
       intro w hSw
       try dsimp only at hSw
       go_simp
       try with_reducible rfl
      try simp only [Act.put, List.setIfInBounds_toArray, List.set_cons_zero, List.set_cons_succ]
      refine wpAnyH_take (i := 14) (oi := ?oi14) (v := .bool false) ?hi14 (by kernel_rfl) (by kernel_rfl) (by kernel_rfl) ?hQ14 (Or.inl ⟨?hw14, ?hy14⟩) (by assumption) ?rest14
      case hi14 =>
       simp only [List.getElem?_toArray, List.getElem?_cons_succ, List.getElem?_cons_zero]
       rfl
      case hQ14 => exact fun _ _ _ h => h
      case hw14 => rfl
      case hy14 =>
       intro w hSw
       try dsimp only at hSw
       go_simp
       try exact hdm
      try simp only [Act.put, List.setIfInBounds_toArray, List.set_cons_zero, List.set_cons_succ]
      refine wpAnyH_take (i := 15) (oi := ?oi15) (v := ?v15) ?hi15 (by kernel_rfl) (by kernel_rfl) (by kernel_rfl) ?hQ15 (Or.inl ⟨?hw15, ?hy15⟩) (by assumption) ?rest15
      case hi15 =>
       simp only [List.getElem?_toArray, List.getElem?_cons_succ, List.getElem?_cons_zero]
       rfl
      case hQ15 => exact fun _ _ _ h => h
      case hw15 => rfl
      case hy15 =>
       intro w hSw
       try dsimp only at hSw
       go_simp
       try with_reducible rfl
      try simp only [Act.put, List.setIfInBounds_toArray, List.set_cons_zero, List.set_cons_succ]
      refine wpAnyH_take (i := 16) (oi := ?oi16) (v := undef) ?hi16 (by kernel_rfl) (by kernel_rfl) (by kernel_rfl) ?hQ16 (Or.inr ⟨?hw16, rfl⟩) (by assumption) ?rest16
      case hi16 =>
       simp only [List.getElem?_toArray, List.getElem?_cons_succ, List.getElem?_cons_zero]
       rfl
      case hQ16 => exact fun _ _ _ h => h
      case hw16 => rfl
      try simp only [Act.put, List.setIfInBounds_toArray, List.set_cons_zero, List.set_cons_succ]
      refine wpAnyH_take (i := 17) (oi := ?oi17) (v := undef) ?hi17 (by kernel_rfl) (by kernel_rfl) (by kernel_rfl) ?hQ17 (Or.inr ⟨?hw17, rfl⟩) (by assumption) ?rest17
      case hi17 =>
       simp only [List.getElem?_toArray, List.getElem?_cons_succ, List.getElem?_cons_zero]
       rfl
      case hQ17 => exact fun _ _ _ h => h
      case hw17 => rfl
      try simp only [Act.put, List.setIfInBounds_toArray, List.set_cons_zero, List.set_cons_succ]
      refine wpAnyH_take (i := 18) (oi := ?oi18) (v := undef) ?hi18 (by kernel_rfl) (by kernel_rfl) (by kernel_rfl) ?hQ18 (Or.inr ⟨?hw18, rfl⟩) (by assumption) ?rest18
      case hi18 =>
       simp only [List.getElem?_toArray, List.getElem?_cons_succ, List.getElem?_cons_zero]
       rfl
      case hQ18 => exact fun _ _ _ h => h
      case hw18 => rfl
      try simp only [Act.put, List.setIfInBounds_toArray, List.set_cons_zero, List.set_cons_succ]
      refine wpAnyH_take (i := 19) (oi := ?oi19) (v := undef) ?hi19 (by kernel_rfl) (by kernel_rfl) (by kernel_rfl) ?hQ19 (Or.inr ⟨?hw19, rfl⟩) (by assumption) ?rest19
      case hi19 =>
       simp only [List.getElem?_toArray, List.getElem?_cons_succ, List.getElem?_cons_zero]
       rfl
      case hQ19 => exact fun _ _ _ h => h
      case hw19 => rfl
      try simp only [Act.put, List.setIfInBounds_toArray, List.set_cons_zero, List.set_cons_succ]
      refine wpAnyH_take (i := 20) (oi := ?oi20) (v := undef) ?hi20 (by kernel_rfl) (by kernel_rfl) (by kernel_rfl) ?hQ20 (Or.inr ⟨?hw20, rfl⟩) (by assumption) ?rest20
      case hi20 =>
       simp only [List.getElem?_toArray, List.getElem?_cons_succ, List.getElem?_cons_zero]
       rfl
      case hQ20 => exact fun _ _ _ h => h
      case hw20 => rfl
      try simp only [Act.put, List.setIfInBounds_toArray, List.set_cons_zero, List.set_cons_succ]
      refine wpAnyH_take (i := 21) (oi := ?oi21) (v := undef) ?hi21 (by kernel_rfl) (by kernel_rfl) (by kernel_rfl) ?hQ21 (Or.inr ⟨?hw21, rfl⟩) (by assumption) ?rest21
      case hi21 =>
       simp only [List.getElem?_toArray, List.getElem?_cons_succ, List.getElem?_cons_zero]
       rfl
      case hQ21 => exact fun _ _ _ h => h
      case hw21 => rfl
      try simp only [Act.put, List.setIfInBounds_toArray, List.set_cons_zero, List.set_cons_succ]
      refine wpAnyH_take (i := 22) (oi := ?oi22) (v := undef) ?hi22 (by kernel_rfl) (by kernel_rfl) (by kernel_rfl) ?hQ22 (Or.inr ⟨?hw22, rfl⟩) (by assumption) ?rest22
      case hi22 =>
       simp only [List.getElem?_toArray, List.getElem?_cons_succ, List.getElem?_cons_zero]
       rfl
      case hQ22 => exact fun _ _ _ h => h
      case hw22 => rfl
      try simp only [Act.put, List.setIfInBounds_toArray, List.set_cons_zero, List.set_cons_succ]
      refine wpAnyH_take (i := 23) (oi := ?oi23) (v := undef) ?hi23 (by kernel_rfl) (by kernel_rfl) (by kernel_rfl) ?hQ23 (Or.inr ⟨?hw23, rfl⟩) (by assumption) ?rest23
      case hi23 =>
       simp only [List.getElem?_toArray, List.getElem?_cons_succ, List.getElem?_cons_zero]
       rfl
      case hQ23 => exact fun _ _ _ h => h
      case hw23 => rfl
      try simp only [Act.put, List.setIfInBounds_toArray, List.set_cons_zero, List.set_cons_succ]
      refine wpAnyH_take (i := 24) (oi := ?oi24) (v := undef) ?hi24 (by kernel_rfl) (by kernel_rfl) (by kernel_rfl) ?hQ24 (Or.inr ⟨?hw24, rfl⟩) (by assumption) ?rest24
      case hi24 =>
       simp only [List.getElem?_toArray, List.getElem?_cons_succ, List.getElem?_cons_zero]
       rfl
      case hQ24 => exact fun _ _ _ h => h
      case hw24 => rfl
      try simp only [Act.put, List.setIfInBounds_toArray, List.set_cons_zero, List.set_cons_succ]
      refine wpAnyH_take (i := 25) (oi := ?oi25) (v := ?v25) ?hi25 (by kernel_rfl) (by kernel_rfl) (by kernel_rfl) ?hQ25 (Or.inl ⟨?hw25, ?hy25⟩) (by assumption) ?rest25
      case hi25 =>
       simp only [List.getElem?_toArray, List.getElem?_cons_succ, List.getElem?_cons_zero]
       rfl
      case hQ25 => exact fun _ _ _ h => h
      case hw25 => rfl
      case hy25 =>
       intro w hSw
       try dsimp only at hSw
       go_simp
       try with_reducible rfl
      try simp only [Act.put, List.setIfInBounds_toArray, List.set_cons_zero, List.set_cons_succ]
      refine wpAnyH_take (i := 26) (oi := ?oi26) (v := ?v26) ?hi26 (by kernel_rfl) (by kernel_rfl) (by kernel_rfl) ?hQ26 (Or.inl ⟨?hw26, ?hy26⟩) (by assumption) ?rest26
      case hi26 =>
       simp only [List.getElem?_toArray, List.getElem?_cons_succ, List.getElem?_cons_zero]
       rfl
      case hQ26 => exact fun _ _ _ h => h
      case hw26 => rfl
      case hy26 =>
       intro w hSw
       try dsimp only at hSw
       go_simp
       try with_reducible rfl
      try simp only [Act.put, List.setIfInBounds_toArray, List.set_cons_zero, List.set_cons_succ]
      refine wpAnyH_done (by kernel_rfl) ?_ _
      all_goals (go_wp2_with fail)
      all_goals (go_roundw)
      all_goals (first
       | exact ⟨q + 1, by go_num, by omega, Lib.hid (HFQ.out.trans (hbA.mono HFQ.out.size))⟩
       | (simp [intOf]; omega))
    ·obtain rfl : q = n + 70 := by omega
     clear hv hlv
     go_wp2_with fail
     refine ⟨⟨m + 1, by go_num, by omega, Lib.hid (HF.out.trans (HWR.out.mono HF.out.size))⟩, ?_⟩
     simp [intOf]
     omega
  ·obtain rfl : m = N := by omega
   go_wp2_with fail
   go_ret
   exact ⟨rfl, HF.out⟩
end Go.Proofs.YtgekmbfmfiikkaaGreatDoor
