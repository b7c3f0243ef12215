/-
  StackQuarters: the walk.
-/
import Derived.Test.YtpnhjgjojnchaaaGreatDoorSqQ
import Derived.Test.YtpnhjgjojnchaaaGreatDoorBbCoat
namespace Go.Proofs.YtpnhjgjojnchaaaGreatDoor
open Go.RowKit

theorem rowLow {w : World} {base base' : Nat} {e : TypeId} {sz : Nat} {v : Value} {n : Nat} {xs : List Value} (h : w.ownsRow base e sz v n xs) (hb : base' ≤ base) : w.ownsRow base' e sz v n xs := by
  refine ⟨h.1, ?_⟩
  rcases h.2 with hn | ⟨g, cap, cur, hv, hg, rest⟩
  · exact .inl hn
  · exact .inr ⟨g, cap, cur, hv, Nat.le_trans hb hg, rest⟩
theorem coatsV_seg (C : Nat → Coat) (n i : Nat) (hi : i < n) : ∃ N K T, C i = (N, K, T) ∧ (coatsV C n)[i * 3]? = some (.float .f64 N) ∧ (coatsV C n)[i * 3 + 1]? = some (.int .i64 K) ∧ (coatsV C n)[i * 3 + 2]? = some (.int .i64 T) := by
  obtain ⟨a, b, c⟩ := coatsV_at C n i hi
  exact ⟨(C i).1, (C i).2.1, (C i).2.2, rfl, a, b, c⟩
set_option maxRecDepth 100000 in
set_option maxHeartbeats 3200000 in
theorem same_coats_any (A A' : Option Addr) (n c c' b1 b2 : Nat) (C : Nat → Coat) (w : World) (ha : w.ownsRow b1 105 3 (.slice A n c) n (coatsV C n)) (hb : w.ownsRow b2 105 3 (.slice A' n c') n (coatsV C n)) (hn : n ≤ 1000000000) :
    Calls Tryz.prog 11 #[.slice A n c, .slice A' n c'] w (RetV w (.bool true)) := by
  have HA := Lib.hid ha
  have HB := Lib.hid hb
  clear ha hb
  go_enter Tryz.func11, Tryz.ntmps11
  go_wp2_with fail
  go_loopw [5] (fun i wr => ∃ k : Nat, i = .int .i64 (k : Int) ∧ k ≤ n ∧ Hid (Below w.heap.size w wr)) (fun i _ => n - (intOf i).toNat)
  case atStart => exact ⟨0, rfl, Nat.zero_le _, Lib.hid (Below.refl _ _)⟩
  case round =>
    obtain ⟨k, rfl, hk, HX⟩ := hrel
    by_cases hlt : k < n
    · obtain ⟨N, K, T, _, s0, s1, s2⟩ := coatsV_seg C n k hlt
      have hF := Fr.of_below (fun _ => False) HX.out
      have ra := Fr.row HA.out hF (fun _ _ => id)
      have rb := Fr.row HB.out hF (fun _ _ => id)
      obtain ⟨g, d, hv, _, hg⟩ := ra.form (by omega)
      injection hv with e1 e2 e3
      subst e1; subst e3
      obtain ⟨g', d', hv, _, hg'⟩ := rb.form (by omega)
      injection hv with e1 e2 e3
      subst e1; subst e3
      have a0 := (ra.cellAt (k * 3) (by omega)).trans s0
      have a1 := (ra.cellAt (k * 3 + 1) (by omega)).trans s1
      have a2 := (ra.cellAt (k * 3 + 2) (by omega)).trans s2
      have b0 := (rb.cellAt (k * 3) (by omega)).trans s0
      have b1' := (rb.cellAt (k * 3 + 1) (by omega)).trans s1
      have b2' := (rb.cellAt (k * 3 + 2) (by omega)).trans s2
      clear ra rb hF s0 s1 s2
      go_wp2_with fail
      go_region_held3 (fun w' => w'.cell? ⟨g, k * 3, none⟩ = some (.float .f64 N) ∧ w'.cell? ⟨g, k * 3 + 1, none⟩ = some (.int .i64 K) ∧ w'.cell? ⟨g, k * 3 + 2, none⟩ = some (.int .i64 T) ∧ w'.cell? ⟨g', k * 3, none⟩ = some (.float .f64 N) ∧ w'.cell? ⟨g', k * 3 + 1, none⟩ = some (.int .i64 K) ∧ w'.cell? ⟨g', k * 3 + 2, none⟩ = some (.int .i64 T))
        (go_keep)
        (first
          | (go_at_call 57; (with_reducible refine (same_coat_self N K T _).mono ?_); rintro e1 w1 ⟨rfl, hb1⟩; have hbA : Below wr.heap.size wr w1 := (by first | exact below_of_drew hb1 | exact below_of_drewN hb1); have c0 := (hbA.cell (p := ⟨g, k * 3, none⟩) hg).trans a0; have c1 := (hbA.cell (p := ⟨g, k * 3 + 1, none⟩) hg).trans a1; have c2 := (hbA.cell (p := ⟨g, k * 3 + 2, none⟩) hg).trans a2; have c3 := (hbA.cell (p := ⟨g', k * 3, none⟩) hg').trans b0; have c4 := (hbA.cell (p := ⟨g', k * 3 + 1, none⟩) hg').trans b1'; have c5 := (hbA.cell (p := ⟨g', k * 3 + 2, none⟩) hg').trans b2'; clear hb1)
          | fail)
      all_goals (go_wp2_with fail)
      all_goals (go_roundw)
      all_goals (first
        | exact ⟨k + 1, by go_num, by omega, Lib.hid (HX.out.trans (hbA.mono HX.out.size))⟩
        | (simp [intOf]; omega))
    · obtain rfl : k = n := by omega
      go_wp2_with fail
      go_ret
      exact ⟨rfl, HX.out⟩

set_option maxRecDepth 100000 in
set_option maxHeartbeats 6400000 in
theorem law_quarters (h l : Nat) (p : Int) (w : World) (hh : h < 2 ^ 64) (hl : l < 2 ^ 64) (_hp : -9223372036854775808 ≤ p ∧ p ≤ 9223372036854775807) : Calls Tryz.prog 3 #[.float .f64 h, .float .f64 l, .int .i64 p] w (RetV w (.bool true)) := by
  obtain ⟨P, hP⟩ : ∃ P, qP h l p = P := ⟨_, rfl⟩
  obtain ⟨E, hE⟩ : ∃ E, qE h l p = E := ⟨_, rfl⟩
  have hPb : P ≤ 32 := by
    rw [← hP]
    unfold qP
    split
    · rename_i e
      rw [Bool.and_eq_true, Bool.and_eq_true, Bool.and_eq_true] at e
      have := of_decide_eq_true e.2
      omega
    · omega
  have HQ : Hid (∀ e w w', RetQ w h l p e w' → ∃ A c, e = .returned (.tuple #[.slice A (P * 2) c, .int .i64 E]) ∧ w'.ownsRow w.heap.size 105 3 (.slice A (P * 2) c) (P * 2) (coatsV (qC h l) (P * 2)) ∧ Below w.heap.size w w') := Lib.hid (fun e w w' hr => by unfold RetQ at hr; rw [hP, hE] at hr; exact hr)
  clear hP hE
  go_enter Tryz.func3, Tryz.ntmps3
  go_wp2_with fail
  refine (quarter_any h l p hh hl _).mono ?_
  intro e1 w1 hr1
  obtain ⟨A1, c1, rfl, own1, hb1⟩ := HQ.out _ _ _ hr1
  clear hr1
  go_wp2_with fail
  refine (quarter_any h l p hh hl _).mono ?_
  intro e2 w2 hr2
  obtain ⟨A2, c2, rfl, own2, hb2⟩ := HQ.out _ _ _ hr2
  clear hr2
  have HNE : Hid (∀ g, Value.ownBlock (.slice A1 (P * 2) c1) = some g → Value.ownBlock (.slice A2 (P * 2) c2) ≠ some g) := Lib.hid (fun g h1 h2 => by have a := (own1.lt g h1).2; have b := (own2.lt g h2).1; omega)
  have own1' := Fr.row own1 (Fr.of_below (fun _ => False) hb2) (fun _ _ => id)
  have own2' := rowLow own2 hb1.size
  have hbw2 := below_next hb1 hb2
  clear own1 own2 hb1 hb2
  go_wp2_with fail
  refine (ref19_quarter_any h l p hh hl _).mono ?_
  intro e3 w3 hr3
  obtain ⟨A3, c3, rfl, own3, hb3⟩ := HQ.out _ _ _ hr3
  clear hr3
  have X1 := Lib.hid (Fr.row own1' (Fr.of_below (fun _ => False) hb3) (fun _ _ => id))
  have X2 := Lib.hid (Fr.row own2' (Fr.of_below (fun _ => False) hb3) (fun _ _ => id))
  have X3 := Lib.hid own3
  have B3 := Lib.hid (below_next hbw2 hb3)
  clear own1' own2' own3 hbw2 hb3
  go_wp2_with (first
    | (go_at_call 11; (with_reducible refine (same_coats_any A1 A3 (P * 2) c1 c3 _ _ (qC h l) w3 X1.out X3.out (by omega)).mono ?_); rintro e4 w4 ⟨rfl, hb4⟩; have B4 := Lib.hid hb4; have Y2 := Lib.hid (Fr.row X2.out (Fr.of_below (fun _ => False) hb4) (fun _ _ => id)); have Y3 := Lib.hid (Fr.row X3.out (Fr.of_below (fun _ => False) hb4) (fun _ _ => id)); clear hb4)
    | (go_at_call 11; (with_reducible refine (same_coats_any A2 A3 (P * 2) c2 c3 _ _ (qC h l) w4 Y2.out Y3.out (by omega)).mono ?_); rintro e5 w5 ⟨rfl, hb5⟩; have B5 := Lib.hid hb5; clear hb5))
  have R1 := Fr.row (Fr.row X1.out (Fr.of_below (fun _ => False) B4.out) (fun _ _ => id)) (Fr.of_below (fun _ => False) B5.out) (fun _ _ => id)
  have R2 := Fr.row Y2.out (Fr.of_below (fun _ => False) B5.out) (fun _ _ => id)
  have hb5 := below_next (below_next B3.out B4.out) B5.out
  have n1 : Value.ownBlock (.slice A1 (P * 2) c1) ≠ some w5.heap.size := fun e => by have := (R1.lt _ e).2; omega
  have n2 : Value.ownBlock (.slice A2 (P * 2) c2) ≠ some w5.heap.size := fun e => by have := (R2.lt _ e).2; omega
  have N1 := Lib.hid n1
  have N2 := Lib.hid n2
  have bB : w.heap.size ≤ w5.heap.size := hb5.size
  refine (Coats_st w5.heap.size w.heap.size A1 (P * 2) c1 (coatsV (qC h l) (P * 2)) [] _ (bkst_newCoat w.heap.size w5) (by decide) (by simp; omega) bB).mono ?_
  rintro e6 w6 ⟨rfl, st1, hb6, hk6⟩
  have S1 := Lib.hid (hk6 _ _ _ _ _ n1 (R1.alloc (.cells #[.int .i64 0, .slice none 0 0, .slice none 0 0, .slice none 0 0, .slice none 0 0, .slice none 0 0, .slice none 0 0, .slice none 0 0, .slice none 0 0, .slice none 0 0, .slice none 0 0, .slice none 0 0, .slice none 0 0, .slice none 0 0, .slice none 0 0, .slice none 0 0, .slice none 0 0] 45)))
  have S2 := Lib.hid (hk6 _ _ _ _ _ n2 (R2.alloc (.cells #[.int .i64 0, .slice none 0 0, .slice none 0 0, .slice none 0 0, .slice none 0 0, .slice none 0 0, .slice none 0 0, .slice none 0 0, .slice none 0 0, .slice none 0 0, .slice none 0 0, .slice none 0 0, .slice none 0 0, .slice none 0 0, .slice none 0 0, .slice none 0 0, .slice none 0 0] 45)))
  have b6 := (hb5.alloc hb5.size (.cells #[.int .i64 0, .slice none 0 0, .slice none 0 0, .slice none 0 0, .slice none 0 0, .slice none 0 0, .slice none 0 0, .slice none 0 0, .slice none 0 0, .slice none 0 0, .slice none 0 0, .slice none 0 0, .slice none 0 0, .slice none 0 0, .slice none 0 0, .slice none 0 0, .slice none 0 0] 45)).trans hb6
  have ST1 := Lib.hid st1
  clear st1 hk6 hb6 R1 R2 n1 n2
  go_wp2_with fail
  refine (Coats_st w5.heap.size w.heap.size A2 (P * 2) c2 (coatsV (qC h l) (P * 2)) _ _ ST1.out (by simp) b6.size bB).mono ?_
  rintro e7 w7 ⟨rfl, st2, hb7, hk7⟩
  have Q1 := Lib.hid (hk7 _ _ _ _ _ N1.out S1.out)
  have Q2 := Lib.hid (hk7 _ _ _ _ _ N2.out S2.out)
  have b7 := b6.trans hb7
  have ST2 := Lib.hid st2
  clear st2 hk7 hb7 b6
  have HAP : Hid (Calls Tryz.prog 13 #[.pointer (some ⟨w5.heap.size, 0, none⟩)] w7 fun e w' => e = .returned (.bool true) ∧ Below w.heap.size w7 w') := Lib.hid (by
    refine apartCoat_st w5.heap.size w.heap.size _ w7 ST2.out (by simp) (fun i x hi => ?_) (fun i j x x' hij hi hj q hq hq' => ?_) (fun i x hi => ?_) (by simp) b7.size
    · match i, hi with
      | 0, hi => injection hi with hi; subst hi; exact Q1.out
      | 1, hi => injection hi with hi; subst hi; exact Q2.out
      | i + 2, hi => simp at hi
    · match i, j, hi, hj with
      | 0, 0, _, _ => exact hij rfl
      | 1, 1, _, _ => exact hij rfl
      | 0, 1, hi, hj => injection hi with hi; injection hj with hj; subst hi; subst hj; exact HNE.out q hq hq'
      | 1, 0, hi, hj => injection hi with hi; injection hj with hj; subst hi; subst hj; exact HNE.out q hq' hq
      | i + 2, _, hi, _ => simp at hi
      | _, j + 2, _, hj => simp at hj
    · match i, hi with
      | 0, hi => injection hi with hi; subst hi; exact ⟨⟨by simp, by show P * 2 ≤ 1000000000; omega⟩, N1.out⟩
      | 1, hi => injection hi with hi; subst hi; exact ⟨⟨by simp, by show P * 2 ≤ 1000000000; omega⟩, N2.out⟩
      | i + 2, hi => simp at hi)
  go_wp2_with fail
  refine HAP.out.mono ?_
  rintro e8 w8 ⟨rfl, hb8⟩
  have b8 := b7.trans hb8
  go_wp2_with fail
  go_ret
  exact ⟨rfl, b8⟩
end Go.Proofs.YtpnhjgjojnchaaaGreatDoor
