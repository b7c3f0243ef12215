/-
  TurnTables: the walk.
-/
import Derived.Test.YtpnhjgjojnchaaaGreatDoorTurTw
import Derived.Test.YtpnhjgjojnchaaaGreatDoorRux
import Derived.Test.YtpnhjgjojnchaaaGreatDoorBbComplex
import Derived.Deep.RegionHeld3
namespace Go.Proofs.YtpnhjgjojnchaaaGreatDoor
open Go.RowKit

theorem ref17_counted (n : Int) (w : World) : Calls Tryz.prog 15 #[.int .i64 n] w fun e w' => e = .returned (.int .i64 (cntF n)) ∧ w = w' := by
  by_cases h1 : n < 0
  · have HC : Hid (cntF n = 1) := Lib.hid (by unfold cntF; rw [if_pos h1])
    go_enter Tryz.func15, Tryz.ntmps15
    go_wp2_with fail
    go_ret
    exact ⟨by rw [HC.out]; rfl, rfl⟩
  · by_cases h2 : 16 < n
    · have HC : Hid (cntF n = 4) := Lib.hid (by unfold cntF; rw [if_neg h1, if_pos h2])
      go_enter Tryz.func15, Tryz.ntmps15
      go_wp2_with fail
      go_ret
      exact ⟨by rw [HC.out]; rfl, rfl⟩
    · have HC : Hid (cntF n = 0) := Lib.hid (by unfold cntF; rw [if_neg h1, if_neg h2])
      go_enter Tryz.func15, Tryz.ntmps15
      go_wp2_with fail
      go_ret
      exact ⟨by rw [HC.out]; rfl, rfl⟩

set_option maxRecDepth 100000 in
set_option maxHeartbeats 1600000 in
theorem tables_no (n at' : Int) (hc : cntF n ≠ 0) (w : World) : Calls Tryz.prog 4 #[.int .i64 n, .int .i64 at'] w (RetV w (.bool true)) := by
  obtain ⟨c, hcn⟩ : ∃ c, cntF n = c := ⟨_, rfl⟩
  have hc14 : c = 1 ∨ c = 4 := by
    rw [← hcn] at *
    unfold cntF at hc ⊢
    split
    · exact .inl rfl
    · split
      · exact .inr rfl
      · rename_i h1 h2; rw [if_neg h1, if_neg h2] at hc; exact absurd rfl hc
  have HC := Lib.hid hcn
  have HN := Lib.hid hc
  clear hcn hc
  rcases hc14 with rfl | rfl
  all_goals
   go_enter Tryz.func4, Tryz.ntmps4
   go_wp2_with (first
    | (go_at_call 14; (with_reducible refine (table_no n HN.out _).mono ?_); rintro e1 w1 ⟨rfl, rfl⟩; rw [HC.out])
    | (go_at_call 15; (with_reducible refine (ref17_counted n _).mono ?_); rintro e2 w2 ⟨rfl, rfl⟩; rw [HC.out])
    | (go_at_call 16; (with_reducible refine (lives17 _).mono ?_); rintro e3 w3 ⟨rfl, hb3⟩))
   go_ret
   exact ⟨rfl, hb3⟩

set_option maxRecDepth 100000 in
set_option maxHeartbeats 6400000 in
theorem tables_ok (n : Nat) (at' : Int) (hn : n ≤ 16) (w : World) : Calls Tryz.prog 4 #[.int .i64 (n : Int), .int .i64 at'] w (RetV w (.bool true)) := by
  obtain ⟨S, hSS⟩ : ∃ S, (2 : Nat) ^ n = S := ⟨_, rfl⟩
  have h0 : 0 < S := by rw [← hSS]; exact Nat.two_pow_pos _
  have h1 : S ≤ 65536 := by rw [← hSS]; exact Nat.pow_le_pow_right (by decide) hn
  have hS : wrap64 (2 ^ n) = (S : Int) := by rw [pow_nat, hSS]; unfold wrap64; omega
  have hS0 : ¬ (S : Int) = 0 := by omega
  have HC : Hid (cntF (n : Int) = 0) := Lib.hid (by unfold cntF; rw [if_neg (by omega), if_neg (by omega)])
  obtain ⟨hr1, hr2⟩ := rem_bd at' h0
  have HS2 := Lib.hid hSS
  clear hSS
  go_enter Tryz.func4, Tryz.ntmps4
  go_wp2_with fail
  refine (table_ok n hn S HS2.out _).mono ?_
  rintro e1 w1 ⟨g, xs, rfl, hg, hown, HX0, hb1⟩
  have HX := Lib.hid HX0
  clear HX0
  go_wp2_with fail
  refine (table_ok n hn S HS2.out _).mono ?_
  rintro e2 w2 ⟨g2, ys, rfl, hg2, hown2, HY0, hb2⟩
  have HY := Lib.hid HY0
  have hown1 := below_own hown hb2
  have hown2' := own_base hown2 hb1.size
  have hbw2 := below_next hb1 hb2
  have hgg : g < g2 := by have := (hown.lt g rfl).2; omega
  clear HY0 hown hb2 hown2 hb1
  go_wp2_with fail
  refine (ref17_counted (n : Int) _).mono ?_
  rintro e3 w3 ⟨rfl, rfl⟩
  rw [HC.out]
  go_upto_if 63 with fail
  rw [hS]
  clear hS
  go_cut [11, 12, 63] from 64 to 75 (fun s8 s9 _ wx => ∃ f T : Nat, s8 = .int .i64 (f : Int) ∧ s9 = .int .i64 (T : Int) ∧ f ≤ T ∧ T ≤ S ∧ wx = w2)
  case first =>
    by_cases hbig : 128 < S
    · by_cases hneg : at'.tmod (S : Int) < 0
      · go_wp2_with fail
        all_goals go_meet
        all_goals (first
          | exact ⟨(at'.tmod (S : Int) + (S : Int)).toNat, (min (S : Int) (at'.tmod (S : Int) + (S : Int) + 16)).toNat, congrArg (Value.int .i64) (by omega), congrArg (Value.int .i64) (by omega), by omega, by omega, rfl⟩
          | exact ⟨(at'.tmod (S : Int) + (S : Int)).toNat, S, congrArg (Value.int .i64) (by omega), rfl, by omega, Nat.le_refl _, rfl⟩
          | exact ⟨(at'.tmod (S : Int) + (S : Int)).toNat, (at'.tmod (S : Int) + (S : Int) + 16).toNat, congrArg (Value.int .i64) (by omega), congrArg (Value.int .i64) (by omega), by omega, by omega, rfl⟩)
      · go_wp2_with fail
        all_goals go_meet
        all_goals (first
          | exact ⟨(at'.tmod (S : Int)).toNat, (min (S : Int) (at'.tmod (S : Int) + 16)).toNat, congrArg (Value.int .i64) (by omega), congrArg (Value.int .i64) (by omega), by omega, by omega, rfl⟩
          | exact ⟨(at'.tmod (S : Int)).toNat, S, congrArg (Value.int .i64) (by omega), rfl, by omega, Nat.le_refl _, rfl⟩
          | exact ⟨(at'.tmod (S : Int)).toNat, (at'.tmod (S : Int) + 16).toNat, congrArg (Value.int .i64) (by omega), congrArg (Value.int .i64) (by omega), by omega, by omega, rfl⟩)
    · go_wp2_with fail
      go_meet
      exact ⟨0, S, rfl, rfl, by omega, Nat.le_refl _, rfl⟩
  case rest =>
    obtain ⟨f, T, rfl, rfl, hfT, hTS, rfl⟩ := hcut
    clear hr1 hr2
    go_wp2_with fail
    go_loopw [13] (fun i wr => ∃ k : Nat, f ≤ k ∧ k ≤ T ∧ i = .int .i64 (k : Int) ∧ wr.ownsRow w.heap.size 55 1 (.slice (some ⟨g, 0, none⟩) S S) S xs ∧ wr.ownsRow w.heap.size 55 1 (.slice (some ⟨g2, 0, none⟩) S S) S ys ∧ Below w.heap.size w wr) (fun i _ => T - (intOf i).toNat)
    case atStart => exact ⟨f, Nat.le_refl _, hfT, rfl, hown1, hown2', hbw2⟩
    case round =>
      clear hown1 hown2' hbw2
      obtain ⟨k, hfk, hkT, rfl, hx, hy, hnx⟩ := hrel
      by_cases hlt : k < T
      · obtain ⟨z, hz⟩ : ∃ z, uF (jF (k : Int) n) = z := ⟨_, rfl⟩
        obtain ⟨a, b⟩ := z
        have HZ := Lib.hid hz
        have hkS : k < S := by omega
        have c1 := own_cell hx HX.out hkS
        have c2 := own_cell hy HY.out hkS
        rw [tabV_eq, hz] at c1 c2
        clear hz
        go_wp2_with fail
        go_region_held3 (fun w' => w'.cell? ⟨g, k, none⟩ = some (.complex .f64 a b) ∧ w'.cell? ⟨g2, k, none⟩ = some (.complex .f64 a b))
          (go_keep)
          (first
            | (go_at_call 18; (with_reducible refine (ref17_unit (k : Int) n hn _).mono ?_); rintro e4 w4 ⟨rfl, d4, rfl⟩; rw [HZ.out])
            | (go_at_call 17; (with_reducible refine (sameComplex_eq a b _).mono ?_); rintro e5 w5 ⟨rfl, rfl⟩)
            | fail)
        all_goals (go_wp2_with fail)
        all_goals (go_roundw)
        all_goals (first
          | exact ⟨k + 1, by omega, by omega, by go_num, hx, hy, below_drewN hnx _⟩
          | (simp [intOf]; omega))
      · obtain rfl : k = T := by omega
        clear hlt
        have HX1 := Lib.hid hx
        have HY1 := Lib.hid hy
        have HB1 := Lib.hid hnx
        have HGG := Lib.hid hgg
        have st0 := Lib.hid (bkst_newComplex w.heap.size wr)
        clear hx hy hnx
        go_wp2_with fail
        have bB : w.heap.size ≤ wr.heap.size := HB1.out.size
        refine (Complexes_st wr.heap.size w.heap.size (some ⟨g, 0, none⟩) S S xs [] _ st0.out (by decide) (by simp; omega) bB).mono ?_
        rintro e5 w5 ⟨rfl, st1, hb5, hk5⟩
        have hx5 := hk5 _ _ _ _ _ (fun e => by have := (HX1.out.lt g rfl).2; injection e with e; have : g = wr.heap.size := e; omega) (HX1.out.alloc (.cells #[.int .i64 0, .slice none 0 0, .slice none 0 0, .slice none 0 0, .slice none 0 0, .slice none 0 0, .slice none 0 0, .slice none 0 0, .slice none 0 0, .slice none 0 0, .slice none 0 0, .slice none 0 0, .slice none 0 0, .slice none 0 0, .slice none 0 0, .slice none 0 0, .slice none 0 0] 45))
        have hy5 := hk5 _ _ _ _ _ (fun e => by have := (HY1.out.lt g2 rfl).2; injection e with e; have : g2 = wr.heap.size := e; omega) (HY1.out.alloc (.cells #[.int .i64 0, .slice none 0 0, .slice none 0 0, .slice none 0 0, .slice none 0 0, .slice none 0 0, .slice none 0 0, .slice none 0 0, .slice none 0 0, .slice none 0 0, .slice none 0 0, .slice none 0 0, .slice none 0 0, .slice none 0 0, .slice none 0 0, .slice none 0 0, .slice none 0 0] 45))
        have b5 : Below w.heap.size w w5 := (HB1.out.alloc HB1.out.size _).trans hb5
        have ST1 := Lib.hid st1
        have HX5 := Lib.hid hx5
        have HY5 := Lib.hid hy5
        have HB5 := Lib.hid hb5
        clear st1 hx5 hy5 hk5 hb5
        go_wp2_with fail
        refine (Complexes_st wr.heap.size w.heap.size (some ⟨g2, 0, none⟩) S S ys _ _ ST1.out (by simp) (Nat.le_trans bB (by have := b5.size; have := HB5.out.size; simp at this; omega)) bB).mono ?_
        rintro e6 w6 ⟨rfl, st2, hb6, hk6⟩
        have hne1 : Value.ownBlock (.slice (some ⟨g, 0, none⟩) S S) ≠ some wr.heap.size := fun e => by have := (HX1.out.lt g rfl).2; injection e with e; have : g = wr.heap.size := e; omega
        have hne2 : Value.ownBlock (.slice (some ⟨g2, 0, none⟩) S S) ≠ some wr.heap.size := fun e => by have := (HY1.out.lt g2 rfl).2; injection e with e; have : g2 = wr.heap.size := e; omega
        have hx6 := hk6 _ _ _ _ _ hne1 HX5.out
        have hy6 := hk6 _ _ _ _ _ hne2 HY5.out
        have b6 := b5.trans hb6
        have ST2 := Lib.hid st2
        have HX6 := Lib.hid hx6
        have HY6 := Lib.hid hy6
        have H1 := Lib.hid hne1
        have H2 := Lib.hid hne2
        clear st2 hx6 hy6 hk6 hb6 b5 hne1 hne2
        have HAP : Hid (Calls Tryz.prog 13 #[.pointer (some ⟨wr.heap.size, 0, none⟩)] w6 fun e w' => e = .returned (.bool true) ∧ Below w.heap.size w6 w') := Lib.hid (by
          refine apartComplex_st wr.heap.size w.heap.size _ w6 ST2.out (by simp) (fun i h hi => ?_) (fun i j h h' hij hi hj q hq hq' => ?_) (fun i h hi => ?_) (by simp) (by have := b6.size; omega)
          · match i, hi with
            | 0, hi => injection hi with hi; subst hi; exact HX6.out
            | 1, hi => injection hi with hi; subst hi; exact HY6.out
            | i + 2, hi => simp at hi
          · have hgne := HGG.out
            match i, j, hi, hj with
            | 0, 0, _, _ => exact hij rfl
            | 1, 1, _, _ => exact hij rfl
            | 0, 1, hi, hj => injection hi with hi; injection hj with hj; subst hi; subst hj; injection hq with hq; injection hq' with hq'; have e1 : g = q := hq; have e2 : g2 = q := hq'; omega
            | 1, 0, hi, hj => injection hi with hi; injection hj with hj; subst hi; subst hj; injection hq with hq; injection hq' with hq'; have e1 : g2 = q := hq; have e2 : g = q := hq'; omega
            | i + 2, _, hi, _ => simp at hi
            | _, j + 2, _, hj => simp at hj
          · match i, hi with
            | 0, hi => injection hi with hi; subst hi; exact ⟨⟨.inl rfl, by show S ≤ 1000000000; omega⟩, H1.out⟩
            | 1, hi => injection hi with hi; subst hi; exact ⟨⟨.inr rfl, by show S ≤ 1000000000; omega⟩, H2.out⟩
            | i + 2, hi => simp at hi)
        go_wp2_with fail
        refine HAP.out.mono ?_
        rintro e7 w7 ⟨rfl, hb7⟩
        have b7 := b6.trans hb7
        go_wp2_with fail
        refine (lives17 _).mono ?_
        rintro e8 w8 ⟨rfl, hb8⟩
        go_wp2_with fail
        go_ret
        exact ⟨rfl, below_next b7 hb8⟩
theorem law_tables (n at' : Int) (w : World) (_h1 : -9223372036854775808 ≤ n ∧ n ≤ 9223372036854775807) (_h2 : -9223372036854775808 ≤ at' ∧ at' ≤ 9223372036854775807) : Calls Tryz.prog 4 #[.int .i64 n, .int .i64 at'] w (RetV w (.bool true)) := by
  by_cases hc : cntF n = 0
  · have hn : 0 ≤ n ∧ n ≤ 16 := by
      unfold cntF at hc
      split at hc
      · cases hc
      · split at hc
        · cases hc
        · omega
    obtain ⟨m, rfl⟩ := Int.eq_ofNat_of_zero_le hn.1
    exact tables_ok m at' (by omega) w
  · exact tables_no n at' hc w
end Go.Proofs.YtpnhjgjojnchaaaGreatDoor
