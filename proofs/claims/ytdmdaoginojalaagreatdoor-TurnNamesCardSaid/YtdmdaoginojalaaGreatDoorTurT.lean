/-
  Parts of a turn: all of a turn (turn.Table).
-/
import Derived.Test.YtdmdaoginojalaaGreatDoorTurL
namespace Go.Proofs.YtdmdaoginojalaaGreatDoor
open Go.RowKit

theorem info_c128 : (Tryz.prog.info? 25).map (fun i => (i.zero, i.size, i.bytes)) = some (some (.complex .f64 0 0), 1, 16) := by kernel_rfl
/-- The part at a place of a table. -/
def tabV (n k : Nat) : Value := .complex .f64 (uF (jF (k : Int) n)).1 (uF (jF (k : Int) n)).2
theorem tabV_eq (n k : Nat) : tabV n k = .complex .f64 (uF (jF (k : Int) n)).1 (uF (jF (k : Int) n)).2 := rfl
/-- A row that has the parts up to k. -/
def Laid (n k : Nat) (xs : List Value) : Prop := ∀ j, j < k → xs[j]? = some (tabV n j)
theorem Laid.more {n k : Nat} {xs : List Value} (h : Laid n k xs) (hk : k < xs.length) : Laid n (k + 1) (xs.set k (tabV n k)) := fun j hj => by
  by_cases e : k = j
  · subst e
    simp [hk]
  · rw [List.getElem?_set_ne e]
    exact h j (by omega)
theorem quarter_and (k : Int) {n : Nat} (hn : n ≤ 16) : Hid (bits .and .i64 ((jF k n / 16384 : Nat) : Int) 3 = ((jF k n / 16384 : Nat) : Int)) := Lib.hid (by
  have hj := jF_lt k hn
  rw [show (3 : Int) = ((3 : Nat) : Int) from rfl, i64_and_nat _ _ (by omega) (by decide)]
  have e : (jF k n / 16384) &&& 3 = jF k n / 16384 % 4 := Nat.and_two_pow_sub_one_eq_mod _ 2
  rw [e]
  omega)
theorem left_lt (j : Nat) : leftF j < 16384 := by
  unfold leftF
  have := Nat.mod_lt j (show 0 < 16384 by decide)
  split <;> omega
theorem own_base {w : World} {base base' : Nat} {e : TypeId} {v : Value} {n : Nat} {xs : List Value} (h : w.ownsRow base e 1 v n xs) (hb : base' ≤ base) : w.ownsRow base' e 1 v n xs := by
  refine ⟨h.1, ?_⟩
  rcases h.2 with hn | ⟨g, cap, cur, hv, hg, rest⟩
  · exact .inl hn
  · exact .inr ⟨g, cap, cur, hv, Nat.le_trans hb hg, rest⟩
def RetTable (W : World) (n S : Nat) (e : Ending) (w' : World) : Prop :=
  ∃ g xs, e = .returned (.tuple #[.slice (some ⟨g, 0, none⟩) S S, .int .i64 0]) ∧ W.heap.size ≤ g ∧ w'.ownsRow W.heap.size 25 1 (.slice (some ⟨g, 0, none⟩) S S) S xs ∧ Laid n S xs ∧ Below W.heap.size W w'
theorem below_own {w w' : World} {base : Nat} {e : TypeId} {g cap n : Nat} {xs : List Value} (h : w.ownsRow base e 1 (.slice (some ⟨g, 0, none⟩) n cap) n xs) (hb : Below w.heap.size w w') : w'.ownsRow base e 1 (.slice (some ⟨g, 0, none⟩) n cap) n xs :=
  h.kept (row := some w.heap.size) ⟨hb.os, hb.tape, hb.output, hb.size, fun k hk _ => hb.block k hk⟩ (.inr (by have := (h.lt g rfl).2; simp [Value.ownBlock]; omega))
set_option maxRecDepth 100000 in
set_option maxHeartbeats 1600000 in
theorem table_ok (n : Nat) (hn : n ≤ 16) (S : Nat) (hSS : (2 : Nat) ^ n = S) (w : World) : Calls Tryz.prog 11 #[.int .i64 (n : Int)] w (RetTable w n S) := by
  have h0 : 0 < S := by rw [← hSS]; exact Nat.two_pow_pos _
  have h1 : S ≤ 65536 := by rw [← hSS]; exact Nat.pow_le_pow_right (by decide) hn
  have hS : wrap64 (2 ^ n) = (S : Int) := by rw [pow_nat, hSS]; unfold wrap64; omega
  have hC : cntF (n : Int) = 0 := by unfold cntF; rw [if_neg (by omega), if_neg (by omega)]
  have HC := Lib.hid hC
  have HS2 := Lib.hid hSS
  obtain ⟨i0, hi, hz0, hz1, hz2⟩ := info_parts info_c128
  clear hC hSS
  go_enter Tryz.func11, Tryz.ntmps11
  go_wp2_with fail
  refine (counted_any _ _).mono ?_
  rintro e1 w1 ⟨rfl, rfl⟩
  rw [HC.out]
  go_wp2_with fail
  refine (units_any _).mono ?_
  rintro e2 w2 ⟨g, rfl, hg, hP, hb2⟩
  have HP := Lib.hid hP
  clear hP
  go_wp2_with (at_make; refine wpList_make_full _ rfl _ _ 33 rfl w2.heap.size 25 i0 (.complex .f64 0 0) 1 Tryz.underlying33 hi hz0 hz1 _ _ _ _ S rfl rfl (by omega) (by omega) ?c2 ?c3 ?c4 ?_)
  case c2 => rw [hz2]; omega
  case c3 => unfold maxLen; omega
  case c4 => exact Nat.le_refl _
  intro w3 hown1 hgrow1
  have hb3 : Below w2.heap.size w2 w3 := (Below.refl _ _).grown hgrow1 (Nat.le_refl _) (fun k hk => by cases hk)
  obtain ⟨x0, hx0⟩ : ∃ x0, (madeCells #[Value.complex .f64 0 0] S).toList = x0 := ⟨_, rfl⟩
  rw [hx0] at hown1
  clear hgrow1 hx0 i0 hi hz0 hz1 hz2
  have HB2 := Lib.hid hb2
  clear hb2
  go_wp2_with fail
  rw [hS]
  clear hS
  go_loopw [7, 19] (fun _ i wr => ∃ (k : Nat) (xs : List Value), k ≤ S ∧ i = .int .i64 k ∧ wr.ownsRow w2.heap.size 25 1 (.slice (some ⟨w2.heap.size, 0, none⟩) S S) S xs ∧ Hid (Laid n k xs) ∧ Below w2.heap.size w2 wr)
    (fun _ i _ => S - (intOf i).toNat)
  case atStart => exact ⟨0, x0, Nat.zero_le _, rfl, hown1, Lib.hid (fun j hj => absurd hj (by omega)), hb3⟩
  case round =>
    clear hown1 hb3
    obtain ⟨k, xs, hk, rfl, hown, HX, hnx⟩ := hrel
    by_cases hlt : k < S
    · have hq : Hid (bits .and .i64 ((jF (k : Int) n / 16384 : Nat) : Int) 3 = ((jF (k : Int) n / 16384 : Nat) : Int)) := quarter_and k hn
      have hl : leftF (jF (k : Int) n) < 16384 := left_lt _
      have hq4 : jF (k : Int) n / 16384 < 4 := by have := jF_lt (k : Int) hn; omega
      have hP := HP.out.below hnx
      have HPw := Lib.hid hP
      clear hP
      go_wp2_with fail
      refine (at_any (k : Int) n hn _).mono ?_
      rintro e4 w4 ⟨rfl, hb4⟩
      go_wp2_with fail
      refine (units_at g (leftF (jF (k : Int) n)) (jF (k : Int) n / 16384) _ (mirF (jF (k : Int) n)) hl hq hq4 _ (HPw.out.below hb4)).mono ?_
      rintro e5 w5 ⟨rfl, hb5⟩
      have hb45 := below_next hb4 hb5
      have hown5 := below_own hown hb45
      have hnx5 := hnx.trans (hb45.mono hnx.size)
      clear hb4 hb5 hb45 hown hnx
      have hf := hown5.frozenAt k
      have hlen : xs.length = S := hown5.1.trans (Nat.mul_one _)
      have hcx := hown5.cellAt k (by omega)
      obtain ⟨v, hv⟩ : ∃ v, xs[k]? = some v := ⟨_, List.getElem?_eq_getElem (by omega)⟩
      rw [hv] at hcx
      clear hv
      have hz5 := (hown5.lt _ rfl).2
      have HL := Lib.hid hlen
      clear hlen
      go_wp2_with fail
      have hst := (hown5.stored k (tabV n k)).1
      go_roundw
      case rel => exact ⟨k + 1, xs.set k (tabV n k), by omega, by go_num, hst, Lib.hid (HX.out.more (by rw [HL.out]; exact hlt)), hnx5.setCell (p := ⟨w2.heap.size, k, none⟩) (Nat.le_refl _) _⟩
      case measure => simp [intOf]; omega
    · obtain rfl : k = S := by omega
      go_wp2_with fail
      exact bodyPost_ret (v := .tuple #[.slice (some ⟨w2.heap.size, 0, none⟩) k k, .int .i64 0]) (by simp [results, Tryz.results11, go_sem]) rfl ⟨w2.heap.size, xs, rfl, HB2.out.size, own_base hown HB2.out.size, HX.out, HB2.out.trans (hnx.mono HB2.out.size)⟩
end Go.Proofs.YtdmdaoginojalaaGreatDoor
