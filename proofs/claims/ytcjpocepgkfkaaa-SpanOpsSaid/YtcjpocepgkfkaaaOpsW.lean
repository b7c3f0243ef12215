/-
  SpanOps: the walk.
-/
import Derived.Test.YtcjpocepgkfkaaaFrD
import Derived.Test.YtcjpocepgkfkaaaSpnLw
namespace Go.Proofs.Ytcjpocepgkfkaaa
open Go.RowKit

set_option maxRecDepth 100000 in
set_option maxHeartbeats 1600000 in
theorem span_check_any (la ha : Nat) (b1 : la < 2 ^ 64) (b2 : ha < 2 ^ 64) (w : World) : Calls Try.prog 7 #[.agg #[.float .f64 la, .float .f64 ha]] w (RetV w (.int .i64 (okI la ha))) := by
  have K0 := (Mm.nil w).var (g := w.heap.size) rfl [.float .f64 la, .float .f64 ha] 24
  obtain ⟨m, hm⟩ : ∃ m, okS la ha = m := ⟨_, rfl⟩
  have HM := Lib.hid hm
  have HI : Hid (okI la ha = if m then 0 else 1) := Lib.hid (by unfold okI; rw [hm])
  clear hm
  cases m with
  | false =>
    have HJ : Hid (okI la ha = 1) := HI
    rw [HJ.out]
    clear HI HJ
    go_enter Try.func7, Try.ntmps7
    go_wp2_with fail
    refine (span_may_one (w.heap.size + 1) la ha _ b1 b2 (by simp) (by simp [go_sem]) (by simp [go_sem])).mono ?_
    rintro e1 w1 ⟨rfl, hb1⟩
    rw [HM.out]
    have K1 := (K0.box _).next hb1
    go_wp2_with fail
    go_ret
    exact ⟨rfl, K1.1⟩
  | true =>
    have HJ : Hid (okI la ha = 0) := HI
    rw [HJ.out]
    clear HI HJ
    go_enter Try.func7, Try.ntmps7
    go_wp2_with fail
    refine (span_may_one (w.heap.size + 1) la ha _ b1 b2 (by simp) (by simp [go_sem]) (by simp [go_sem])).mono ?_
    rintro e1 w1 ⟨rfl, hb1⟩
    rw [HM.out]
    have K1 := (K0.box _).next hb1
    go_wp2_with fail
    go_ret
    exact ⟨rfl, K1.1⟩
set_option maxRecDepth 100000 in
set_option maxHeartbeats 3200000 in
theorem law_spanOps (la ha lb hb : Nat) (b1 : la < 2 ^ 64) (b2 : ha < 2 ^ 64) (b3 : lb < 2 ^ 64) (b4 : hb < 2 ^ 64) (w : World) :
    Calls Try.prog 3 #[.agg #[.float .f64 la, .float .f64 ha], .agg #[.float .f64 lb, .float .f64 hb]] w (RetV w (.bool true)) := by
  have K0 := ((Mm.nil w).var (g := w.heap.size) rfl [.float .f64 la, .float .f64 ha] 24).var (g := w.heap.size + 1) (by simp) [.float .f64 lb, .float .f64 hb] 24
  go_enter Try.func3, Try.ntmps3
  go_wp2_with fail
  go_loopw [5] (fun i wr => ∃ k : Nat, i = .int .i64 (k : Int) ∧ k ≤ 4 ∧ Mm w [(w.heap.size + 1, [.float .f64 lb, .float .f64 hb]), (w.heap.size, [.float .f64 la, .float .f64 ha])] [] wr) (fun i _ => 4 - (intOf i).toNat)
  case atStart => exact ⟨0, rfl, by decide, K0⟩
  case round =>
    obtain ⟨k, rfl, hk, K1⟩ := hrel
    clear K0
    obtain ⟨qa1x, qb1x, qc1x, qd1x, qe1x⟩ := (K1.blk (g := w.heap.size) (vs := [.float .f64 la, .float .f64 ha]) (by simp)).two
    obtain ⟨qa1y, qb1y, qc1y, qd1y, qe1y⟩ := (K1.blk (g := w.heap.size + 1) (vs := [.float .f64 lb, .float .f64 hb]) (by simp)).two
    by_cases hlt : k < 4
    · have hlt' : (k : Int) < 4 := by omega
      go_wp2_with fail
      refine (do_any k hlt la ha lb hb b1 b2 b3 b4 _).mono ?_
      rintro e2 w2 ⟨⟨p0, p1, p2⟩, hp, rfl, hb2⟩
      have HP := Lib.hid hp
      have K2 := K1.next hb2
      clear hp hb2 K1
      have K3 := K2.var (g := w2.heap.size) rfl [.float .f64 p0, .float .f64 p1] 24
      obtain ⟨qa2x, qb2x, qc2x, qd2x, qe2x⟩ := (K2.blk (g := w.heap.size) (vs := [.float .f64 la, .float .f64 ha]) (by simp)).two
      obtain ⟨qa2y, qb2y, qc2y, qd2y, qe2y⟩ := (K2.blk (g := w.heap.size + 1) (vs := [.float .f64 lb, .float .f64 hb]) (by simp)).two
      have n1 : ¬ w.heap.size = w2.heap.size := by omega
      have n2 : ¬ w.heap.size + 1 = w2.heap.size := by omega
      go_wp2_with fail
      refine (ref5_do_any k hlt la ha lb hb b1 b2 b3 b4 _).mono ?_
      rintro e4 w4 ⟨q, hq, rfl, hb4⟩
      have hpq := do_same hlt HP.out hq
      subst hpq
      have K4 := K3.next hb4
      have K5 := K4.var (g := w4.heap.size) rfl [.float .f64 p0, .float .f64 p1] 24
      clear hq hb4 K3 K2 HP
      obtain ⟨qa4p, qb4p, qc4p, qd4p, qe4p⟩ := (K4.blk (g := w2.heap.size) (vs := [.float .f64 p0, .float .f64 p1]) (by simp)).two
      have n3 : ¬ w2.heap.size = w4.heap.size := by omega
      go_wp2_with fail
      refine (same05_eq p0 p1 p2 _).mono ?_
      rintro e6 w6 ⟨rfl, hb6⟩
      have K6 := K5.next hb6
      clear hb6 K5 K4
      go_wp2_with fail
      go_roundw
      case rel => exact ⟨k + 1, by go_num, by omega, K6.pick (by simp) (by simp)⟩
      case measure => simp [intOf]; omega
    · obtain rfl : k = 4 := by omega
      go_wp2_with fail
      go_region_held3 (fun w' => w'.cell? ⟨w.heap.size, 0, none⟩ = some (.float .f64 la) ∧ w'.cell? ⟨w.heap.size, 1, none⟩ = some (.float .f64 ha) ∧ w'.cell? ⟨w.heap.size + 1, 0, none⟩ = some (.float .f64 lb) ∧ w'.cell? ⟨w.heap.size + 1, 1, none⟩ = some (.float .f64 hb))
        (go_keep)
        (first
        | (go_at_call 7; (with_reducible refine (span_check_any la ha b1 b2 _).mono ?_); rintro e6 w6 ⟨rfl, hb6⟩; have K6 := K1.next (by first | exact hb6 | exact below_of_drew hb6 | exact below_of_drewN hb6); have Q6 := (K6.blk (g := w.heap.size) (vs := [.float .f64 la, .float .f64 ha]) (by simp)).two; have R6 := (K6.blk (g := w.heap.size + 1) (vs := [.float .f64 lb, .float .f64 hb]) (by simp)).two; obtain ⟨x60, x61, _, _, _⟩ := Q6; obtain ⟨y60, y61, _, _, _⟩ := R6)
        | (go_at_call 8; (with_reducible refine (ref_check_any la ha _).mono ?_); rintro e7 w7 ⟨rfl, hb7⟩; have K7 := K6.next (by first | exact hb7 | exact below_of_drew hb7 | exact below_of_drewN hb7); have Q7 := (K7.blk (g := w.heap.size) (vs := [.float .f64 la, .float .f64 ha]) (by simp)).two; have R7 := (K7.blk (g := w.heap.size + 1) (vs := [.float .f64 lb, .float .f64 hb]) (by simp)).two; obtain ⟨x70, x71, _, _, _⟩ := Q7; obtain ⟨y70, y71, _, _, _⟩ := R7)
        | (go_at_call 7; (with_reducible refine (span_check_any lb hb b3 b4 _).mono ?_); rintro e8 w8 ⟨rfl, hb8⟩; have K8 := K7.next (by first | exact hb8 | exact below_of_drew hb8 | exact below_of_drewN hb8); have Q8 := (K8.blk (g := w.heap.size) (vs := [.float .f64 la, .float .f64 ha]) (by simp)).two; have R8 := (K8.blk (g := w.heap.size + 1) (vs := [.float .f64 lb, .float .f64 hb]) (by simp)).two; obtain ⟨x80, x81, _, _, _⟩ := Q8; obtain ⟨y80, y81, _, _, _⟩ := R8)
        | (go_at_call 8; (with_reducible refine (ref_check_any lb hb _).mono ?_); rintro e9 w9 ⟨rfl, hb9⟩; have K9 := K8.next (by first | exact hb9 | exact below_of_drew hb9 | exact below_of_drewN hb9); have Q9 := (K9.blk (g := w.heap.size) (vs := [.float .f64 la, .float .f64 ha]) (by simp)).two; have R9 := (K9.blk (g := w.heap.size + 1) (vs := [.float .f64 lb, .float .f64 hb]) (by simp)).two; obtain ⟨x90, x91, _, _, _⟩ := Q9; obtain ⟨y90, y91, _, _, _⟩ := R9)
        | (go_at_call 9; (with_reducible refine (lives05 _).mono ?_); rintro e10 w10 ⟨rfl, hb10⟩; have K10 := K9.next (by first | exact hb10 | exact below_of_drew hb10 | exact below_of_drewN hb10); have Q10 := (K10.blk (g := w.heap.size) (vs := [.float .f64 la, .float .f64 ha]) (by simp)).two; have R10 := (K10.blk (g := w.heap.size + 1) (vs := [.float .f64 lb, .float .f64 hb]) (by simp)).two; obtain ⟨x100, x101, _, _, _⟩ := Q10; obtain ⟨y100, y101, _, _, _⟩ := R10))
      all_goals (go_wp2_with fail)
      all_goals go_ret
      all_goals exact ⟨rfl, K10.1⟩
end Go.Proofs.Ytcjpocepgkfkaaa
