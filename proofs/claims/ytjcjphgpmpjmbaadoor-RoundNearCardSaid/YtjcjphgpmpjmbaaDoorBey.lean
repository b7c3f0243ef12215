/-
  What a fraction costs (IntSize, FracSize, Lowest, FracCost). Whether sizes, taken together, are too many to be copied (polestarlaw01.Beyond).
-/
import Derived.Test.YtjcjphgpmpjmbaaDoorMem
import Derived.Test.YtjcjphgpmpjmbaaDoorZero
namespace Go.Proofs.YtjcjphgpmpjmbaaDoor
open Go.RowKit

def costFr (n n' : Nat) : Nat := 2 + n + n' + min n 1048576 * min n' 1048576 / 16 * 1024
theorem low_wrap (a b : Nat) (ha : a ≤ 1048576) (hb : b ≤ 1048576) : wrap64 (wrap64 ((wrap64 ((a : Int) * (b : Int))).tdiv 16) * 1024) = ((a * b / 16 * 1024 : Nat) : Int) := by
  have h1 : a * b ≤ 1048576 * 1048576 := Nat.mul_le_mul ha hb
  rw [← Int.natCast_mul]
  generalize a * b = p at *
  have e : ∀ z : Int, -9223372036854775808 ≤ z ∧ z ≤ 9223372036854775807 → wrap64 z = z := fun z h => by unfold wrap64; omega
  rw [e (p : Int) (by omega), show ((p : Int)).tdiv 16 = ((p / 16 : Nat) : Int) from (Int.ofNat_tdiv p 16).symm, e ((p / 16 : Nat) : Int) (by omega), e _ (by omega)]
  omega
set_option maxRecDepth 100000 in
theorem int_size_any (neg : Bool) (A : Option Addr) (n c : Nat) (w : World) (hn : n ≤ 281474976710656) :
    Calls Tryd.prog 58 #[.agg #[.bool neg, .slice A n c]] w (RetV w (.int .i64 (1 + (n : Int)))) := by
  go_enter Tryd.func58, Tryd.ntmps58
  go_wp2
  go_ret
  exact ⟨rfl, (Below.refl _ _).alloc (Nat.le_refl _) _⟩
set_option maxRecDepth 100000 in
set_option maxHeartbeats 800000 in
theorem frac_size_any (neg neg' : Bool) (A A' : Option Addr) (n c n' c' : Nat) (w : World) (hn : n ≤ 281474976710656) (hn' : n' ≤ 281474976710656) :
    Calls Tryd.prog 30 #[.agg #[.bool neg, .slice A n c, .bool neg', .slice A' n' c']] w (RetV w (.int .i64 ((2 + n + n' : Nat) : Int))) := by
  have K0 := (Mm.nil w).var (g := w.heap.size) rfl [.bool neg, .slice A n c, .bool neg', .slice A' n' c'] 26
  have HW : Hid (IntKind.i64.wrap ((1 + (n : Int)) + (1 + (n' : Int))) = ((2 + n + n' : Nat) : Int)) := Lib.hid (by rw [IntWalk.i64_in _ (by omega)]; omega)
  go_enter Tryd.func30, Tryd.ntmps30
  go_wp2_with fail
  generalize w.alloc (.cells #[.bool neg, .slice A n c, .bool neg', .slice A' n' c'] 26) = w0 at K0 ⊢
  obtain ⟨⟨qa0, qb0, qc0, qd0⟩, ⟨qe0, qf0, qg0, qh0⟩, qi0⟩ := (K0.blk (g := w.heap.size) (vs := [.bool neg, .slice A n c, .bool neg', .slice A' n' c']) (by simp)).four
  go_region_held3 (fun w' => w'.cell? ⟨w.heap.size, 0, none⟩ = some (.bool neg) ∧ w'.cell? ⟨w.heap.size, 1, none⟩ = some (.slice A n c) ∧ w'.cell? ⟨w.heap.size, 2, none⟩ = some (.bool neg') ∧ w'.cell? ⟨w.heap.size, 3, none⟩ = some (.slice A' n' c'))
    (go_keep)
    (first
      | (go_at_call 58; (with_reducible refine (int_size_any neg A n c _ hn).mono ?_); rintro e1 w1 ⟨rfl, hb1⟩; (first | (with_reducible have K1 := K0.next hb1) | (with_reducible have K1 := K0.drew.next hb1) | (with_reducible have K1 := (K0.drewN _).next hb1)); obtain ⟨⟨qa1, qb1, qc1, qd1⟩, ⟨qe1, qf1, qg1, qh1⟩, qi1⟩ := (K1.blk (g := w.heap.size) (vs := [.bool neg, .slice A n c, .bool neg', .slice A' n' c']) (by simp)).four; clear hb1)
      | (go_at_call 58; (with_reducible refine (int_size_any neg' A' n' c' _ hn').mono ?_); rintro e2 w2 ⟨rfl, hb2⟩; (first | (with_reducible have K2 := K1.next hb2) | (with_reducible have K2 := K1.drew.next hb2) | (with_reducible have K2 := (K1.drewN _).next hb2)); obtain ⟨⟨qa2, qb2, qc2, qd2⟩, ⟨qe2, qf2, qg2, qh2⟩, qi2⟩ := (K2.blk (g := w.heap.size) (vs := [.bool neg, .slice A n c, .bool neg', .slice A' n' c']) (by simp)).four; clear hb2))
  go_wp2_with fail
  rw [HW.out]
  go_ret
  exact ⟨rfl, K2.1⟩
set_option maxRecDepth 100000 in
set_option maxHeartbeats 800000 in
theorem lowest_cost (neg neg' : Bool) (A A' : Option Addr) (n c n' c' L : Nat) (w : World) (hn : n ≤ 281474976710656) (hn' : n' ≤ 281474976710656) (hL : Hid (min n 1048576 * min n' 1048576 / 16 * 1024 = L)) :
    Calls Tryd.prog 31 #[.agg #[.bool neg, .slice A n c], .agg #[.bool neg', .slice A' n' c']] w (RetV w (.int .i64 (L : Int))) := by
  go_enter Tryd.func31, Tryd.ntmps31
  go_wp2_with fail
  all_goals go_ret
  all_goals (refine ⟨?_, ((Below.refl _ _).alloc (Nat.le_refl _) _).alloc (by simp) _⟩)
  all_goals (first
    | (rw [← hL.out, Nat.min_eq_left (show n ≤ 1048576 by omega), Nat.min_eq_left (show n' ≤ 1048576 by omega), ← low_wrap n n' (by omega) (by omega)]; rfl)
    | (rw [← hL.out, Nat.min_eq_left (show n ≤ 1048576 by omega), Nat.min_eq_right (show 1048576 ≤ n' by omega), ← low_wrap n 1048576 (by omega) (by omega)]; rfl)
    | (rw [← hL.out, Nat.min_eq_right (show 1048576 ≤ n by omega), Nat.min_eq_left (show n' ≤ 1048576 by omega), ← low_wrap 1048576 n' (by omega) (by omega)]; rfl)
    | (rw [← hL.out, Nat.min_eq_right (show 1048576 ≤ n by omega), Nat.min_eq_right (show 1048576 ≤ n' by omega), ← low_wrap 1048576 1048576 (by omega) (by omega)]; rfl))
set_option maxRecDepth 100000 in
set_option maxHeartbeats 800000 in
theorem frac_cost_any (neg neg' : Bool) (A A' : Option Addr) (n c n' c' : Nat) (w : World) (hn : n ≤ 281474976710656) (hn' : n' ≤ 281474976710656) :
    Calls Tryd.prog 8 #[.agg #[.bool neg, .slice A n c, .bool neg', .slice A' n' c']] w (RetV w (.int .i64 (costFr n n' : Nat))) := by
  have K0 := (Mm.nil w).var (g := w.heap.size) rfl [.bool neg, .slice A n c, .bool neg', .slice A' n' c'] 26
  obtain ⟨L, hL⟩ : ∃ L, min n 1048576 * min n' 1048576 / 16 * 1024 = L := ⟨_, rfl⟩
  have hLb : L ≤ 1048576 * 1048576 * 64 := by
    have h1 : min n 1048576 * min n' 1048576 ≤ 1048576 * 1048576 := Nat.mul_le_mul (Nat.min_le_right _ _) (Nat.min_le_right _ _)
    omega
  have HW : Hid (IntKind.i64.wrap (2 + (n : Int) + (n' : Int) + (L : Int)) = ((costFr n n' : Nat) : Int)) := Lib.hid (by rw [IntWalk.i64_in _ (by omega)]; unfold costFr; rw [hL]; omega)
  have HLC := fun W : World => lowest_cost neg neg' A A' n c n' c' L W hn hn' (Lib.hid hL)
  clear hL
  go_enter Tryd.func8, Tryd.ntmps8
  go_wp2_with fail
  generalize w.alloc (.cells #[.bool neg, .slice A n c, .bool neg', .slice A' n' c'] 26) = w0 at K0 ⊢
  obtain ⟨⟨qa0, qb0, qc0, qd0⟩, ⟨qe0, qf0, qg0, qh0⟩, qi0⟩ := (K0.blk (g := w.heap.size) (vs := [.bool neg, .slice A n c, .bool neg', .slice A' n' c']) (by simp)).four
  go_region_held3 (fun w' => w'.cell? ⟨w.heap.size, 0, none⟩ = some (.bool neg) ∧ w'.cell? ⟨w.heap.size, 1, none⟩ = some (.slice A n c) ∧ w'.cell? ⟨w.heap.size, 2, none⟩ = some (.bool neg') ∧ w'.cell? ⟨w.heap.size, 3, none⟩ = some (.slice A' n' c'))
    (go_keep)
    (first
      | (go_at_call 30; (with_reducible refine (frac_size_any neg neg' A A' n c n' c' _ hn hn').mono ?_); rintro e1 w1 ⟨rfl, hb1⟩; (first | (with_reducible have K1 := K0.next hb1) | (with_reducible have K1 := K0.drew.next hb1) | (with_reducible have K1 := (K0.drewN _).next hb1)); obtain ⟨⟨qa1, qb1, qc1, qd1⟩, ⟨qe1, qf1, qg1, qh1⟩, qi1⟩ := (K1.blk (g := w.heap.size) (vs := [.bool neg, .slice A n c, .bool neg', .slice A' n' c']) (by simp)).four; clear hb1)
      | (go_at_call 31; (with_reducible refine (HLC _).mono ?_); rintro e2 w2 ⟨rfl, hb2⟩; (first | (with_reducible have K2 := K1.next hb2) | (with_reducible have K2 := K1.drew.next hb2) | (with_reducible have K2 := (K1.drewN _).next hb2)); obtain ⟨⟨qa2, qb2, qc2, qd2⟩, ⟨qe2, qf2, qg2, qh2⟩, qi2⟩ := (K2.blk (g := w.heap.size) (vs := [.bool neg, .slice A n c, .bool neg', .slice A' n' c']) (by simp)).four; clear hb2))
  go_wp2_with fail
  rw [HW.out]
  go_ret
  exact ⟨rfl, K2.1⟩
theorem cost_le {n n' : Nat} (h : ¬ 1048576 < costFr n n') : n ≤ 1000000000 ∧ n' ≤ 1000000000 := by
  unfold costFr at h
  omega
theorem cost_sum (n n' : Nat) (hn : n ≤ 281474976710656) (hn' : n' ≤ 281474976710656) : [costFr n n'].sum ≤ 9223372036854775807 := by
  have h1 : min n 1048576 * min n' 1048576 ≤ 1048576 * 1048576 := Nat.mul_le_mul (Nat.min_le_right _ _) (Nat.min_le_right _ _)
  unfold costFr
  simp only [List.sum_cons, List.sum_nil]
  generalize min n 1048576 * min n' 1048576 = p at *
  omega
end Go.Proofs.YtjcjphgpmpjmbaaDoor

namespace Go.Proofs.YtjcjphgpmpjmbaaDoor
open Go.RowKit

def nats (l : List Nat) : List Value := l.map fun (x : Nat) => Value.int .i64 (x : Int)
theorem nats_get {l : List Nat} {k : Nat} {u : Value} (h : (nats l)[k]? = some u) : ∃ hk : k < l.length, u = .int .i64 (l[k] : Nat) := by
  unfold nats at h
  rw [List.getElem?_map] at h
  rcases Nat.lt_or_ge k l.length with hk | hk
  · rw [List.getElem?_eq_getElem hk] at h
    exact ⟨hk, by simpa using h.symm⟩
  · rw [List.getElem?_eq_none hk] at h; cases h
theorem sum_take_succ (l : List Nat) (k : Nat) (h : k < l.length) : (l.take (k + 1)).sum = (l.take k).sum + l[k] := by
  rw [List.take_succ_eq_append_getElem h, List.sum_append]
  simp
theorem sum_take_le (l : List Nat) (k : Nat) : (l.take k).sum ≤ l.sum := by
  have h : l.sum = (l.take k).sum + (l.drop k).sum := by rw [← List.sum_append, List.take_append_drop]
  omega
set_option maxRecDepth 100000 in
set_option maxHeartbeats 1600000 in
theorem beyond_any (A : Option Addr) (n c : Nat) (l : List Nat) (w : World) (h : Reads w w.heap.size A n (nats l)) (hn : n ≤ 1000000) (hl : l.sum ≤ 9223372036854775807) :
    Calls Tryd.prog 7 #[.slice A n c] w fun e w' => e = .returned (.bool (decide (1048576 < l.sum))) ∧ w = w' := by
  have hlen : l.length = n := by have := h.1; unfold nats at this; simpa using this
  have HS := Lib.hid (sum_take_le l)
  have HL := Lib.hid hl
  have HLEN := Lib.hid hlen
  clear hl hlen
  go_enter Tryd.func7, Tryd.ntmps7
  go_wp2_with fail
  go_loopw [3, 4] (fun s i wr => ∃ k : Nat, k ≤ n ∧ s = .int .i64 (((l.take k).sum : Nat) : Int) ∧ (l.take k).sum ≤ 1048576 ∧ i = .int .i64 (k : Int) ∧ wr = w) (fun _ i _ => n - (intOf i).toNat)
  case atStart => exact ⟨0, Nat.zero_le _, rfl, by simp, rfl, rfl⟩
  case round =>
    obtain ⟨k, hk, rfl, hs, rfl, rfl⟩ := hrel
    by_cases hlt : k < n
    · obtain ⟨ad, v, rfl, hb, hv, hc⟩ := h.at_ hlt
      obtain ⟨hkl, rfl⟩ := nats_get hv
      have hx : (l.take (k + 1)).sum ≤ 9223372036854775807 := Nat.le_trans (sum_take_le l _) HL.out
      have hsum := sum_take_succ l k hkl
      have hle := HS.out (k + 1)
      obtain ⟨x, hxx⟩ : ∃ x, l[k] = x := ⟨_, rfl⟩
      obtain ⟨s, hss⟩ : ∃ s, (l.take k).sum = s := ⟨_, rfl⟩
      rw [hsum, hxx, hss] at hx
      rw [hxx] at hc hsum
      rw [hss] at hs hsum
      rw [hss]
      have HSUM := Lib.hid hsum
      have hlt' : (k : Int) < (n : Int) := by omega
      have hk0 : (0 : Int) ≤ (k : Int) := Int.natCast_nonneg _
      have HLE := Lib.hid hle
      clear hv hsum hss hxx hle
      by_cases hbig : 1048576 < s + x
      · have hbig' : (1048576 : Int) < (s : Int) + (x : Int) := by omega
        have E : Hid (decide (1048576 < l.sum) = true) := Lib.hid (decide_eq_true (by have := HLE.out; have := HSUM.out; omega))
        go_wp2_with fail
        go_ret
        exact ⟨by rw [E.out]; rfl, rfl⟩
      · have hbig' : ¬ (1048576 : Int) < (s : Int) + (x : Int) := by omega
        go_wp2_with fail
        go_roundw
        case rel => exact ⟨k + 1, hlt, by rw [HSUM.out]; go_num, by rw [HSUM.out]; omega, by go_num, trivial⟩
        case measure => simp [intOf]; omega
    · obtain rfl : k = n := by omega
      have E : Hid (decide (1048576 < l.sum) = false) := Lib.hid (decide_eq_false (by rw [List.take_of_length_le (by rw [HLEN.out]; exact Nat.le_refl _)] at hs; omega))
      go_wp2_with fail
      go_ret
      exact ⟨by rw [E.out]; rfl, rfl⟩
theorem nats_new (w : World) (t : TypeId) (l : List Nat) : Reads (w.alloc (.cells (nats l).toArray t)) (w.alloc (.cells (nats l).toArray t)).heap.size (some ⟨w.heap.size, 0, none⟩) l.length (nats l) := by
  have h := reads_new w t (nats l)
  have e : (nats l).length = l.length := by unfold nats; simp
  rw [e] at h
  exact h
end Go.Proofs.YtjcjphgpmpjmbaaDoor
