/-
  A whole number is what another one is (SameInt).
  Is the twin of a whole number as it was? (LeftInt)
  Is the twin of a fraction as it was? (LeftFrac)
-/
import Derived.Test.YtjcjphgpmpjmbaaGreatDoorFrp
namespace Go.Proofs.YtjcjphgpmpjmbaaGreatDoor
open Go.RowKit

set_option maxRecDepth 100000 in
set_option maxHeartbeats 1600000 in
theorem same_int_any (neg : Bool) (A A' : Option Addr) (n c c' : Nat) (l : List Nat) (w : World) (ha : Sl w A n c l) (hb : Sl w A' n c' l) (hn : n ≤ 1000000000) :
    Calls Tryz.prog 79 #[.agg #[.bool neg, .slice A n c], .agg #[.bool neg, .slice A' n c']] w (RetV w (.bool true)) := by
  have K0 := ((Mm.nil w).var (g := w.heap.size) rfl [.bool neg, .slice A n c] 27).var (g := w.heap.size + 1) (by simp) [.bool neg, .slice A' n c'] 27
  have ha0 := ha.below K0.1
  have hb0 := hb.below K0.1
  clear ha hb
  go_enter Tryz.func79, Tryz.ntmps79
  go_wp2_with fail
  generalize (w.alloc (.cells #[.bool neg, .slice A n c] 27)).alloc (.cells #[.bool neg, .slice A' n c'] 27) = w0 at K0 ha0 hb0 ⊢
  go_loopw [5] (fun ix wr => ∃ k : Nat, k ≤ n ∧ ix = .int .i64 (k : Int) ∧ Sl wr A n c l ∧ Sl wr A' n c' l ∧ Mm w [(w.heap.size, [.bool neg, .slice A n c]), (w.heap.size + 1, [.bool neg, .slice A' n c'])] [] wr) (fun ix _ => n - (intOf ix).toNat)
  case atStart => exact ⟨0, Nat.zero_le _, rfl, ha0, hb0, K0.pick (by simp) (by simp)⟩
  case round =>
    clear ha0 hb0 K0
    obtain ⟨k, hk, rfl, ha0, hb0, K0⟩ := hrel
    obtain ⟨qa0, qb0, qc0, qd0, qe0⟩ := (K0.blk (g := w.heap.size) (vs := [.bool neg, .slice A n c]) (by simp)).two
    obtain ⟨qa1, qb1, qc1, qd1, qe1⟩ := (K0.blk (g := w.heap.size + 1) (vs := [.bool neg, .slice A' n c']) (by simp)).two
    by_cases hkn : k = n
    · subst hkn
      go_wp2_with fail
      go_ret
      exact ⟨rfl, K0.1⟩
    · have hlt : k < n := by omega
      obtain ⟨ad, rfl, _, hld, hcd, _⟩ := ha0.at_ hlt
      obtain ⟨bd, rfl, _, _, hce, _⟩ := hb0.at_ hlt
      obtain ⟨x, hx⟩ : ∃ x, l[k] = x := ⟨_, rfl⟩
      rw [hx] at hcd hce
      have hlt' : (k : Int) < (n : Int) := by omega
      have hk0 : (0 : Int) ≤ (k : Int) := Int.natCast_nonneg _
      clear hx hkn
      go_wp2_with fail
      go_quiet (fail)
      go_wp2_with fail
      go_roundw
      case rel => exact ⟨k + 1, hlt, congrArg (Value.int .i64) (by omega), ha0.drewN _, hb0.drewN _, K0.drewN _⟩
      case measure => simp [intOf] <;> omega
end Go.Proofs.YtjcjphgpmpjmbaaGreatDoor

namespace Go.Proofs.YtjcjphgpmpjmbaaGreatDoor
open Go.RowKit

/-- A twin's limbs: one more behind them, 7777. -/
def Twl (w : World) (g n c : Nat) (l : List Nat) : Prop := n + 1 ≤ c ∧ Sl w (some ⟨g, 0, none⟩) n c l ∧ g < w.heap.size ∧ w.cell? ⟨g, n, none⟩ = some (.int .u32 7777)
theorem Twl.below {w w' : World} {g n c : Nat} {l : List Nat} (h : Twl w g n c l) (hb : Below w.heap.size w w') : Twl w' g n c l :=
  ⟨h.1, h.2.1.below hb, Nat.lt_of_lt_of_le h.2.2.1 hb.size, ((bcell hb).1 _ _ h.2.2.1).trans h.2.2.2⟩
set_option maxRecDepth 100000 in
set_option maxHeartbeats 1600000 in
theorem left_int_any (neg : Bool) (A : Option Addr) (n c g c' : Nat) (l : List Nat) (w : World) (ha : Sl w A n c l) (ht : Twl w g n c' l) (hn : n ≤ 1000000000) :
    Calls Tryz.prog 40 #[.agg #[.bool neg, .slice (some ⟨g, 0, none⟩) n c'], .agg #[.bool neg, .slice A n c]] w (RetV w (.bool true)) := by
  have K0 := ((Mm.nil w).var (g := w.heap.size) rfl [.bool neg, .slice (some ⟨g, 0, none⟩) n c'] 27).var (g := w.heap.size + 1) (by simp) [.bool neg, .slice A n c] 27
  have ha0 := ha.below K0.1
  have ht0 := ht.below K0.1
  have hcap : (n : Int) < (c' : Int) := by have := ht.1; omega
  have hcap1 : n + 1 ≤ c' := ht.1
  have hcap3 : (n : Int) + 1 ≤ (c' : Int) := by omega
  have hl0 : (0 : Int) ≤ (n : Int) + 1 := by omega
  have hl1 : (n : Int) < (n : Int) + 1 := by omega
  have hwr : IntKind.i64.wrap ((n : Int) + 1) = (n : Int) + 1 := IntWalk.i64_in _ (by omega)
  have hl2 : ((n : Int) + 1).toNat = n + 1 := by omega
  have hcap4 : ¬ (c' : Int) ≤ (n : Int) := by omega
  have hcap5 : ¬ (c' : Int) < (n : Int) + 1 := by omega
  have hcap6 : ¬ c' < n + 1 := by omega
  have hcap7 : n < c' := by omega
  clear ha ht
  go_enter Tryz.func40, Tryz.ntmps40
  go_wp2_with fail
  generalize (w.alloc (.cells #[.bool neg, .slice (some ⟨g, 0, none⟩) n c'] 27)).alloc (.cells #[.bool neg, .slice A n c] 27) = w0 at K0 ha0 ht0 ⊢
  obtain ⟨qa0, qb0, qc0, qd0, qe0⟩ := (K0.blk (g := w.heap.size) (vs := [.bool neg, .slice (some ⟨g, 0, none⟩) n c']) (by simp)).two
  obtain ⟨qa1, qb1, qc1, qd1, qe1⟩ := (K0.blk (g := w.heap.size + 1) (vs := [.bool neg, .slice A n c]) (by simp)).two
  have qs := ht0.2.2.2
  go_region_held3 (fun w' => w'.cell? ⟨w.heap.size, 0, none⟩ = some (.bool neg) ∧ w'.cell? ⟨w.heap.size, 1, none⟩ = some (.slice (some ⟨g, 0, none⟩) n c') ∧ w'.cell? ⟨w.heap.size + 1, 0, none⟩ = some (.bool neg) ∧ w'.cell? ⟨w.heap.size + 1, 1, none⟩ = some (.slice A n c) ∧ w'.cell? ⟨g, n, none⟩ = some (.int .u32 7777))
    (go_keep)
    (first
      | (go_at_call 79; (with_reducible refine (same_int_any neg (some ⟨g, 0, none⟩) A n c' c l _ ?_ ?_ hn).mono ?_); (exact ht0.2.1); (exact ha0); rintro e1 w1 ⟨rfl, hb1⟩; (first | (with_reducible have K1 := K0.next hb1) | (with_reducible have K1 := K0.drew.next hb1) | (with_reducible have K1 := (K0.drewN _).next hb1)); have ht1 := ht0.below (below_of_drew hb1); obtain ⟨xa0, xb0, xc0, xd0, xe0⟩ := (K1.blk (g := w.heap.size) (vs := [.bool neg, .slice (some ⟨g, 0, none⟩) n c']) (by simp)).two; obtain ⟨xa1, xb1, xc1, xd1, xe1⟩ := (K1.blk (g := w.heap.size + 1) (vs := [.bool neg, .slice A n c]) (by simp)).two; have xs := ht1.2.2.2; clear hb1))
  go_wp2_with fail
  go_ret
  exact ⟨rfl, K1.1⟩
end Go.Proofs.YtjcjphgpmpjmbaaGreatDoor

namespace Go.Proofs.YtjcjphgpmpjmbaaGreatDoor
open Go.RowKit

set_option maxRecDepth 100000 in
set_option maxHeartbeats 1600000 in
theorem left_frac_any (neg neg' : Bool) (A A' : Option Addr) (n c n' c' g d g' d' : Nat) (l l' : List Nat) (w : World) (ha : Sl w A n c l) (hb : Sl w A' n' c' l') (ht : Twl w g n d l) (hu : Twl w g' n' d' l') (hn : n ≤ 1000000000) (hn' : n' ≤ 1000000000) :
    Calls Tryz.prog 13 #[.agg #[.bool neg, .slice (some ⟨g, 0, none⟩) n d, .bool neg', .slice (some ⟨g', 0, none⟩) n' d'], .agg #[.bool neg, .slice A n c, .bool neg', .slice A' n' c']] w (RetV w (.bool true)) := by
  have K0 := ((Mm.nil w).var (g := w.heap.size) rfl [.bool neg, .slice (some ⟨g, 0, none⟩) n d, .bool neg', .slice (some ⟨g', 0, none⟩) n' d'] 29).var (g := w.heap.size + 1) (by simp) [.bool neg, .slice A n c, .bool neg', .slice A' n' c'] 29
  have ha0 := ha.below K0.1
  have hb0 := hb.below K0.1
  have ht0 := ht.below K0.1
  have hu0 := hu.below K0.1
  clear ha hb ht hu
  go_enter Tryz.func13, Tryz.ntmps13
  go_wp2_with fail
  refine (left_int_any neg A n c g d l _ ha0 ht0 hn).mono ?_
  rintro e1 w1 ⟨rfl, hb1⟩
  have K1 := K0.next hb1
  have hb2 := hb0.below hb1
  have hu2 := hu0.below hb1
  obtain ⟨⟨qa0, qb0, qc0, qd0⟩, _, _⟩ := (K1.blk (g := w.heap.size) (vs := [.bool neg, .slice (some ⟨g, 0, none⟩) n d, .bool neg', .slice (some ⟨g', 0, none⟩) n' d']) (by simp)).four
  obtain ⟨⟨qa1, qb1, qc1, qd1⟩, _, _⟩ := (K1.blk (g := w.heap.size + 1) (vs := [.bool neg, .slice A n c, .bool neg', .slice A' n' c']) (by simp)).four
  clear K0 ha0 hb0 ht0 hu0 hb1
  go_wp2_with fail
  refine (left_int_any neg' A' n' c' g' d' l' _ hb2 hu2 hn').mono ?_
  rintro e2 w2 ⟨rfl, hb3⟩
  have K2 := K1.next hb3
  go_wp2_with fail
  go_ret
  exact ⟨rfl, K2.1⟩
end Go.Proofs.YtjcjphgpmpjmbaaGreatDoor
