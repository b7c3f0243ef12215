/-
  A whole number is what another one is (SameInt).
-/
import Derived.Test.YtejlicacndpfpaaMem
namespace Go.Proofs.Ytejlicacndpfpaa
open Go.RowKit

set_option maxRecDepth 100000 in
set_option maxHeartbeats 1600000 in
theorem same_int_any (neg : Bool) (A A' : Option Addr) (n c c' : Nat) (l : List Nat) (w : World) (ha : Sl w A n c l) (hb : Sl w A' n c' l) (hn : n ≤ 1000000000) :
    Calls Try.prog 56 #[.agg #[.bool neg, .slice A n c], .agg #[.bool neg, .slice A' n c']] w (RetV w (.bool true)) := by
  have K0 := ((Mm.nil w).var (g := w.heap.size) rfl [.bool neg, .slice A n c] 24).var (g := w.heap.size + 1) (by simp) [.bool neg, .slice A' n c'] 24
  have ha0 := ha.below K0.1
  have hb0 := hb.below K0.1
  clear ha hb
  go_enter Try.func56, Try.ntmps56
  go_wp2_with fail
  generalize (w.alloc (.cells #[.bool neg, .slice A n c] 24)).alloc (.cells #[.bool neg, .slice A' n c'] 24) = w0 at K0 ha0 hb0 ⊢
  go_loopw [5] (fun ix wr => ∃ k : Nat, k ≤ n ∧ ix = .int .i64 (k : Int) ∧ Sl wr A n c l ∧ Sl wr A' n c' l ∧ Mm w [(w.heap.size, [.bool neg, .slice A n c]), (w.heap.size + 1, [.bool neg, .slice A' n c'])] [] wr) (fun ix _ => n - (intOf ix).toNat)
  case atStart => exact ⟨0, Nat.zero_le _, rfl, ha0, hb0, K0.pick (by simp) (by simp)⟩
  case round =>
    clear ha0 hb0 K0
    obtain ⟨k, hk, rfl, ha0, hb0, K0⟩ := hrel
    obtain ⟨qa0, qb0, qc0, qd0, qe0⟩ := (K0.blk (g := w.heap.size) (vs := [.bool neg, .slice A n c]) (by simp)).two
    obtain ⟨qa1, qb1, qc1, qd1, qe1⟩ := (K0.blk (g := w.heap.size + 1) (vs := [.bool neg, .slice A' n c']) (by simp)).two
    by_cases hkn : k = n
    · subst hkn
      go_wp2_with fail
      go_ret
      exact ⟨rfl, K0.1⟩
    · have hlt : k < n := by omega
      obtain ⟨ad, rfl, _, hld, hcd, _⟩ := ha0.at_ hlt
      obtain ⟨bd, rfl, _, _, hce, _⟩ := hb0.at_ hlt
      obtain ⟨x, hx⟩ : ∃ x, l[k] = x := ⟨_, rfl⟩
      rw [hx] at hcd hce
      have hlt' : (k : Int) < (n : Int) := by omega
      have hk0 : (0 : Int) ≤ (k : Int) := Int.natCast_nonneg _
      clear hx hkn
      go_wp2_with fail
      go_quiet (fail)
      go_wp2_with fail
      go_roundw
      case rel => exact ⟨k + 1, hlt, congrArg (Value.int .i64) (by omega), ha0.drewN _, hb0.drewN _, K0.drewN _⟩
      case measure => simp [intOf] <;> omega
end Go.Proofs.Ytejlicacndpfpaa
