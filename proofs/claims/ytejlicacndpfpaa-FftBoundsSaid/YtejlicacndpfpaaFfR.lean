/-
  Digits read from behind (bits.Reverse64): some number of 64 bits.
-/
import Derived.Test.YtejlicacndpfpaaZero
import Derived.Laws.Closers25b
namespace Go.Proofs.Ytejlicacndpfpaa
open Go.RowKit

def RetU64 (W : World) (e : Ending) (w' : World) : Prop := ∃ r : Int, e = .returned (.int .u64 r) ∧ 0 ≤ r ∧ r ≤ 18446744073709551615 ∧ W = w'
set_option maxHeartbeats 800000 in
theorem rev_bytes_any (x : Int) (w : World) (_h0 : 0 ≤ x) (_h1 : x ≤ 18446744073709551615) : Calls Try.prog 168 #[.int .u64 x] w (RetU64 w) := by
  have hu : IntKind.u64.signed = false := rfl
  go_enter Try.func168, Try.ntmps168
  go_wp2_with fail
  go_ret
  exact ⟨_, rfl, bits_lo_u64 _ _ _, bits_hi_u64 _ _ _, rfl⟩
set_option maxHeartbeats 800000 in
theorem reverse_any (x : Int) (w : World) (_h0 : 0 ≤ x) (_h1 : x ≤ 18446744073709551615) : Calls Try.prog 149 #[.int .u64 x] w (RetU64 w) := by
  have hu : IntKind.u64.signed = false := rfl
  go_enter Try.func149, Try.ntmps149
  go_wp2_with fail
  refine (rev_bytes_any _ _ (bits_lo_u64 _ _ _) (bits_hi_u64 _ _ _)).mono ?_
  rintro e1 w1 ⟨r, rfl, hr0, hr1, rfl⟩
  go_wp2_with fail
  go_ret
  exact ⟨r, rfl, hr0, hr1, rfl⟩
set_option maxHeartbeats 800000 in
theorem reverse_zero (w : World) : Calls Try.prog 149 #[.int .u64 0] w fun e w' => e = .returned (.int .u64 0) ∧ w = w' := by
  have hu : IntKind.u64.signed = false := rfl
  go_enter Try.func149, Try.ntmps149
  go_wp2_with (go_enter Try.func168, Try.ntmps168)
  go_ret
  exact ⟨by kernel_rfl, rfl⟩
set_option maxHeartbeats 800000 in
theorem reverse_one (w : World) : Calls Try.prog 149 #[.int .u64 1] w fun e w' => e = .returned (.int .u64 9223372036854775808) ∧ w = w' := by
  have hu : IntKind.u64.signed = false := rfl
  go_enter Try.func149, Try.ntmps149
  go_wp2_with (go_enter Try.func168, Try.ntmps168)
  go_ret
  exact ⟨by kernel_rfl, rfl⟩
def RetRev (x : Int) (W : World) (e : Ending) (w' : World) : Prop := ∃ r : Int, e = .returned (.int .u64 r) ∧ 0 ≤ r ∧ r ≤ 18446744073709551615 ∧ Hid ((x = 0 → r = 0) ∧ (x = 1 → r = 9223372036854775808)) ∧ W = w'
theorem reverse_all (x : Int) (w : World) (h0 : 0 ≤ x) (h1 : x ≤ 18446744073709551615) : Calls Try.prog 149 #[.int .u64 x] w (RetRev x w) := by
  by_cases a : x = 0
  · subst a
    exact (reverse_zero w).mono (fun e w' h => ⟨0, h.1, by omega, by omega, Lib.hid ⟨fun _ => rfl, fun k => absurd k (by omega)⟩, h.2⟩)
  · by_cases b : x = 1
    · subst b
      exact (reverse_one w).mono (fun e w' h => ⟨9223372036854775808, h.1, by omega, by omega, Lib.hid ⟨fun k => absurd k (by omega), fun _ => rfl⟩, h.2⟩)
    · exact (reverse_any x w h0 h1).mono (fun e w' ⟨r, h2, h3, h4, h5⟩ => ⟨r, h2, h3, h4, Lib.hid ⟨fun k => absurd k a, fun k => absurd k b⟩, h5⟩)
end Go.Proofs.Ytejlicacndpfpaa
