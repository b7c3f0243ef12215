/-
  How many halvings a row has (fft.size).
-/
import Derived.Test.YtejlicacndpfpaaZero
import Derived.Test.YtejlicacndpfpaaShelf
import Derived.Laws.BitsLemmas
namespace Go.Proofs.Ytejlicacndpfpaa
open Go.RowKit

/-- Is it 2^n? -/
def isP2 (k : Nat) : Bool := decide (0 < k) && decide (k &&& (k - 1) = 0)
def ffSize (k : Nat) : Int × Int := if 65536 < k then (0, 4) else if isP2 k then ((Lib.bitLen k : Int) - 1, 0) else (0, 1)
theorem bits_and63 (a b : Nat) (ha : a < 4611686018427387904) (hb : b < 4611686018427387904) : bits .and .i64 (a : Int) (b : Int) = ((a &&& b : Nat) : Int) :=
  (bits_nat .i64 62 (by decide) (fun n h0 h1 => IntWalk.i64_in _ (by omega)) a b ha hb).1
set_option maxHeartbeats 800000 in
theorem fft_size_any (k : Nat) (w : World) (hk : k ≤ 1048576) :
    Calls Try.prog 76 #[.int .i64 (k : Int)] w fun e w' => e = .returned (.tuple #[.int .i64 (ffSize k).1, .int .i64 (ffSize k).2]) ∧ w = w' := by
  by_cases h1 : 65536 < k
  · have HF : Hid (ffSize k = (0, 4)) := Lib.hid (by unfold ffSize; rw [if_pos h1])
    have h2 : (65536 : Int) < (k : Int) := by omega
    go_enter Try.func76, Try.ntmps76
    go_wp2_with fail
    go_ret2
    exact ⟨by rw [HF.out]; rfl, rfl⟩
  · have h2 : ¬ (65536 : Int) < (k : Int) := by omega
    by_cases h0 : k = 0
    · subst h0
      have HF : Hid (ffSize 0 = (0, 1)) := Lib.hid (by decide)
      go_enter Try.func76, Try.ntmps76
      go_wp2_with fail
      go_ret2
      exact ⟨by rw [HF.out]; rfl, rfl⟩
    · have hz : ((k : Int) == 0) = false := by rw [beq_eq_false_iff_ne]; omega
      have hz1 : ¬ k = 0 := h0
      have hw : IntKind.i64.wrap ((k : Int) - 1) = ((k - 1 : Nat) : Int) := by rw [IntWalk.i64_in _ (by omega)]; omega
      have hand : bits .and .i64 (k : Int) ((k - 1 : Nat) : Int) = ((k &&& (k - 1) : Nat) : Int) := bits_and63 _ _ (by omega) (by omega)
      obtain ⟨m, hm⟩ : ∃ m, k &&& (k - 1) = m := ⟨_, rfl⟩
      rw [hm] at hand
      by_cases hp : m = 0
      · have HF : Hid (ffSize k = ((Lib.bitLen k : Int) - 1, 0)) := Lib.hid (by unfold ffSize isP2; rw [if_neg h1, hm, hp, decide_eq_true (by omega : 0 < k)]; rfl)
        have hbl : Lib.bitLen ((k : Int).toNat) = Lib.bitLen k := rfl
        obtain ⟨B, hB⟩ : ∃ B, Lib.bitLen k = B := ⟨_, rfl⟩
        have HB := Lib.hid hB
        have hb2 : B ≤ 64 := by rw [← hB]; exact Lib.bitLen_le _ 64 (by decide) (by omega)
        have hw2 : IntKind.i64.wrap ((B : Int) - 1) = (B : Int) - 1 := IntWalk.i64_in _ (by omega)
        rw [hB] at HF
        subst hp
        clear hm hB
        go_enter Try.func76, Try.ntmps76
        go_wp2_with (go_at_call 120; (refine (Try.bits_Len (k : Int) _ (by omega) (by omega)).mono ?_); rintro e1 w1 ⟨rfl, rfl⟩; rw [hbl, HB.out])
        go_ret2
        exact ⟨by rw [HF.out]; rfl, rfl⟩
      · have HF : Hid (ffSize k = (0, 1)) := Lib.hid (by unfold ffSize isP2; rw [if_neg h1, hm, decide_eq_false hp, Bool.and_false]; rfl)
        have hmz : ((m : Int) == 0) = false := by rw [beq_eq_false_iff_ne]; omega
        have hmz1 : ¬ (m : Int) = 0 := by omega
        clear hm
        go_enter Try.func76, Try.ntmps76
        go_wp2_with fail
        go_ret2
        exact ⟨by rw [HF.out]; rfl, rfl⟩
end Go.Proofs.Ytejlicacndpfpaa
