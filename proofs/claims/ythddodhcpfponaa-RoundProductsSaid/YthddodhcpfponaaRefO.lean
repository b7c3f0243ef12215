/-
  The references' whole numbers (polestarref01): the greatest limb that fits.
-/
import Derived.Test.YthddodhcpfponaaRefN
namespace Go.Proofs.Ythddodhcpfponaa
open Go.RowKit

theorem cmp_le {a b : List Nat} (h : Lm.lv a ≤ Lm.lv b) : Lm.cmp a b ≤ 0 := by unfold Lm.cmp; split <;> first | omega | (split <;> omega)
theorem cmp_gt' {a b : List Nat} (h : Lm.lv b < Lm.lv a) : 0 < Lm.cmp a b := by rw [Lm.cmp_pos h]; decide

set_option maxRecDepth 100000 in
set_option maxHeartbeats 800000 in
theorem ref_fitting_any (A A' : Option Addr) (n c n' c' : Nat) (r d : List Nat) (w : World) (hr : Sl w A n c r) (hd : Sl w A' n' c' d) (cr : Lm.canon r) (hn : n ≤ 1000000000) (hn' : n' ≤ 100000000)
    (h : Lm.lv r < 4294967296 * Lm.lv d) :
    Calls Try.prog 122 #[.slice A n c, .slice A' n' c'] w fun e w' => ∃ q : Nat, e = .returned (.int .u32 (q : Int)) ∧ (q < 4294967296 ∧ q * Lm.lv d ≤ Lm.lv r ∧ Lm.lv r < (q + 1) * Lm.lv d) ∧ Below w.heap.size w w' := by
  have H := Lib.hid h
  clear h
  go_enter Try.func122, Try.ntmps122
  go_wp2
  go_loopw [5, 6] (fun lo hi wr => ∃ l m : Nat, l ≤ m ∧ m < 4294967296 ∧ lo = .int .u64 (l : Int) ∧ hi = .int .u64 (m : Int) ∧ Hid (l * Lm.lv d ≤ Lm.lv r ∧ Lm.lv r < (m + 1) * Lm.lv d) ∧ Below w.heap.size w wr) (fun lo hi _ => (intOf hi).toNat - (intOf lo).toNat)
  case atStart => exact ⟨0, 4294967295, by omega, by omega, rfl, rfl, Lib.hid ⟨by omega, H.out⟩, Below.refl _ _⟩
  case round =>
    obtain ⟨l, m, hlm, hm, rfl, rfl, hrel, hbw⟩ := hrel
    have hr1 := hr.below hbw
    have hd1 := hd.below hbw
    by_cases hlt : l < m
    · obtain ⟨k, hk⟩ : ∃ k : Nat, k = (l + m + 1) / 2 := ⟨_, rfl⟩
      have hkv : ((l : Int) + (m : Int) + 1) / 2 = (k : Int) := by omega
      have hk1 : l < k := by omega
      have hk2 : k ≤ m := by omega
      clear hk
      by_cases hle : Lm.lv d * k ≤ Lm.lv r
      · have HLE := Lib.hid hle
        clear hle
        go_wp2_with (first | (go_at_call 81; refine (ref_times_any _ _ _ k _ _ hd1 (by omega) (by omega)).mono ?_; rintro e1 w1 ⟨A1, n1, c1, l1, rfl, hS1, ⟨hv1, hcn1, hl1⟩, hb1⟩; have HV := Lib.hid hv1; clear hv1; have hr2 := hr1.below hb1; have hn1 := hS1.len) | (go_at_call 79; refine (ref_cmp_any _ _ _ _ _ _ _ _ _ hS1 hr2 hcn1 cr (by omega) hn).mono ?_; rintro e2 w2 ⟨rfl, j, rfl⟩; have hcc : Lm.cmp l1 r ≤ 0 := cmp_le (by rw [HV.out]; exact HLE.out)))
        go_roundw
        case rel => exact ⟨k, m, hk2, hm, rfl, rfl, Lib.hid ⟨by rw [Nat.mul_comm]; exact HLE.out, hrel.out.2⟩, below_drewN (below_next hbw hb1) j⟩
        case measure => simp [intOf]; omega
      · have HLE := Lib.hid hle
        clear hle
        go_wp2_with (first | (go_at_call 81; refine (ref_times_any _ _ _ k _ _ hd1 (by omega) (by omega)).mono ?_; rintro e1 w1 ⟨A1, n1, c1, l1, rfl, hS1, ⟨hv1, hcn1, hl1⟩, hb1⟩; have HV := Lib.hid hv1; clear hv1; have hr2 := hr1.below hb1; have hn1 := hS1.len) | (go_at_call 79; refine (ref_cmp_any _ _ _ _ _ _ _ _ _ hS1 hr2 hcn1 cr (by omega) hn).mono ?_; rintro e2 w2 ⟨rfl, j, rfl⟩; have hcc : 0 < Lm.cmp l1 r := cmp_gt' (by rw [HV.out]; have := HLE.out; omega)))
        go_roundw
        case rel => exact ⟨l, k - 1, by omega, by omega, rfl, by go_num, Lib.hid ⟨hrel.out.1, by rw [show k - 1 + 1 = k by omega, Nat.mul_comm]; have := HLE.out; omega⟩, below_drewN (below_next hbw hb1) j⟩
        case measure => simp [intOf]; omega
    · obtain rfl : l = m := by omega
      go_wp2
      go_ret
      exact ⟨l, rfl, ⟨hm, hrel.out.1, hrel.out.2⟩, hbw⟩
end Go.Proofs.Ythddodhcpfponaa
