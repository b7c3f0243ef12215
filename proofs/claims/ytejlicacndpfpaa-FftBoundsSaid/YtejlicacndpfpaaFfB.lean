/-
  Forward and back, rows that may and that may not (fft.Forward, fft.Back).
-/
import Derived.Test.YtejlicacndpfpaaFfW
import Derived.Test.YtejlicacndpfpaaFfS
namespace Go.Proofs.Ytejlicacndpfpaa
open Go.RowKit

theorem size_pow : ∀ n : Nat, n ≤ 12 → ffSize (2 ^ n) = ((n : Int), 0) := by decide
def RetFw (W : World) (N : Nat) (zs : List (Nat × Nat)) (e : Ending) (w' : World) : Prop :=
  ∃ g out, e = .returned (.tuple #[.slice (some ⟨g, 0, none⟩) N N, .int .i64 0]) ∧ w'.ownsRow W.heap.size 111 1 (.slice (some ⟨g, 0, none⟩) N N) N (cxs out) ∧ out.length = N ∧ Below W.heap.size W w' ∧ Two2 zs True out
set_option maxRecDepth 100000 in
set_option maxHeartbeats 1600000 in
theorem forward_ok (A : Option Addr) (c n : Nat) (zs : List (Nat × Nat)) (w : World) (h : Reads w w.heap.size A (2 ^ n) (cxs zs)) (hz : Cok zs) (hc : 2 ^ n ≤ c) (hn : n ≤ 12) :
    Calls Try.prog 33 #[.slice A (2 ^ n) c] w (RetFw w (2 ^ n) zs) := by
  have hN1 : 2 ^ n ≤ 4096 := Nat.le_trans (Nat.pow_le_pow_right (by decide) hn) (by decide)
  have HS := Lib.hid (size_pow n hn)
  have HT := Lib.hid (fun way => transform_any A c n way zs w h hz hc hn)
  obtain ⟨N, hN⟩ : ∃ N, 2 ^ n = N := ⟨_, rfl⟩
  rw [hN] at HS HT hN1 ⊢
  clear hN h hz hc
  go_enter Try.func33, Try.ntmps33
  go_wp2_with fail
  refine (fft_size_any N _ (by omega)).mono ?_
  rintro e1 w1 ⟨rfl, rfl⟩
  rw [HS.out]
  go_wp2_with fail
  refine (HT.out _).mono ?_
  rintro e2 w2 ⟨g, out, rfl, hown, hl, hb, hk⟩
  have HK := Lib.hid hk
  clear hk
  go_wp2_with fail
  go_ret2
  exact ⟨g, out, rfl, hown, hl, hb, HK.out⟩
set_option maxRecDepth 100000 in
set_option maxHeartbeats 1600000 in
theorem forward_no (A : Option Addr) (N c : Nat) (e : Int) (w : World) (hN : N ≤ 1048576) (he : Hid (ffSize N = (0, e))) (h0 : e ≠ 0) :
    Calls Try.prog 33 #[.slice A N c] w (fun x w' => x = .returned (.tuple #[.slice none 0 0, .int .i64 e]) ∧ w = w') := by
  go_enter Try.func33, Try.ntmps33
  go_wp2_with fail
  refine (fft_size_any N _ hN).mono ?_
  rintro e1 w1 ⟨rfl, rfl⟩
  rw [he.out]
  go_wp2_with fail
  go_ret2
  exact ⟨rfl, rfl⟩
set_option maxRecDepth 100000 in
set_option maxHeartbeats 1600000 in
theorem back_no (A : Option Addr) (N c : Nat) (e : Int) (w : World) (hN : N ≤ 1048576) (he : Hid (ffSize N = (0, e))) (h0 : e ≠ 0) :
    Calls Try.prog 34 #[.slice A N c] w (fun x w' => x = .returned (.tuple #[.slice none 0 0, .int .i64 e]) ∧ w = w') := by
  go_enter Try.func34, Try.ntmps34
  go_wp2_with fail
  refine (fft_size_any N _ hN).mono ?_
  rintro e1 w1 ⟨rfl, rfl⟩
  rw [he.out]
  go_wp2_with fail
  go_ret2
  exact ⟨rfl, rfl⟩
theorem back_meas {k N : Nat} (h : k < N) : N - (intOf (.int .i64 ((k : Int) + 1))).toNat < N - (intOf (.int .i64 (k : Int))).toNat := by
  simp [intOf]
  omega
def RetBk (W : World) (N : Nat) (e : Ending) (w' : World) : Prop := ∃ g, e = .returned (.tuple #[.slice (some ⟨g, 0, none⟩) N N, .int .i64 0]) ∧ Below W.heap.size W w'
set_option maxRecDepth 100000 in
set_option maxHeartbeats 1600000 in
theorem back_ok (A : Option Addr) (c n : Nat) (zs : List (Nat × Nat)) (w : World) (h : Reads w w.heap.size A (2 ^ n) (cxs zs)) (hz : Cok zs) (hc : 2 ^ n ≤ c) (hn : n ≤ 12) :
    Calls Try.prog 34 #[.slice A (2 ^ n) c] w (RetBk w (2 ^ n)) := by
  have hN1 : 2 ^ n ≤ 4096 := Nat.le_trans (Nat.pow_le_pow_right (by decide) hn) (by decide)
  have HS := Lib.hid (size_pow n hn)
  have HT := Lib.hid (fun way => transform_any A c n way zs w h hz hc hn)
  obtain ⟨N, hN⟩ : ∃ N, 2 ^ n = N := ⟨_, rfl⟩
  rw [hN] at HS HT hN1 ⊢
  clear hN h hz hc
  go_enter Try.func34, Try.ntmps34
  go_wp2_with fail
  refine (fft_size_any N _ (by omega)).mono ?_
  rintro e1 w1 ⟨rfl, rfl⟩
  rw [HS.out]
  go_wp2_with fail
  refine (HT.out _).mono ?_
  rintro e2 w2 ⟨g, out, rfl, hown, hl, hb, hk⟩
  clear hk HT
  have HL := Lib.hid hl
  clear hl
  go_wp2_with fail
  go_loopw [27] (fun i wr => ∃ (k : Nat) (zs : List (Nat × Nat)), k ≤ N ∧ i = .int .i64 (k : Int) ∧ Hid (zs.length = N) ∧ wr.ownsRow w.heap.size 111 1 (.slice (some ⟨g, 0, none⟩) N N) N (cxs zs) ∧ Below w.heap.size w wr)
    (fun i _ => N - (intOf i).toNat)
  case atStart => exact ⟨0, out, Nat.zero_le _, rfl, HL, hown, hb⟩
  case round =>
    clear hown hb
    obtain ⟨k, zs, hk, rfl, HLZ, hown, hb⟩ := hrel
    by_cases hkN : k < N
    · have k1 : (k : Int) < (N : Int) := by omega
      have k0 : (0 : Int) ≤ (k : Int) := by omega
      have hG := (hown.lt _ rfl).2
      have hGb := (hown.lt _ rfl).1
      have p1 : k < zs.length := by rw [HLZ.out]; exact hkN
      have ca := cx_at hown p1
      have fa := hown.frozenAt k
      obtain ⟨⟨a1, a2⟩, hza⟩ : ∃ z, zs[k] = z := ⟨_, rfl⟩
      rw [hza] at ca
      have HK := Lib.hid hkN
      clear hza p1 hkN
      go_wp2_with (refine wpList_fquo _ rfl rfl ?_; intro x k9 h9; with_reducible have H9 := Lib.hid h9; clear h9)
      rename_i x0 k8 H8
      have hst := ((own_kept (own_kept hown (below_drewN (Below.refl _ _) k8)) (below_drewN (Below.refl _ _) k9)).stored k (.complex .f64 x0 x)).1
      rw [cxs_set] at hst
      go_roundw
      case rel => exact ⟨k + 1, _, HK.out, rfl, Lib.hid (by rw [List.length_set]; exact HLZ.out), hst, (below_drewN hb _).setCell (p := ⟨g, k, none⟩) hGb _⟩
      case measure => exact back_meas HK.out
    · obtain rfl : k = N := by omega
      have hnl : ¬ (k : Int) < (k : Int) := by omega
      go_wp2_with fail
      go_ret2
      exact ⟨g, rfl, hb⟩
end Go.Proofs.Ytejlicacndpfpaa
