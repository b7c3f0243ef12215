/-
  May all of these fractions be? (polestarref02.Checks)
-/
import Derived.Test.YtgafjnfplgfajaaGreatMaP
namespace Go.Proofs.YtgafjnfplgfajaaGreat
open Go.RowKit

set_option maxRecDepth 100000 in
set_option maxHeartbeats 3200000 in
theorem ref2_checks_any (g N c : Nat) (F : Nat → LmE) (w : World) (hL : Lfs w g N F) (hN : N ≤ 1000) (hc : N ≤ c) :
    Calls Tryz.prog 61 #[.slice (some ⟨g, 0, none⟩) N c] w (RetV w (.bool (okAll F N))) := by
  have hg := hL.1
  go_enter Tryz.func61, Tryz.ntmps61
  go_wp2_with fail
  go_loopw [3] (fun i wr => ∃ k : Nat, k ≤ N ∧ i = .int .i64 (k : Int) ∧ Hid (okAll F k = true) ∧ Below w.heap.size w wr) (fun i _ => N - (intOf i).toNat)
  case atStart => exact ⟨0, Nat.zero_le _, rfl, Lib.hid rfl, Below.refl _ _⟩
  case round =>
    obtain ⟨k, hk, rfl, HK, hb⟩ := hrel
    have hsz := hb.size
    by_cases hlt : k < N
    · obtain ⟨hg1, hall⟩ := hL.next hb
      obtain ⟨⟨a0, a1, a2, a3⟩, hS, hS', hn, hn'⟩ := hall k hlt
      have HCk := Lib.hid (okB_chk (F k))
      have HOK : Hid (okAll F (k + 1) = (okAll F k && okB (F k))) := Lib.hid rfl
      have HNO : Hid (okB (F k) = false → okAll F N = false) := Lib.hid (okAll_no hlt)
      obtain ⟨f, hf⟩ : ∃ f, F k = f := ⟨_, rfl⟩
      rw [hf] at a0 a1 a2 a3 hS hS' hn hn' HCk HOK HNO
      obtain ⟨⟨neg, A, n, c1, l⟩, neg', A', n', c1', l'⟩ := f
      simp only at a0 a1 a2 a3 hS hS' hn hn' HCk
      have hlt' : (k : Int) < (N : Int) := by omega
      have hk0 : (0 : Int) ≤ (k : Int) := Int.natCast_nonneg _
      clear hall hf
      go_wp2_with fail
      refine (ref2_check neg neg' A A' n c1 n' c1' l l' _ hS hS' hn hn').mono ?_
      rintro e1 w1 ⟨rfl, hb1⟩
      obtain ⟨b, hob⟩ : ∃ b, okB ((neg, A, n, c1, l), (neg', A', n', c1', l')) = b := ⟨_, rfl⟩
      rw [hob] at HCk HOK HNO
      rw [HCk.out]
      clear hob
      cases b with
      | false =>
        have HF : Hid (okAll F N = false) := Lib.hid (HNO.out rfl)
        go_wp2_with fail
        go_ret
        exact ⟨by rw [HF.out]; rfl, below_next hb hb1⟩
      | true =>
        go_wp2_with fail
        refine ⟨⟨k + 1, hlt, congrArg (Value.int .i64) (by omega), Lib.hid (by rw [HOK.out, HK.out]; rfl), below_next hb hb1⟩, ?_⟩
        simp [intOf]
        omega
    · obtain rfl : k = N := by omega
      have hnl : ¬ (k : Int) < (k : Int) := by omega
      go_wp2_with fail
      go_ret
      exact ⟨by rw [HK.out]; rfl, hb⟩
end Go.Proofs.YtgafjnfplgfajaaGreat
