/-
  The references' whole numbers (polestarref01): limbs times limbs.
-/
import Derived.Test.YthddodhcpfponaaRefC
namespace Go.Proofs.Ythddodhcpfponaa
open Go.RowKit

set_option maxRecDepth 100000 in
set_option maxHeartbeats 1600000 in
theorem ref_mul_any (A A' : Option Addr) (n c n' c' : Nat) (a b : List Nat) (w : World) (ha : Sl w A n c a) (hb : Sl w A' n' c' b) (hn : n ≤ 1000000000) (hn' : n' ≤ 1000000000) :
    Calls Try.prog 84 #[.slice A n c, .slice A' n' c'] w (RetLimbs w fun l => Lm.lv l = Lm.lv a * Lm.lv b ∧ Lm.canon l ∧ l.length ≤ n + n') := by
  have la := ha.len
  have lb := hb.len
  obtain ⟨i0, hi, hz0, hz1, hz2⟩ := info_parts info_u32
  have HL : Hid (a.length = n ∧ b.length = n') := ⟨la, lb⟩
  clear la lb
  go_enter Try.func84, Try.ntmps84
  go_wp2_with (at_make; refine wpList_make_full _ rfl _ _ 30 rfl w.heap.size 84 i0 (.int .u32 0) 1 Try.underlying30 hi hz0 hz1 _ _ _ _ (n + n') rfl rfl (by omega) (by omega) ?c2 ?c3 ?c4 ?_)
  case c2 => rw [hz2]; omega
  case c3 => unfold maxLen; omega
  case c4 => exact Nat.le_refl _
  intro w1 hown1 hgrow1
  rw [made_u32] at hown1
  have hb1 : Below w.heap.size w w1 := (Below.refl _ _).grown hgrow1 (Nat.le_refl _) (fun k hk => by cases hk)
  have hs1 : w.heap.size < w1.heap.size := (hown1.lt _ rfl).2
  clear hgrow1
  go_wp2
  go_loopw [6] (fun i wr => ∃ (k : Nat) (out : List Nat), k ≤ n ∧ i = .int .i64 k ∧ Hid (out.length = n + n') ∧ wr.ownsRow w.heap.size 84 1 (.slice (some ⟨w.heap.size, 0, none⟩) (n + n') (n + n')) (n + n') (u32s out) ∧ Lm.ok out ∧
      Hid (Lm.lv (out.take (k + n')) = Lm.lv (a.take k) * Lm.lv b) ∧ Below w.heap.size w wr)
    (fun i _ => n - (intOf i).toNat)
  case atStart =>
    exact ⟨0, List.replicate (n + n') 0, Nat.zero_le _, rfl, (List.length_replicate : (List.replicate (n + n') 0).length = n + n'), hown1, Lm.ok_zeros _,
      (by rw [List.take_replicate, Lm.lv_zeros]; simp [Lm.lv] : Lm.lv ((List.replicate (n + n') 0).take (0 + n')) = Lm.lv (a.take 0) * Lm.lv b), hb1⟩
  case round =>
    obtain ⟨k, out, hk, rfl, hol, hown, hok, HE, hnx⟩ := hrel
    clear hown1 hb1 hs1
    have hsz := (hown.lt _ rfl).2
    by_cases h1 : k < n
    · obtain ⟨ad, rfl, hba, hla, hca0, hxa⟩ := ha.at_ h1
      clear hca0
      obtain ⟨wo, rfl⟩ : ∃ wo : World, wo = wr := ⟨_, rfl⟩
      go_wp2
      go_loopw [7, 8] (fun cr i wr => ∃ (j q : Nat) (out : List Nat), j ≤ n' ∧ q < 4294967296 ∧ i = .int .i64 j ∧ cr = .int .u64 q ∧ Hid (out.length = n + n') ∧ wr.ownsRow w.heap.size 84 1 (.slice (some ⟨w.heap.size, 0, none⟩) (n + n') (n + n')) (n + n') (u32s out) ∧ Lm.ok out ∧
          Hid (Lm.lv (out.take (k + n')) + Lm.B ^ (k + j) * q = Lm.lv (a.take k) * Lm.lv b + Lm.B ^ k * (a[k] * Lm.lv (b.take j))) ∧ Below w.heap.size w wr)
        (fun _ i _ => n' - (intOf i).toNat)
      case atStart =>
        exact ⟨0, 0, out, Nat.zero_le _, by omega, rfl, rfl, hol, hown, hok, (by rw [HE.out]; simp [Lm.lv] : Lm.lv (out.take (k + n')) + Lm.B ^ (k + 0) * 0 = Lm.lv (a.take k) * Lm.lv b + Lm.B ^ k * (a[k] * Lm.lv (b.take 0))), hnx⟩
      case round =>
        clear hown hnx HE hol hok hsz out
        obtain ⟨j, q, out, hj, hq, rfl, rfl, hol, hown, hok, HE, hnx⟩ := hrel
        have hsz := (hown.lt _ rfl).2
        by_cases h2 : j < n'
        · obtain ⟨ad1, e1, hba', _, hca, _⟩ := (ha.below hnx).at_ h1
          obtain rfl : ad = ad1 := by injection e1
          clear e1
          obtain ⟨ad', rfl, hbb, hlb, hcb, hxb⟩ := (hb.below hnx).at_ h2
          have hkj : k + j < out.length := by rw [hol.out]; omega
          have hco := own_at hown hkj
          have hxo := Lm.ok_get hok hkj
          have hmc := Lm.mul_carry hxa hxb hxo hq
          have hf := hown.frozenAt (k + j)
          have s1 : IntKind.i64.wrap ((k : Int) + j) = (k : Int) + j := IntWalk.i64_in _ (by omega)
          have s2 : ((k : Int) + j).toNat = k + j := by omega
          have s3 : IntKind.u64.wrap ((a[k] : Int) * b[j]) = (a[k] : Int) * b[j] := IntWalk.u64_in _ (by rw [← Int.natCast_mul]; omega)
          have s4 : IntKind.u64.wrap ((a[k] : Int) * b[j] + out[k + j]) = (a[k] : Int) * b[j] + out[k + j] := IntWalk.u64_in _ (by rw [← Int.natCast_mul]; omega)
          have s5 : IntKind.u64.wrap ((a[k] : Int) * b[j] + out[k + j] + q) = (a[k] : Int) * b[j] + out[k + j] + q := IntWalk.u64_in _ (by rw [← Int.natCast_mul]; omega)
          have s6 : (((a[k] : Int) * b[j] + out[k + j] + q) % 4294967296) = (((a[k] * b[j] + out[k + j] + q) % 4294967296 : Nat) : Int) := by rw [← Int.natCast_mul]; omega
          have s7 : (((a[k] : Int) * b[j] + out[k + j] + q) / 4294967296) = (((a[k] * b[j] + out[k + j] + q) / 4294967296 : Nat) : Int) := by rw [← Int.natCast_mul]; omega
          have S6 := Lib.hid s6
          have S7 := Lib.hid s7
          clear s6 s7
          go_wp2
          go_quiet (fail)
          clear s1 s2 s3 s4 s5
          have hp0 : 0 ≤ (a[k] : Int) * b[j] := by rw [← Int.natCast_mul]; omega
          have hp1 : (a[k] : Int) * b[j] + out[k + j] + q ≤ 18446744073709551615 := by rw [← Int.natCast_mul]; omega
          go_wp2
          go_roundw
          case rel =>
            refine ⟨j + 1, (a[k] * b[j] + out[k + j] + q) / 4294967296, out.set (k + j) ((a[k] * b[j] + out[k + j] + q) % 4294967296), by omega, by omega, by go_num, by rw [S7.out], (by rw [List.length_set]; exact hol.out : (out.set (k + j) ((a[k] * b[j] + out[k + j] + q) % 4294967296)).length = n + n'),
              own_store (w := wr.drewN _) hown _ S6.out, Lm.ok_set hok (Nat.mod_lt _ (by decide)), ?_, (below_drewN hnx _).setCell (p := ⟨w.heap.size, k + j, none⟩) (Nat.le_refl _) _⟩
            have h := Lm.mul_step (m := k + n') hkj (by omega) HE.out (x := a[k]) (y := b[j])
            show _ = _
            rw [h, Lm.take_in b hlb, Nat.mul_add, Nat.mul_add, Nat.add_assoc]
          case measure => simp [intOf]; omega
        · obtain rfl : j = n' := by omega
          have hm : k + j < out.length := by rw [hol.out]; omega
          have hf := hown.frozenAt (k + j)
          have hco := own_at hown hm
          go_wp2
          go_roundw
          case rel =>
            refine ⟨k + 1, out.set (k + j) q, by omega, by go_num, (by rw [List.length_set]; exact hol.out : (out.set (k + j) q).length = n + j),
              own_store hown _ rfl, Lm.ok_set hok hq, ?_, hnx.setCell (p := ⟨w.heap.size, k + j, none⟩) (Nat.le_refl _) _⟩
            have h := Lm.mul_last hm HE.out
            show _ = _
            rw [show k + 1 + j = k + j + 1 by omega, h, Lm.take_in a hla, Nat.add_mul, Lm.lv_take_ge b j (by rw [HL.out.2]; omega), Nat.mul_assoc]
          case measure => simp [intOf]; omega
    · obtain rfl : k = n := by omega
      have hS : Sl wr (some ⟨w.heap.size, 0, none⟩) (k + n') (k + n') out := Sl.of_own hown (Nat.le_refl _) hok
      have htl := trim_len out
      have E : Hid (Lm.lv out = Lm.lv a * Lm.lv b) := by
        have h := HE.out
        rw [Lm.lv_take_ge out (k + n') (by rw [hol.out]; omega), Lm.lv_take_ge a k (by rw [HL.out.1]; omega)] at h
        exact h
      go_wp2_with (go_at_call 104; refine (ref_trim_any _ _ _ _ _ hS (by omega)).mono ?_; rintro e w' ⟨rfl, rfl⟩)
      go_ret
      exact ⟨_, _, _, Lm.trim out, rfl, hS.trim, ⟨by rw [Lm.trim_lv]; exact E.out, Lm.trim_canon _, by have := hol.out; omega⟩, hnx⟩
end Go.Proofs.Ythddodhcpfponaa
