/-
  The references' whole numbers (polestarref01): limbs by one limb; times one limb.
-/
import Derived.Test.YthddodhcpfponaaRefD
namespace Go.Proofs.Ythddodhcpfponaa
open Go.RowKit

def RetShort (W : World) (P : List Nat → Nat → Prop) (e : Ending) (w' : World) : Prop :=
  ∃ A n c l r, e = .returned (.tuple #[.slice A n c, .int .u32 (r : Nat)]) ∧ Sl w' A n c l ∧ P l r ∧ Below W.heap.size W w'

set_option maxRecDepth 100000 in
set_option maxHeartbeats 1600000 in
theorem ref_short_any (A : Option Addr) (n c d : Nat) (a : List Nat) (w : World) (ha : Sl w A n c a) (hn : n ≤ 1000000000) (hd : 0 < d) (hdB : d < 4294967296) :
    Calls Try.prog 108 #[.slice A n c, .int .u32 d] w (RetShort w fun l r => Lm.lv a = d * Lm.lv l + r ∧ r < d ∧ Lm.canon l ∧ l.length ≤ n) := by
  have la := ha.len
  obtain ⟨i0, hi, hz0, hz1, hz2⟩ := info_parts info_u32
  have HL : Hid (a.length = n) := la
  clear la
  have hd1 : (1 : Int) ≤ (d : Int) := by omega
  go_enter Try.func108, Try.ntmps108
  go_wp2_with (at_make; refine wpList_make_full _ rfl _ _ 30 rfl w.heap.size 84 i0 (.int .u32 0) 1 Try.underlying30 hi hz0 hz1 _ _ _ _ n rfl rfl (by omega) (by omega) ?c2 ?c3 ?c4 ?_)
  case c2 => rw [hz2]; omega
  case c3 => unfold maxLen; omega
  case c4 => exact Nat.le_refl _
  intro w1 hown1 hgrow1
  rw [made_u32] at hown1
  have hb1 : Below w.heap.size w w1 := (Below.refl _ _).grown hgrow1 (Nat.le_refl _) (fun k hk => by cases hk)
  clear hgrow1
  go_wp2
  go_loopw [7, 8] (fun rest i wr => ∃ (k r : Nat) (out : List Nat), k ≤ n ∧ r < d ∧ i = .int .i64 ((k : Int) - 1) ∧ rest = .int .u64 r ∧ Hid (out.length = n) ∧ wr.ownsRow w.heap.size 84 1 (.slice (some ⟨w.heap.size, 0, none⟩) n n) n (u32s out) ∧ Lm.ok out ∧
      Hid (Lm.lv (a.drop k) = d * Lm.lv (out.drop k) + r) ∧ Below w.heap.size w wr)
    (fun _ i _ => (intOf i + 1).toNat)
  case atStart =>
    exact ⟨n, 0, List.replicate n 0, Nat.le_refl _, hd, rfl, rfl, (List.length_replicate : (List.replicate n 0).length = n), hown1, Lm.ok_zeros _,
      (by rw [List.drop_of_length_le (by rw [HL.out]; exact Nat.le_refl _), List.drop_of_length_le (by simp)]; simp [Lm.lv] : Lm.lv (a.drop n) = d * Lm.lv ((List.replicate n 0).drop n) + 0), hb1⟩
  case round =>
    obtain ⟨k, r, out, hk, hr, rfl, rfl, hol, hown, hok, HE, hnx⟩ := hrel
    clear hown1 hb1
    have hsz := (hown.lt _ rfl).2
    by_cases h0 : k = 0
    · subst h0
      have hS : Sl wr (some ⟨w.heap.size, 0, none⟩) n n out := Sl.of_own hown (Nat.le_refl _) hok
      have htl := trim_len out
      go_wp2_with (go_at_call 104; refine (ref_trim_any _ _ _ _ _ hS (by omega)).mono ?_; rintro e w' ⟨rfl, rfl⟩)
      go_ret2
      exact ⟨_, _, _, Lm.trim out, r, rfl, hS.trim, ⟨by rw [Lm.trim_lv]; exact HE.out, hr, Lm.trim_canon _, by have := hol.out; omega⟩, hnx⟩
    · obtain ⟨ad, rfl, hba, hla, hca, hxa⟩ := (ha.below hnx).at_ (k := k - 1) (by omega)
      have hko : k - 1 < out.length := by rw [hol.out]; omega
      have hf := hown.frozenAt (k - 1)
      have hco := own_at hown hko
      have hk1 : 1 ≤ k := by omega
      have hq := Lm.short_lt hd hr hxa
      have e1 : ((r : Int) * 4294967296 + a[k - 1]) / (d : Int) = (((r * 4294967296 + a[k - 1]) / d : Nat) : Int) := by rw [Int.natCast_ediv]; rfl
      have e2 : ((r : Int) * 4294967296 + a[k - 1]) % (d : Int) = (((r * 4294967296 + a[k - 1]) % d : Nat) : Int) := by rw [Int.natCast_emod]; rfl
      have q0 : 0 ≤ ((r : Int) * 4294967296 + a[k - 1]) / (d : Int) := by rw [e1]; exact Int.natCast_nonneg _
      have q1 : ((r : Int) * 4294967296 + a[k - 1]) / (d : Int) ≤ 4294967295 := by rw [e1]; exact Int.ofNat_le.2 (Nat.le_of_lt_succ hq)
      have E1 := Lib.hid e1
      have E2 := Lib.hid e2
      clear e1 e2 h0
      go_wp2
      go_roundw
      case rel =>
        have hm := Nat.mod_lt (r * 4294967296 + a[k - 1]) hd
        refine ⟨k - 1, (r * 4294967296 + a[k - 1]) % d, out.set (k - 1) ((r * 4294967296 + a[k - 1]) / d), by omega, hm, by go_num, by rw [E2.out], (by rw [List.length_set]; exact hol.out : (out.set (k - 1) ((r * 4294967296 + a[k - 1]) / d)).length = n),
          own_store hown _ E1.out, Lm.ok_set hok hq, ?_, hnx.setCell (p := ⟨w.heap.size, k - 1, none⟩) (Nat.le_refl _) _⟩
        have h := HE.out
        have ek : k = k - 1 + 1 := by omega
        have h' : Lm.lv (a.drop (k - 1 + 1)) = d * Lm.lv (out.drop (k - 1 + 1)) + r := by rw [← ek]; exact h
        exact Lm.short_step hla hko h'
      case measure => simp [intOf]; omega

set_option maxHeartbeats 400000 in
theorem ref_times_any (A : Option Addr) (n c d : Nat) (a : List Nat) (w : World) (ha : Sl w A n c a) (hn : n ≤ 1000000000) (hdB : d < 4294967296) :
    Calls Try.prog 81 #[.slice A n c, .int .u32 d] w (RetLimbs w fun l => Lm.lv l = Lm.lv a * d ∧ Lm.canon l ∧ l.length ≤ n + 1) := by
  go_enter Try.func81, Try.ntmps81
  have htl := trim_len [d]
  have hl1 : ([d] : List Nat).length = 1 := rfl
  have ht := (sl_new1 w 84 d hdB).trim
  go_wp2_with (go_at_call 104; refine (ref_trim_any _ _ _ _ _ (sl_new1 _ _ _ hdB) (by omega)).mono ?_; rintro e w' ⟨rfl, rfl⟩)
  refine (ref_mul_any _ _ _ _ _ _ _ _ _ (ha.alloc _) ht hn (by omega)).mono ?_
  rintro e w' ⟨A1, n1, c1, l, rfl, hS, ⟨hv, hc, hln⟩, hb⟩
  have hv' : Lm.lv l = Lm.lv a * d := by rw [hv, Lm.trim_lv, Lm.lv_one]
  have HV := Lib.hid hv'
  clear hv hv'
  go_wp2_with fail
  go_ret
  exact ⟨A1, n1, c1, l, rfl, hS, ⟨HV.out, hc, by omega⟩, below_box hb⟩
end Go.Proofs.Ythddodhcpfponaa
