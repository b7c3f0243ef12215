/-
  The references' whole numbers (polestarref01): bits; halved so many times.
-/
import Derived.Test.YthddodhcpfponaaRefL
namespace Go.Proofs.Ythddodhcpfponaa
open Go.RowKit

theorem bitLen_half (t : Nat) (h : 0 < t) : bitLen t = bitLen (t / 2) + 1 := by
  by_cases h1 : t / 2 = 0
  · have : t = 1 := by omega
    subst this; rfl
  · have := bitLen_shift t 1 (by simpa using h1)
    rw [Nat.pow_one] at this
    omega
theorem bitLen_top {l : List Nat} (hok : Lm.ok l) (hc : Lm.canon l) (h : 0 < l.length) : bitLen (Lm.lv l) = 32 * (l.length - 1) + bitLen l[l.length - 1] := by
  have hs := Lm.lv_split l (l.length - 1) (by omega)
  have hd : l.drop (l.length - 1 + 1) = [] := List.drop_of_length_le (by omega)
  rw [hd] at hs
  have e : Lm.B ^ (l.length - 1) = 2 ^ (32 * (l.length - 1)) := by rw [Nat.pow_mul]
  have hz : Lm.lv ([] : List Nat) = 0 := rfl
  rw [hz, Nat.mul_zero, Nat.add_zero] at hs
  have hlt : Lm.lv (l.take (l.length - 1)) < 2 ^ (32 * (l.length - 1)) := by
    have := Lm.lv_lt (Lm.ok_take hok (l.length - 1))
    rw [List.length_take, Nat.min_eq_left (by omega), e] at this
    exact this
  have hdiv : Lm.lv l / 2 ^ (32 * (l.length - 1)) = l[l.length - 1] := by
    rw [hs, e, Nat.add_mul_div_left _ _ (Nat.two_pow_pos _), Nat.div_eq_of_lt hlt, Nat.zero_add]
  have := bitLen_shift (Lm.lv l) (32 * (l.length - 1)) (by rw [hdiv]; exact (canon_last h).1 hc)
  rw [hdiv] at this
  exact this

theorem Sl.cut {w : World} {n c : Nat} {A : Option Addr} {l : List Nat} (h : Sl w A n c l) {k : Nat} (hk : k ≤ n) : Sl w (if c = k then A else A.map (·.add k)) (n - k) (c - k) (l.drop k) :=
  ⟨by have := h.1.cut (cap := c) hk h.cap; unfold u32s at this ⊢; rwa [List.map_drop], by have := h.cap; omega, Lm.ok_drop h.ok k⟩

set_option maxRecDepth 100000 in
set_option maxHeartbeats 800000 in
theorem ref_bits_any (neg : Bool) (A : Option Addr) (n c : Nat) (x : Int) (w : World) (hx : IsInt w neg A n c x) (hn : n ≤ 100000000) :
    Calls Try.prog 86 #[.agg #[.bool neg, .slice A n c]] w (RetV w (.int .i64 (bitLen x.natAbs : Nat))) := by
  have hz := isInt_zero hx
  obtain ⟨l, hl, cl, _, hxe⟩ := hx
  have habs : x.natAbs = Lm.lv l := by rw [hxe]; unfold sgnd; split <;> omega
  rw [habs]
  clear hxe habs
  have HL := Lib.hid hl.len
  by_cases h0 : n = 0
  · subst h0
    have E : Hid (bitLen (Lm.lv l) = 0) := by have : l = [] := List.eq_nil_of_length_eq_zero HL.out; rw [this]; exact rfl
    clear hz
    go_enter Try.func86, Try.ntmps86
    go_wp2
    go_ret
    exact ⟨by rw [E.out]; rfl, (Below.refl _ _).alloc (Nat.le_refl _) _⟩
  · clear hz
    obtain ⟨ad, rfl, hb, hlt, hc, hxl⟩ := (hl.alloc (.cells #[.bool neg, .slice A n c] 32)).at_ (k := n - 1) (by omega)
    have hn1 : 1 ≤ n := by omega
    have hne : ((n : Int) == 0) = false := by rw [beq_eq_false_iff_ne]; omega
    clear h0
    have hT : Hid (bitLen (Lm.lv l) = 32 * (n - 1) + bitLen l[n - 1]) := by
      have := bitLen_top hl.ok cl (by rw [HL.out]; omega)
      have e : l.length - 1 = n - 1 := by rw [HL.out]
      simp only [e] at this
      exact this
    have hbl : bitLen l[n - 1] ≤ 32 := by
      unfold bitLen
      split
      · omega
      · rename_i hh
        have := (Nat.log2_lt hh).2 (show l[n - 1] < 2 ^ 32 from hxl)
        omega
    go_enter Try.func86, Try.ntmps86
    go_wp2
    go_loop [3, 4] (fun m t => ∃ p q : Nat, q < 4294967296 ∧ t = .int .u32 q ∧ m = .int .i64 p ∧ p ≤ 3200000064 ∧ Hid (p + bitLen q = 32 * (n - 1) + bitLen l[n - 1])) (fun _ t => (intOf t).toNat)
    case atStart => exact ⟨32 * (n - 1), l[n - 1], hxl, rfl, by go_num, by omega, rfl⟩
    case round =>
      obtain ⟨p, q, hq, rfl, rfl, hp, hE⟩ := hrel
      by_cases hq0 : q = 0
      · subst hq0
        have hpe : Hid (p = bitLen (Lm.lv l)) := by have h1 := hE.out; have h2 := hT.out; have : bitLen 0 = 0 := rfl; show p = _; omega
        go_wp2
        go_ret
        exact ⟨by rw [← hpe.out]; rfl, (Below.refl _ _).alloc (Nat.le_refl _) _⟩
      · have hq1 : 0 < q := by omega
        have hb2 := bitLen_half q hq1
        have hpb : p ≤ 3200000032 := by have := hE.out; omega
        have HB := Lib.hid hb2
        clear hb2 hq0
        go_wp2
        go_round
        case rel => exact ⟨p + 1, q / 2, by omega, by go_num, by go_num, by omega, (by have h1 := hE.out; have h2 := HB.out; omega : p + 1 + bitLen (q / 2) = 32 * (n - 1) + bitLen l[n - 1])⟩
        case measure => simp [intOf]; omega

theorem halved_zero {l : List Nat} {s : Nat} (hok : Lm.ok l) (h : 32 * l.length ≤ s) : Lm.lv l / 2 ^ s = 0 := by
  apply Nat.div_eq_of_lt
  have h1 := Lm.lv_lt hok
  have e : Lm.B ^ l.length = 2 ^ (32 * l.length) := by rw [Nat.pow_mul]
  rw [e] at h1
  exact Nat.lt_of_lt_of_le h1 (Nat.pow_le_pow_right (by decide) h)
theorem halved_lv {l q : List Nat} {s r : Nat} (hok : Lm.ok l) (h : s / 32 ≤ l.length) (hq : Lm.lv (l.drop (s / 32)) = pw (s % 32) * Lm.lv q + r) (hr : r < pw (s % 32)) : Lm.lv q = Lm.lv l / 2 ^ s := by
  have h1 := Lm.lv_take_drop l (s / 32) h
  have e : Lm.B ^ (s / 32) = 2 ^ (32 * (s / 32)) := by rw [Nat.pow_mul]
  have hlt : Lm.lv (l.take (s / 32)) < 2 ^ (32 * (s / 32)) := by
    have := Lm.lv_lt (Lm.ok_take hok (s / 32))
    rw [List.length_take, Nat.min_eq_left h, e] at this
    exact this
  have hs : 2 ^ s = 2 ^ (32 * (s / 32)) * 2 ^ (s % 32) := by rw [← Nat.pow_add]; congr 1; omega
  rw [hs, ← Nat.div_div_eq_div_mul, h1, e, Nat.add_mul_div_left _ _ (Nat.two_pow_pos _), Nat.div_eq_of_lt hlt, Nat.zero_add, hq]
  unfold pw at hr ⊢
  rw [Nat.mul_comm, Nat.add_comm, Nat.add_mul_div_right _ _ (Nat.two_pow_pos _), Nat.div_eq_of_lt hr, Nat.zero_add]

set_option maxRecDepth 100000 in
set_option maxHeartbeats 1200000 in
/-- Of a number from 0 on. -/
theorem ref_halved_any (A : Option Addr) (n c s : Nat) (x : Int) (w : World) (hx : IsInt w false A n c x) (hn : n ≤ 10000000) (hs : s ≤ 1000000000) :
    Calls Try.prog 109 #[.agg #[.bool false, .slice A n c], .int .i64 s] w (RetInt w ((x.natAbs / 2 ^ s : Nat) : Int)) := by
  obtain ⟨l, hl, cl, _, hxe⟩ := hx
  have habs : x.natAbs = Lm.lv l := by rw [hxe]; unfold sgnd; simp
  rw [habs]
  clear hxe habs
  obtain ⟨y, hy⟩ : ∃ y, y = Lm.lv l / 2 ^ s := ⟨_, rfl⟩
  rw [← hy]
  have HY := Lib.hid hy
  clear hy
  have HL := Lib.hid hl.len
  by_cases hbig : 32 * n ≤ s
  · have E : Hid (y = 0) := by rw [HY.out]; exact halved_zero hl.ok (by rw [HL.out]; exact hbig)
    go_enter Try.func109, Try.ntmps109
    go_wp2
    exact bodyPost_ret (v := .agg #[.bool false, .slice none 0 0]) (by simp [results, Try.results109, go_sem]) rfl
      ⟨false, none, 0, 0, rfl, by rw [E.out]; exact isInt_nought, ((Below.refl _ _).alloc (Nat.le_refl _) _).alloc (by simp) _⟩
  · have hk : s / 32 ≤ n := by omega
    have hcap := hl.cap
    obtain ⟨ad, rfl, hb0, _⟩ := hl.at_ (k := 0) (by omega)
    have hl2 := (hl.alloc (.cells #[.bool false, .slice (some ad) n c] 32)).alloc (.cells #[.bool false, .slice none 0 0] 32)
    have hcut : Sl ((w.alloc (.cells #[.bool false, .slice (some ad) n c] 32)).alloc (.cells #[.bool false, .slice none 0 0] 32)) (some (ad.add (s / 32))) (n - s / 32) (c - s / 32) (l.drop (s / 32)) := by
      have := hl2.cut hk
      rwa [if_neg (by omega)] at this
    go_enter Try.func109, Try.ntmps109
    go_wp2
    go_loop [6, 7] (fun lost i => ∃ (b : Bool) (k : Nat), k ≤ s / 32 ∧ lost = .bool b ∧ i = .int .i64 k) (fun _ i => s / 32 - (intOf i).toNat)
    case atStart => exact ⟨false, 0, Nat.zero_le _, rfl, rfl⟩
    case round =>
      obtain ⟨b, k, hks, rfl, rfl⟩ := hrel
      by_cases hlt : k < s / 32
      · obtain ⟨ad1, e1, hbk, hlk, hck, hxk⟩ := hl2.at_ (k := k) (by omega)
        obtain rfl : ad = ad1 := by injection e1
        clear e1
        cases b
        · go_wp2
          go_round
          case rel => exact ⟨_, k + 1, by omega, rfl, by go_num⟩
          case measure => simp [intOf]; omega
        · go_wp2
          go_round
          case rel => exact ⟨_, k + 1, by omega, rfl, by go_num⟩
          case measure => simp [intOf]; omega
      · obtain rfl : k = s / 32 := by omega
        go_wp2
        go_loop [8, 9] (fun f i => ∃ k : Nat, k ≤ s % 32 ∧ i = .int .i64 k ∧ f = .int .u32 (pw k : Nat)) (fun _ i => s % 32 - (intOf i).toNat)
        case atStart => exact ⟨0, Nat.zero_le _, rfl, rfl⟩
        case round =>
          obtain ⟨k, hk, rfl, rfl⟩ := hrel
          have hp1 := pw_lt k (by omega)
          by_cases hlt : k < s % 32
          · have hp2 := pw_lt (k + 1) (by omega)
            have hp3 : 2 * pw k ≤ 4294967295 := by rw [← pw_succ]; omega
            have hpe := Lib.hid (pw_succ k)
            go_wp2
            go_round
            case rel => exact ⟨k + 1, by omega, by go_num, by rw [hpe.out]; go_num⟩
            case measure => simp [intOf]; omega
          · obtain rfl : k = s % 32 := by omega
            have hpp : 0 < pw (s % 32) := Nat.two_pow_pos _
            go_wp2_with (go_at_call 108; refine (ref_short_any _ _ _ _ _ _ (by exact hcut) (by omega) hpp hp1).mono ?_; rintro e w1 ⟨A1, n1, c1, q, r, rfl, hS1, ⟨hq, hr, hcq, hlq⟩, hb1⟩; obtain ⟨hc1, hf1⟩ := bcell hb1; have k1 := hc1 w.heap.size 0 (by simp <;> omega); have r1 := hc1 (w.heap.size + 1) 0 (by simp <;> omega); have r2 := hc1 (w.heap.size + 1) 1 (by simp <;> omega); have r3 := hf1 (w.heap.size + 1) 0 (by simp <;> omega); have r4 := hf1 (w.heap.size + 1) 1 (by simp <;> omega); have hz1 : w.heap.size + 1 < w1.heap.size := (by have := hb1.size; simp at this; omega); have hn1 := hS1.len; have HQ := Lib.hid hq; clear hq)
            refine (ref_signed_any _ _ _ _ _ _ hS1 (by omega)).mono ?_
            rintro e w2 ⟨neg2, A2, n2, c2, rfl, hI2, hb2⟩
            obtain ⟨hc2, hf2⟩ := bcell hb2
            have r5 := hc2 (w.heap.size + 1) 0 (by omega)
            have r6 := hc2 (w.heap.size + 1) 1 (by omega)
            have r7 := hf2 (w.heap.size + 1) 0 (by omega)
            have r8 := hf2 (w.heap.size + 1) 1 (by omega)
            have hv : sgnd false (Lm.lv q) = (y : Int) := by rw [halved_lv hl.ok (by rw [HL.out]; exact (by omega : s / 32 ≤ n)) HQ.out hr, ← HY.out]; rfl
            rw [hv] at hI2
            go_wp2_with fail
            exact bodyPost_ret (v := .agg #[.bool neg2, .slice A2 n2 c2]) (by simp [results, Try.results109, go_sem, r5, r6, r1, r2]) rfl
              ⟨neg2, A2, n2, c2, rfl, isInt_result (b0 := false) (a0 := none) (n0 := 0) (c0 := 0) hI2 (r5.trans (r1.trans (by simp [go_sem]))) (r6.trans (r2.trans (by simp [go_sem]))) _ _,
                below_result (below_next (below_box (below_box hb1)) hb2) (by omega) _ _⟩
end Go.Proofs.Ythddodhcpfponaa
