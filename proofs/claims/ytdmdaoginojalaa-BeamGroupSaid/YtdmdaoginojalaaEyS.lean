/-
  bits.Sub32.
  The program's whole numbers (package exact): limbs less limbs (sub).
-/
import Derived.Test.YtdmdaoginojalaaExB
import Derived.Laws.BitsLemmas
import Derived.Test.YtdmdaoginojalaaEyA
namespace Go.Proofs.Ytdmdaoginojalaa
open Go.RowKit

theorem bits_and32 (a b : Nat) (ha : a < 4294967296) (hb : b < 4294967296) : bits .and .u32 (a : Int) (b : Int) = ((a &&& b : Nat) : Int) :=
  (bits_nat .u32 32 (by decide) (fun n h0 h1 => IntWalk.u32_in _ (by omega)) a b ha hb).1
theorem bits_or32 (a b : Nat) (ha : a < 4294967296) (hb : b < 4294967296) : bits .or .u32 (a : Int) (b : Int) = ((a ||| b : Nat) : Int) :=
  (bits_nat .u32 32 (by decide) (fun n h0 h1 => IntWalk.u32_in _ (by omega)) a b ha hb).2
theorem bits_xor32 (a b : Nat) (ha : a < 4294967296) (hb : b < 4294967296) : bits .xor .u32 (a : Int) (b : Int) = ((a ^^^ b : Nat) : Int) := by
  have ha' : a % 2 ^ 32 = a := Nat.mod_eq_of_lt ha
  have hb' : b % 2 ^ 32 = b := Nat.mod_eq_of_lt hb
  have hx : a ^^^ b < 2 ^ 32 := Nat.xor_lt_two_pow ha hb
  have h32 : IntKind.u32.bits = 32 := rfl
  simp only [bits, h32, BitVec.ofInt_natCast, BitVec.toNat_xor, BitVec.toNat_ofNat, ha', hb']
  exact IntWalk.u32_in _ (by omega)
theorem bit31 {n : Nat} (h : n < 4294967296) : n / 2147483648 = if n.testBit 31 then 1 else 0 := by
  rw [Nat.testBit_eq_decide_div_mod_eq]
  split <;> rename_i h1 <;> simp at h1 <;> omega
theorem bit31' {n : Nat} (h : n < 4294967296) : n.testBit 31 = decide (2147483648 ≤ n) := by
  rw [Nat.testBit_eq_decide_div_mod_eq]
  by_cases h1 : 2147483648 ≤ n
  · rw [decide_eq_true h1, decide_eq_true_eq]; omega
  · rw [decide_eq_false h1, decide_eq_false_iff_not]; omega
theorem borrow {x y q d : Nat} (hx : x < 4294967296) (hy : y < 4294967296) (hq : q ≤ 1) (hd : d < 4294967296) (r : Nat) (hr : d + (q + y) = x + 4294967296 * r) :
    (((4294967295 ^^^ x) &&& y) ||| ((4294967295 ^^^ (x ^^^ y)) &&& d)) / 2147483648 = r := by
  have hA : (4294967295 ^^^ x) &&& y < 4294967296 := Nat.and_lt_two_pow (n := 32) _ hy
  have hB : (4294967295 ^^^ (x ^^^ y)) &&& d < 4294967296 := Nat.and_lt_two_pow (n := 32) _ hd
  have h31 : (4294967295 : Nat).testBit 31 = true := by decide
  rw [bit31 (Nat.or_lt_two_pow (n := 32) hA hB), Nat.testBit_or, Nat.testBit_and, Nat.testBit_and, Nat.testBit_xor, Nat.testBit_xor, Nat.testBit_xor, h31, bit31' hx, bit31' hy, bit31' hd]
  by_cases h1 : 2147483648 ≤ x <;> by_cases h2 : 2147483648 ≤ y <;> by_cases h3 : 2147483648 ≤ d <;> simp [h1, h2, h3] <;> omega
theorem borrow_bits {x y q d : Nat} (hx : x < 4294967296) (hy : y < 4294967296) (hq : q ≤ 1) (hd : d < 4294967296) (r : Nat) (hr : d + (q + y) = x + 4294967296 * r) :
    bits .or .u32 (bits .and .u32 (bits .xor .u32 IntKind.u32.max (x : Int)) (y : Int)) (bits .and .u32 (bits .xor .u32 IntKind.u32.max (bits .xor .u32 (x : Int) (y : Int))) (d : Int)) / 2147483648 = (r : Int) := by
  have hm : IntKind.u32.max = ((4294967295 : Nat) : Int) := rfl
  have hxy : x ^^^ y < 4294967296 := Nat.xor_lt_two_pow (n := 32) hx hy
  have h1 : 4294967295 ^^^ x < 4294967296 := Nat.xor_lt_two_pow (n := 32) (by decide) hx
  have h2 : 4294967295 ^^^ (x ^^^ y) < 4294967296 := Nat.xor_lt_two_pow (n := 32) (by decide) hxy
  have hA : (4294967295 ^^^ x) &&& y < 4294967296 := Nat.and_lt_two_pow (n := 32) _ hy
  have hB : (4294967295 ^^^ (x ^^^ y)) &&& d < 4294967296 := Nat.and_lt_two_pow (n := 32) _ hd
  rw [hm, bits_xor32 x y hx hy, bits_xor32 _ x (by decide) hx, bits_xor32 _ _ (by decide) hxy, bits_and32 _ _ h1 hy, bits_and32 _ _ h2 hd, bits_or32 _ _ hA hB]
  have := borrow hx hy hq hd r hr
  omega
theorem sub32_val (x y q : Nat) (hx : x < 4294967296) (hy : y < 4294967296) (hq : q ≤ 1) : ∃ d r, d < 4294967296 ∧ r ≤ 1 ∧ d + (q + y) = x + 4294967296 * r ∧ ((x : Int) - y - q) % 4294967296 = (d : Int) := by
  by_cases h : x < q + y
  · exact ⟨x + 4294967296 - (q + y), 1, by omega, by omega, by omega, by omega⟩
  · exact ⟨x - (q + y), 0, by omega, by omega, by omega, by omega⟩
set_option maxHeartbeats 800000 in
theorem sub32_any (x y q d r : Nat) (w : World) (hx : x < 4294967296) (hy : y < 4294967296) (hq : q ≤ 1) (hd : d < 4294967296) (hr : d + (q + y) = x + 4294967296 * r) :
    Calls Try.prog 106 #[.int .u32 x, .int .u32 y, .int .u32 q] w fun e w' => e = .returned (.tuple #[.int .u32 (d : Int), .int .u32 (r : Int)]) ∧ w = w' := by
  have hu : IntKind.u32.signed = false := rfl
  have HD : Hid (((x : Int) - (y : Int) - (q : Int)) % 4294967296 = (d : Int)) := Lib.hid (by omega)
  have HD2 : Hid ((((x : Int) - (y : Int)) % 4294967296 - (q : Int)) % 4294967296 = (d : Int)) := Lib.hid (by omega)
  have HB := Lib.hid (borrow_bits hx hy hq hd r hr)
  go_enter Try.func106, Try.ntmps106
  go_wp2_with fail
  all_goals
    go_ret2
    simp only [HD.out, HD2.out, HB.out]
    exact ⟨rfl, trivial⟩
end Go.Proofs.Ytdmdaoginojalaa

namespace Go.Proofs.Ytdmdaoginojalaa
open Go.RowKit

set_option maxRecDepth 100000 in
set_option maxHeartbeats 3200000 in
theorem ex_sub_any (A A' : Option Addr) (n c n' c' : Nat) (a b : List Nat) (w : World) (ha : Sl w A n c a) (hb : Sl w A' n' c' b) (hn : n ≤ 1000000000) (hn' : n' ≤ n) (hle : Lm.lv b ≤ Lm.lv a) :
    Calls Try.prog 95 #[.slice A n c, .slice A' n' c'] w (RetLimbs w fun l => Lm.lv l = Lm.lv a - Lm.lv b ∧ Lm.canon l ∧ l.length ≤ n) := by
  have la := ha.len
  have lb := hb.len
  obtain ⟨i0, hi, hz0, hz1, hz2⟩ := info_parts info_u32
  have HL : Hid (a.length = n ∧ b.length = n') := ⟨la, lb⟩
  have HLE : Hid (Lm.lv b ≤ Lm.lv a) := hle
  clear la lb hle
  go_enter Try.func95, Try.ntmps95
  go_wp2_with (at_make; refine wpList_make_full _ rfl _ _ 22 rfl w.heap.size 116 i0 (.int .u32 0) 1 Try.underlying22 hi hz0 hz1 _ _ _ _ n rfl rfl (by omega) (by omega) ?c2 ?c3 (Nat.le_refl _) ?_)
  case c2 => first | omega | (rw [hz2]; omega)
  case c3 => unfold maxLen; omega
  intro w1 hown1 hgrow1
  rw [made_u32] at hown1
  have hb1 : Below w.heap.size w w1 := (Below.refl _ _).grown hgrow1 (Nat.le_refl _) (fun k hk => by cases hk)
  clear hgrow1
  go_wp2_with fail
  go_loopw [6, 14] (fun cr i wr => ∃ (k q : Nat) (out : List Nat), k ≤ n ∧ q ≤ 1 ∧ i = .int .i64 (k : Int) ∧ cr = .int .u32 (q : Int) ∧ Hid (out.length = n) ∧ wr.ownsRow w.heap.size 116 1 (.slice (some ⟨w.heap.size, 0, none⟩) n n) n (u32s out) ∧ Lm.ok out ∧
      Hid (Lm.lv (out.take k) + Lm.lv (b.take k) = Lm.lv (a.take k) + Lm.B ^ k * q) ∧ Below w.heap.size w wr)
    (fun _ i _ => n - (intOf i).toNat)
  case atStart =>
    exact ⟨0, 0, List.replicate n 0, Nat.zero_le _, by omega, rfl, rfl, Lib.hid List.length_replicate, hown1, Lm.ok_zeros _, Lib.hid (by simp [Lm.lv]), hb1⟩
  case round =>
    clear hown1 hb1
    obtain ⟨k, q, out, hk, hq, rfl, rfl, hol, hown, hok, HEQ, hbw⟩ := hrel
    have hsz := (hown.lt _ rfl).2
    by_cases h1 : k < n
    · have hko : k < out.length := by rw [hol.out]; omega
      have hco := own_at hown hko
      have hf := hown.frozenAt k
      obtain ⟨ad, rfl, hba, hla, hca, hxa⟩ := (ha.below hbw).at_ h1
      have hlt1 : (k : Int) < (n : Int) := by omega
      have hk0 : (0 : Int) ≤ (k : Int) := Int.natCast_nonneg _

      by_cases h2 : k < n'
      · obtain ⟨ad', rfl, hbb, hlb, hcb, hxb⟩ := (hb.below hbw).at_ h2
        have hlt4 : (k : Int) < (n' : Int) := by omega
        obtain ⟨d, r, hd, hr1, hr, _⟩ := sub32_val a[k] b[k] q hxa hxb hq
        have hE := Lm.sub_step (r := r) (d := d) (take_len (by omega)) HEQ.out (Lm.take_in a hla) (Lm.take_in b hlb) hr
        rw [← take_set_snoc _ hko] at hE
        have HE' := Lib.hid hE
        clear hE
        go_wp2_with (go_at_call 106; refine (sub32_any a[k] b[k] q d r _ hxa hxb hq hd hr).mono ?_; rintro e2 w2 ⟨rfl, rfl⟩)
        go_roundw
        case rel => exact ⟨k + 1, r, out.set k d, h1, hr1, by go_num, rfl, Lib.hid (by rw [List.length_set]; exact hol.out), own_store hown _ rfl, Lm.ok_set hok hd, HE', hbw.setCell (p := ⟨w.heap.size, k, none⟩) (Nat.le_refl _) _⟩
        case measure => simp [intOf]; omega
      · have hlb : b.length ≤ k := by rw [HL.out.2]; omega
        have hlt4 : ¬ (k : Int) < (n' : Int) := by omega
        obtain ⟨d, r, hd, hr1, hr, _⟩ := sub32_val a[k] 0 q hxa (by omega) hq
        have hE := Lm.sub_step (r := r) (d := d) (take_len (by omega)) HEQ.out (Lm.take_in a hla) (Lm.take_out b hlb) hr
        rw [← take_set_snoc _ hko] at hE
        have HE' := Lib.hid hE
        clear hE
        go_wp2_with (go_at_call 106; refine (sub32_any a[k] 0 q d r _ hxa (by omega) hq hd hr).mono ?_; rintro e2 w2 ⟨rfl, rfl⟩)
        go_roundw
        case rel => exact ⟨k + 1, r, out.set k d, h1, hr1, by go_num, rfl, Lib.hid (by rw [List.length_set]; exact hol.out), own_store hown _ rfl, Lm.ok_set hok hd, HE', hbw.setCell (p := ⟨w.heap.size, k, none⟩) (Nat.le_refl _) _⟩
        case measure => simp [intOf]; omega
    · obtain rfl : k = n := by omega
      have hlt1 : ¬ (k : Int) < (k : Int) := by omega
      have hout := hol.out
      have hS : Sl wr (some ⟨w.heap.size, 0, none⟩) k k out := Sl.of_own hown (Nat.le_refl _) hok
      have htl := trim_len out
      have E : Hid (Lm.lv out = Lm.lv a - Lm.lv b) := by
        have h1 := HEQ.out
        rw [Lm.lv_take_ge out k (by omega), Lm.lv_take_ge a k (by rw [HL.out.1]; omega), Lm.lv_take_ge b k (by rw [HL.out.2]; omega)] at h1
        have h2 := Lm.lv_lt hok
        rw [hout] at h2
        have h3 := HLE.out
        have hq0 : q = 0 := by
          rcases Nat.eq_zero_or_pos q with h | h
          · exact h
          · have : q = 1 := by omega
            subst this; omega
        subst hq0
        show Lm.lv out = Lm.lv a - Lm.lv b
        omega
      clear hout
      go_wp2_with (go_at_call 104; refine (ex_trim_any _ _ _ _ _ hS (by omega)).mono ?_; rintro e w' ⟨rfl, rfl⟩)
      go_ret
      exact ⟨some ⟨w.heap.size, 0, none⟩, _, k, Lm.trim out, rfl, hS.trim, ⟨by rw [Lm.trim_lv]; exact E.out, Lm.trim_canon _, by have := hol.out; omega⟩, hbw⟩
end Go.Proofs.Ytdmdaoginojalaa
