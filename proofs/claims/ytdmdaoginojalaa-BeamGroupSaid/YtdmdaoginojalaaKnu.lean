/-
  The program's whole numbers (package exact): limbs times a power of two (up, Double).
  The program's whole numbers (package exact): times a power of two (Double).
  The program's whole numbers (package exact): limbs by one limb, in place (bits.Div32, short).
  The quotient of limbs by limbs, plainly: how far a limb that is guessed by two limbs of the divisor may be off; taking away; adding back.
-/
import Derived.Test.YtdmdaoginojalaaExB
import Derived.Deep.OwnRows
import Derived.Test.YtdmdaoginojalaaZero
namespace Go.Proofs.Ytdmdaoginojalaa
open Go.RowKit

theorem ofInt_u32 (a : Nat) (h : a < 4294967296) : (BitVec.ofInt 32 (a : Int)).toNat = a := by
  rw [BitVec.toNat_ofInt]
  omega
theorem u32_or_nat (a b : Nat) (ha : a < 4294967296) (hb : b < 4294967296) : bits .or .u32 (a : Int) (b : Int) = ((a ||| b : Nat) : Int) := by
  have hx : a ||| b < 2 ^ 32 := Nat.or_lt_two_pow (by omega) (by omega)
  show IntKind.u32.wrap ((BitVec.ofInt 32 (a : Int) ||| BitVec.ofInt 32 (b : Int)).toNat : Int) = _
  rw [BitVec.toNat_or, ofInt_u32 a ha, ofInt_u32 b hb]
  simp only [IntKind.wrap, IntKind.bits, IntKind.signed]
  simp
  omega
/-- A limb shifted, and what came up from the one below. -/
theorem shift_limb {x q s : Nat} (hs : s < 32) (hx : x < 4294967296) (hq : q < pw s) :
    bits .or .u32 ((x : Int) * 2 ^ s % 4294967296) (q : Int) = (((x * pw s + q) % 4294967296 : Nat) : Int) ∧ IntKind.u64.wrap ((x : Int) * 2 ^ s) / 4294967296 % 4294967296 = (((x * pw s + q) / 4294967296 : Nat) : Int) ∧ (x * pw s + q) / 4294967296 < pw s := by
  have hP := pw_lt s hs
  have hpp : pw s * pw (32 - s) = 4294967296 := by unfold pw; rw [← Nat.pow_add, show s + (32 - s) = 32 by omega]
  have hpow : (2 : Int) ^ s = ((pw s : Nat) : Int) := by unfold pw; rw [Int.natCast_pow]; rfl
  have hp2 : 0 < pw (32 - s) := Nat.two_pow_pos _
  -- the low part is a multiple of the power
  have hlo : x * pw s % 4294967296 = pw s * (x % pw (32 - s)) := by
    rw [← hpp, Nat.mul_comm x, Nat.mul_mod_mul_left]
  have hm := Nat.mod_lt x hp2
  have hmul : pw s * (x % pw (32 - s)) + pw s ≤ 4294967296 := by
    rw [← hpp, ← Nat.mul_succ]
    exact Nat.mul_le_mul_left _ hm
  have hxp : x * pw s < 4294967296 * pw s := Nat.mul_lt_mul_of_pos_right hx (Nat.two_pow_pos _)
  have hdm := Nat.div_add_mod (x * pw s) 4294967296
  obtain ⟨y, hy⟩ : ∃ y, x * pw s = y := ⟨_, rfl⟩
  have hyi : (x : Int) * 2 ^ s = (y : Int) := by rw [hpow, ← Int.natCast_mul, hy]
  rw [hyi, hy]
  rw [hy] at hlo hxp hdm
  refine ⟨?_, ?_, ?_⟩
  · rw [show (y : Int) % 4294967296 = ((y % 4294967296 : Nat) : Int) by omega, u32_or_nat _ _ (Nat.mod_lt _ (by decide)) (by omega)]
    congr 1
    have hor := Nat.two_pow_add_eq_or_of_lt (i := s) (b := q) hq (x % pw (32 - s))
    rw [hlo]
    have e : pw s * (x % pw (32 - s)) = 2 ^ s * (x % pw (32 - s)) := rfl
    rw [e, ← hor, ← e]
    omega
  · have hb : y < 18446744073709551616 := Nat.lt_trans hxp (by omega)
    rw [show IntKind.u64.wrap (y : Int) = (y : Int) from IntWalk.u64_in _ (by omega)]
    omega
  · omega
/-- A row of limbs of the call's own, at the head of its block. -/
def RetRow (W : World) (P : List Nat → Prop) (m : Nat) (e : Ending) (w' : World) : Prop :=
  ∃ g l, e = .returned (.slice (some ⟨g, 0, none⟩) m m) ∧ w'.ownsRow W.heap.size 116 1 (.slice (some ⟨g, 0, none⟩) m m) m (u32s l) ∧ Lm.ok l ∧ l.length = m ∧ P l ∧ Below W.heap.size W w'
set_option maxRecDepth 100000 in
set_option maxHeartbeats 1600000 in
theorem ex_up_any (A : Option Addr) (n c s : Nat) (a : List Nat) (w : World) (ha : Sl w A n c a) (hn : n ≤ 1000000000) (hs : s < 32) :
    Calls Try.prog 116 #[.slice A n c, .int .u64 (s : Int)] w (RetRow w (fun l => Lm.lv l = Lm.lv a * pw s) (n + 1)) := by
  obtain ⟨i0, hi, hz0, hz1, hz2⟩ := info_parts info_u32
  have hP := pw_lt s hs
  have HL := Lib.hid ha.len
  have e1 : ((n : Int) + 1) = ((n + 1 : Nat) : Int) := by omega
  have HE := Lib.hid e1
  clear e1
  go_enter Try.func116, Try.ntmps116
  go_wp2_with (at_make; refine wpList_make_full _ rfl _ _ 22 rfl w.heap.size 116 i0 (.int .u32 0) 1 Try.underlying22 hi hz0 hz1 _ _ _ _ (n + 1) rfl rfl ?c0 ?c1 ?c2 ?c3 ?c4 ?_)
  case c0 => exact HE.out
  case c1 => exact HE.out
  case c2 => rw [hz2]; omega
  case c3 => unfold maxLen; omega
  case c4 => exact Nat.le_refl _
  intro w1 hown1 hgrow1
  rw [made_u32] at hown1
  have hb1 : Below w.heap.size w w1 := (Below.refl _ _).grown hgrow1 (Nat.le_refl _) (fun k hk => by cases hk)
  clear hgrow1
  go_wp2_with fail
  go_loopw [6, 15] (fun cr i wr => ∃ (k q : Nat) (out : List Nat), k ≤ n ∧ q < pw s ∧ i = .int .i64 (k : Int) ∧ cr = .int .u32 (q : Int) ∧ Hid (out.length = n + 1) ∧ wr.ownsRow w.heap.size 116 1 (.slice (some ⟨w.heap.size, 0, none⟩) (n + 1) (n + 1)) (n + 1) (u32s out) ∧ Lm.ok out ∧
      Hid (Lm.lv (out.take k) + Lm.B ^ k * q = Lm.lv (a.take k) * pw s) ∧ Below w.heap.size w wr)
    (fun _ i _ => n - (intOf i).toNat)
  case atStart =>
    exact ⟨0, 0, List.replicate (n + 1) 0, Nat.zero_le _, Nat.two_pow_pos _, rfl, rfl, Lib.hid List.length_replicate, hown1, Lm.ok_zeros _, Lib.hid (by simp [Lm.lv]), hb1⟩
  case round =>
    clear hown1 hb1
    obtain ⟨k, q, out, hk, hq, rfl, rfl, hol, hown, hok, HEQ, hb⟩ := hrel
    by_cases hlt : k < n
    · obtain ⟨ad, rfl, hba, hla, hca, hxa⟩ := (ha.below hb).at_ hlt
      have hko : k < out.length := by rw [hol.out]; omega
      have hco := own_at hown hko
      have hf := hown.frozenAt k
      have hsz := (hown.lt _ rfl).2
      obtain ⟨x, hx⟩ : ∃ x, a[k] = x := ⟨_, rfl⟩
      rw [hx] at hca hxa
      have HX := Lib.hid hx
      clear hx
      have hlt' : (k : Int) < (n : Int) := by omega
      have hk0 : (0 : Int) ≤ (k : Int) := Int.natCast_nonneg _
      have hs0 : (0 : Int) ≤ (s : Int) := Int.natCast_nonneg _
      obtain ⟨s1, s2, s3⟩ := shift_limb hs hxa hq
      have S1 := Lib.hid s1
      have S2 := Lib.hid s2
      have HQ : Hid (Lm.lv ((out.set k ((x * pw s + q) % 4294967296)).take (k + 1)) + Lm.B ^ (k + 1) * ((x * pw s + q) / 4294967296) = Lm.lv (a.take (k + 1)) * pw s) := Lib.hid (by
        have h1 := HEQ.out
        have h2 := Lm.lv_take_succ (out.set k ((x * pw s + q) % 4294967296)) k (by rw [List.length_set]; exact hko)
        rw [List.take_set_of_le (Nat.le_refl _), List.getElem_set_self] at h2
        have h3 := Lm.lv_take_succ a k hla
        rw [HX.out] at h3
        have hdm := Nat.div_add_mod (x * pw s + q) 4294967296
        rw [h2, h3, Nat.add_mul, ← h1, Nat.pow_succ, Nat.mul_assoc, show Lm.B * ((x * pw s + q) / 4294967296) = 4294967296 * ((x * pw s + q) / 4294967296) from rfl, Nat.add_assoc, ← Nat.mul_add]
        have e : (x * pw s + q) % 4294967296 + 4294967296 * ((x * pw s + q) / 4294967296) = q + x * pw s := by omega
        rw [e, Nat.mul_add, Nat.mul_assoc, Nat.add_assoc])
      clear s1 s2
      go_wp2_with fail
      rw [S1.out, S2.out]
      refine ⟨⟨k + 1, (x * pw s + q) / 4294967296, out.set k ((x * pw s + q) % 4294967296), hlt, s3, congrArg (Value.int .i64) (by omega), rfl, Lib.hid (by rw [List.length_set]; exact hol.out), own_store hown _ rfl, Lm.ok_set hok (Nat.mod_lt _ (by decide)), HQ, hb.setCell (p := ⟨w.heap.size, k, none⟩) (Nat.le_refl _) _⟩, ?_⟩
      simp [intOf]
      omega
    · obtain rfl : k = n := by omega
      have hko : k < out.length := by rw [hol.out]; omega
      have hco := own_at hown hko
      have hf := hown.frozenAt k
      have hsz := (hown.lt _ rfl).2
      have hqb : q < 4294967296 := by omega
      go_wp2_with fail
      go_ret
      have hst := own_store hown (j := k) (X := (q : Int)) q rfl
      refine ⟨w.heap.size, out.set k q, rfl, hst, Lm.ok_set hok hqb, by rw [List.length_set]; exact hol.out, ?_, hb.setCell (p := ⟨w.heap.size, k, none⟩) (Nat.le_refl _) _⟩
      have h1 := HEQ.out
      have h2 := Lm.lv_take_succ (out.set k q) k (by rw [List.length_set]; exact hko)
      rw [List.take_set_of_le (Nat.le_refl _), List.getElem_set_self, Lm.lv_take_ge _ (k + 1) (by rw [List.length_set, hol.out]; exact Nat.le_refl _)] at h2
      show Lm.lv (out.set k q) = Lm.lv a * pw s
      rw [h2, h1, Lm.lv_take_ge a k (by rw [HL.out]; exact Nat.le_refl _)]
end Go.Proofs.Ytdmdaoginojalaa

namespace Go.Proofs.Ytdmdaoginojalaa
open Go.RowKit

theorem Sl.drew {w : World} {n c : Nat} {A : Option Addr} {l : List Nat} (h : Sl w A n c l) : Sl w.drew A n c l := h
theorem sl_of_row {w : World} {B g m : Nat} {l : List Nat} (h : w.ownsRow B 116 1 (.slice (some ⟨g, 0, none⟩) m m) m (u32s l)) (hok : Lm.ok l) : Sl w (some ⟨g, 0, none⟩) m m l := Sl.of_own h (Nat.le_refl _) hok
end Go.Proofs.Ytdmdaoginojalaa

namespace Go.Proofs.Ytdmdaoginojalaa
open Go.RowKit

theorem or_hi {h l : Nat} (hh : h < 4294967296) (hl : l < 4294967296) : bits .or .u64 ((h : Int) * 4294967296) (l : Int) = ((h * 4294967296 + l : Nat) : Int) := by
  have e := u64_or_nat (h * 4294967296) l (by omega) (by omega)
  have hor := Nat.two_pow_add_eq_or_of_lt (i := 32) (b := l) (by omega) h
  rw [show (h : Int) * 4294967296 = ((h * 4294967296 : Nat) : Int) by omega, e]
  congr 1
  rw [show h * 4294967296 = 2 ^ 32 * h by omega, ← hor]
set_option maxRecDepth 100000 in
set_option maxHeartbeats 800000 in
theorem div32_any (h l y : Nat) (hh : h < y) (hl : l < 4294967296) (hy : y < 4294967296) (w : World) :
    Calls Try.prog 114 #[.int .u32 (h : Int), .int .u32 (l : Int), .int .u32 (y : Int)] w
      fun e w' => e = .returned (.tuple #[.int .u32 (((h * 4294967296 + l) / y : Nat) : Int), .int .u32 (((h * 4294967296 + l) % y : Nat) : Int)]) ∧ ∃ k, w' = w.drewN k := by
  have hy1 : ((y : Int) != 0) = true := by rw [bne_iff_ne]; omega
  have hy2 : decide ((y : Int) ≤ (h : Int)) = false := decide_eq_false (by omega)
  have hy3 : ¬ (y : Int) = 0 := by omega
  go_enter Try.func114, Try.ntmps114
  have hd : (h * 4294967296 + l) / y < 4294967296 := Lm.short_lt (by omega) hh hl
  have hm : (h * 4294967296 + l) % y < y := Nat.mod_lt _ (by omega)
  have HO := Lib.hid (or_hi (show h < 4294967296 by omega) hl)
  obtain ⟨N, hN⟩ : ∃ N, h * 4294967296 + l = N := ⟨_, rfl⟩
  rw [hN] at hd hm HO ⊢
  have hNb : N < 18446744073709551616 := by omega
  have hq : (N : Int) / (y : Int) = ((N / y : Nat) : Int) := (Int.natCast_ediv _ _).symm
  have hr : (N : Int) % (y : Int) = ((N % y : Nat) : Int) := (Int.natCast_emod _ _).symm
  have HQ := Lib.hid hq
  have HR := Lib.hid hr
  have hq1 : (N : Int) / (y : Int) ≤ 4294967295 := by rw [hq]; omega
  have hq0 : 0 ≤ (N : Int) / (y : Int) := by rw [hq]; exact Int.natCast_nonneg _
  have hr1 : (N : Int) % (y : Int) ≤ 4294967295 := by rw [hr]; omega
  have hr0 : 0 ≤ (N : Int) % (y : Int) := by rw [hr]; exact Int.natCast_nonneg _
  clear hN hq hr
  go_wp2_with fail
  rw [HO.out]
  go_quiet (fail)
  go_wp2_with fail
  go_ret2
  exact ⟨by show Ending.returned (.tuple #[.int .u32 ((N : Int) / (y : Int)), .int .u32 ((N : Int) % (y : Int))]) = _; rw [HQ.out, HR.out], _, rfl⟩

/-- What 'short' leaves: the row in block g holds the quotient; what is left is told. -/
def RetShortIn (W : World) (B g n c : Nat) (a : List Nat) (d : Nat) (e : Ending) (w' : World) : Prop :=
  ∃ (l : List Nat) (r : Nat), e = .returned (.int .u32 (r : Int)) ∧ w'.ownsRow B 116 1 (.slice (some ⟨g, 0, none⟩) n c) n (u32s l) ∧ Lm.ok l ∧ l.length = n ∧ Lm.lv a = d * Lm.lv l + r ∧ r < d ∧ W.grownBy w' (some g)
theorem grown_set {W w : World} {g : Nat} (h : W.grownBy w (some g)) (j : Nat) (v : Value) : W.grownBy (w.setCell ⟨g, j, none⟩ v) (some g) :=
  ⟨h.os, h.tape, h.output, by simpa [World.setCell] using h.size, fun i hi hne => by
    have e : (w.setCell ⟨g, j, none⟩ v).heap[i]? = w.heap[i]? := by
      unfold World.setCell
      simp only [Array.getElem?_modify]
      rw [if_neg (by rintro rfl; exact hne rfl)]
    rw [e]
    exact h.block i hi hne⟩
theorem grown_drewN {W w : World} {row : Option Nat} (h : W.grownBy w row) (k : Nat) : W.grownBy (w.drewN k) row := ⟨h.os, h.tape, h.output, h.size, h.block⟩
set_option maxRecDepth 100000 in
set_option maxHeartbeats 1600000 in
theorem ex_short_any (B g n c d : Nat) (a : List Nat) (w : World) (ha : w.ownsRow B 116 1 (.slice (some ⟨g, 0, none⟩) n c) n (u32s a)) (hok0 : Lm.ok a) (hn : n ≤ 1000000000) (hd : 0 < d) (hdB : d < 4294967296) :
    Calls Try.prog 111 #[.slice (some ⟨g, 0, none⟩) n c, .int .u32 (d : Int)] w (RetShortIn w B g n c a d) := by
  have hlen : a.length = n := by have := ha.1; rw [u32s_len] at this; omega
  have HL := Lib.hid hlen
  clear hlen
  go_enter Try.func111, Try.ntmps111
  go_wp2_with fail
  go_loopw [5, 6] (fun rest i wr => ∃ (k r : Nat) (out : List Nat), k ≤ n ∧ r < d ∧ i = .int .i64 ((k : Int) - 1) ∧ rest = .int .u32 (r : Int) ∧ Hid (out.length = n) ∧ wr.ownsRow B 116 1 (.slice (some ⟨g, 0, none⟩) n c) n (u32s out) ∧ Lm.ok out ∧
      Hid (Lm.lv (a.drop k) = d * Lm.lv (out.drop k) + r) ∧ Hid (out.take k = a.take k) ∧ w.grownBy wr (some g))
    (fun _ i _ => (intOf i + 1).toNat)
  case atStart =>
    exact ⟨n, 0, a, Nat.le_refl _, hd, rfl, rfl, HL, ha, hok0, Lib.hid (by rw [List.drop_of_length_le (by rw [HL.out]; exact Nat.le_refl _)]; simp [Lm.lv]), Lib.hid rfl, World.grownBy.refl w _⟩
  case round =>
    obtain ⟨k, r, out, hk, hr, rfl, rfl, hol, hown, hok, HE, HT, hg⟩ := hrel
    have hsz := (hown.lt _ rfl).2
    by_cases h0 : k = 0
    · subst h0
      go_wp2_with fail
      go_ret
      exact ⟨out, r, rfl, hown, hok, hol.out, by have := HE.out; simpa using this, hr, hg⟩
    · have hko : k - 1 < out.length := by rw [hol.out]; omega
      have hka : k - 1 < a.length := by rw [HL.out]; omega
      have hf := hown.frozenAt (k - 1)
      have hco := own_at hown hko
      have hk1 : 1 ≤ k := by omega
      have hxo : out[k - 1] = a[k - 1] := by
        have h1 := congrArg (fun t : List Nat => t[k - 1]?) HT.out
        simp only [List.getElem?_take] at h1
        rw [if_pos (by omega), if_pos (by omega), List.getElem?_eq_getElem hko, List.getElem?_eq_getElem hka] at h1
        injection h1
      have hxb : a[k - 1] < 4294967296 := Lm.ok_get hok0 hka
      rw [hxo] at hco
      obtain ⟨x, hx⟩ : ∃ x, a[k - 1] = x := ⟨_, rfl⟩
      rw [hx] at hco hxb
      have HX := Lib.hid hx
      clear hx hxo h0
      go_wp2_with fail
      refine (div32_any r x d hr hxb hdB _).mono ?_
      rintro e1 w1 ⟨rfl, k1, rfl⟩
      have hst := Lm.short_step (k := k - 1) (d := d) (r := r) hka hko (by rw [show k - 1 + 1 = k by omega]; exact HE.out)
      rw [HX.out] at hst
      obtain ⟨q, hq⟩ : ∃ q, (r * 4294967296 + x) / d = q := ⟨_, rfl⟩
      obtain ⟨r2, hr2⟩ : ∃ r2, (r * 4294967296 + x) % d = r2 := ⟨_, rfl⟩
      have hqb : q < 4294967296 := by rw [← hq]; exact Lm.short_lt hd hr hxb
      have hrb : r2 < d := by rw [← hr2]; exact Nat.mod_lt _ hd
      rw [hq, hr2] at hst ⊢
      have HST := Lib.hid hst
      clear hq hr2 hst
      go_wp2_with fail
      refine ⟨⟨k - 1, r2, out.set (k - 1) q, by omega, hrb, congrArg (Value.int .i64) (by omega), rfl, Lib.hid (by rw [List.length_set]; exact hol.out), own_store (w := wr.drewN k1) hown _ rfl, Lm.ok_set hok hqb, HST, Lib.hid ?_, grown_set (grown_drewN hg k1) _ _⟩, ?_⟩
      · rw [List.take_set_of_le (Nat.le_refl _)]
        have h1 := congrArg (List.take (k - 1)) HT.out
        rw [List.take_take, List.take_take, Nat.min_eq_left (by omega)] at h1
        exact h1
      · simp [intOf]
        omega
end Go.Proofs.Ytdmdaoginojalaa

namespace Go.Proofs.Ytdmdaoginojalaa

/-- What is not more than the quotient is not refused by the test on three limbs. -/
theorem guess_low {q D P D2 T3 K D0 P0 : Nat} (h : q * D ≤ P) (hD : D = D2 * K + D0) (hP : P = T3 * K + P0) (hP0 : P0 < K) : q * D2 ≤ T3 := by
  rcases Nat.lt_or_ge T3 (q * D2) with hlt | hge
  · exfalso
    have h1 : (T3 + 1) * K ≤ q * D2 * K := Nat.mul_le_mul_right K hlt
    have h2 : q * (D2 * K) ≤ q * D := Nat.mul_le_mul_left q (by omega)
    rw [← Nat.mul_assoc] at h2
    rw [Nat.add_mul, Nat.one_mul] at h1
    omega
  · exact hge
/-- A guess that the test lets is too great by one at the most. -/
theorem guess_high {g D P D2 T3 K D0 P0 : Nat} (h : g * D2 ≤ T3) (hD : D = D2 * K + D0) (hD0 : D0 < K) (hP : P = T3 * K + P0) (hg : g * K ≤ D) : g * D ≤ P + D := by
  have h1 : g * D2 * K ≤ T3 * K := Nat.mul_le_mul_right K h
  have h2 : g * D = g * D2 * K + g * D0 := by rw [hD, Nat.mul_add, Nat.mul_assoc]
  have h3 : g * D0 ≤ g * K := Nat.mul_le_mul_left g (Nat.le_of_lt hD0)
  omega
/-- One limb of taking q times d away: v the divisor's limb, b what is borrowed, x the limb. -/
theorem less_limb {q v b x : Nat} (hq : q < 4294967296) (hv : v < 4294967296) (hb : b < 4294967296) (hx : x < 4294967296) :
    b + q * v < 18446744073709551616 ∧
    (∀ y c, (y, c) = (if x < (b + q * v) % 4294967296 then (x + 4294967296 - (b + q * v) % 4294967296, (b + q * v) / 4294967296 + 1) else (x - (b + q * v) % 4294967296, (b + q * v) / 4294967296)) →
      y < 4294967296 ∧ c < 4294967296 ∧ y + b + q * v = x + 4294967296 * c) := by
  have h1 : q * v ≤ 4294967295 * 4294967295 := Nat.mul_le_mul (by omega) (by omega)
  obtain ⟨p, hp⟩ : ∃ p, q * v = p := ⟨_, rfl⟩
  rw [hp] at h1 ⊢
  refine ⟨by omega, fun y c h => ?_⟩
  split at h
  · injection h with h2 h3
    omega
  · injection h with h2 h3
    omega
end Go.Proofs.Ytdmdaoginojalaa
