/-
  The program's whole numbers (package exact): limbs times a power of two (up, Double).
-/
import Derived.Test.YtejlicacndpfpaaExB
namespace Go.Proofs.Ytejlicacndpfpaa
open Go.RowKit

theorem ofInt_u32 (a : Nat) (h : a < 4294967296) : (BitVec.ofInt 32 (a : Int)).toNat = a := by
  rw [BitVec.toNat_ofInt]
  omega
theorem u32_or_nat (a b : Nat) (ha : a < 4294967296) (hb : b < 4294967296) : bits .or .u32 (a : Int) (b : Int) = ((a ||| b : Nat) : Int) := by
  have hx : a ||| b < 2 ^ 32 := Nat.or_lt_two_pow (by omega) (by omega)
  show IntKind.u32.wrap ((BitVec.ofInt 32 (a : Int) ||| BitVec.ofInt 32 (b : Int)).toNat : Int) = _
  rw [BitVec.toNat_or, ofInt_u32 a ha, ofInt_u32 b hb]
  simp only [IntKind.wrap, IntKind.bits, IntKind.signed]
  simp
  omega
/-- A limb shifted, and what came up from the one below. -/
theorem shift_limb {x q s : Nat} (hs : s < 32) (hx : x < 4294967296) (hq : q < pw s) :
    bits .or .u32 ((x : Int) * 2 ^ s % 4294967296) (q : Int) = (((x * pw s + q) % 4294967296 : Nat) : Int) ∧ IntKind.u64.wrap ((x : Int) * 2 ^ s) / 4294967296 % 4294967296 = (((x * pw s + q) / 4294967296 : Nat) : Int) ∧ (x * pw s + q) / 4294967296 < pw s := by
  have hP := pw_lt s hs
  have hpp : pw s * pw (32 - s) = 4294967296 := by unfold pw; rw [← Nat.pow_add, show s + (32 - s) = 32 by omega]
  have hpow : (2 : Int) ^ s = ((pw s : Nat) : Int) := by unfold pw; rw [Int.natCast_pow]; rfl
  have hp2 : 0 < pw (32 - s) := Nat.two_pow_pos _
  -- the low part is a multiple of the power
  have hlo : x * pw s % 4294967296 = pw s * (x % pw (32 - s)) := by
    rw [← hpp, Nat.mul_comm x, Nat.mul_mod_mul_left]
  have hm := Nat.mod_lt x hp2
  have hmul : pw s * (x % pw (32 - s)) + pw s ≤ 4294967296 := by
    rw [← hpp, ← Nat.mul_succ]
    exact Nat.mul_le_mul_left _ hm
  have hxp : x * pw s < 4294967296 * pw s := Nat.mul_lt_mul_of_pos_right hx (Nat.two_pow_pos _)
  have hdm := Nat.div_add_mod (x * pw s) 4294967296
  obtain ⟨y, hy⟩ : ∃ y, x * pw s = y := ⟨_, rfl⟩
  have hyi : (x : Int) * 2 ^ s = (y : Int) := by rw [hpow, ← Int.natCast_mul, hy]
  rw [hyi, hy]
  rw [hy] at hlo hxp hdm
  refine ⟨?_, ?_, ?_⟩
  · rw [show (y : Int) % 4294967296 = ((y % 4294967296 : Nat) : Int) by omega, u32_or_nat _ _ (Nat.mod_lt _ (by decide)) (by omega)]
    congr 1
    have hor := Nat.two_pow_add_eq_or_of_lt (i := s) (b := q) hq (x % pw (32 - s))
    rw [hlo]
    have e : pw s * (x % pw (32 - s)) = 2 ^ s * (x % pw (32 - s)) := rfl
    rw [e, ← hor, ← e]
    omega
  · have hb : y < 18446744073709551616 := Nat.lt_trans hxp (by omega)
    rw [show IntKind.u64.wrap (y : Int) = (y : Int) from IntWalk.u64_in _ (by omega)]
    omega
  · omega
/-- A row of limbs of the call's own, at the head of its block. -/
def RetRow (W : World) (P : List Nat → Prop) (m : Nat) (e : Ending) (w' : World) : Prop :=
  ∃ g l, e = .returned (.slice (some ⟨g, 0, none⟩) m m) ∧ w'.ownsRow W.heap.size 134 1 (.slice (some ⟨g, 0, none⟩) m m) m (u32s l) ∧ Lm.ok l ∧ l.length = m ∧ P l ∧ Below W.heap.size W w'
set_option maxRecDepth 100000 in
set_option maxHeartbeats 1600000 in
theorem ex_up_any (A : Option Addr) (n c s : Nat) (a : List Nat) (w : World) (ha : Sl w A n c a) (hn : n ≤ 1000000000) (hs : s < 32) :
    Calls Try.prog 174 #[.slice A n c, .int .u64 (s : Int)] w (RetRow w (fun l => Lm.lv l = Lm.lv a * pw s) (n + 1)) := by
  obtain ⟨i0, hi, hz0, hz1, hz2⟩ := info_parts info_u32
  have hP := pw_lt s hs
  have HL := Lib.hid ha.len
  have e1 : ((n : Int) + 1) = ((n + 1 : Nat) : Int) := by omega
  have HE := Lib.hid e1
  clear e1
  go_enter Try.func174, Try.ntmps174
  go_wp2_with (at_make; refine wpList_make_full _ rfl _ _ 22 rfl w.heap.size 134 i0 (.int .u32 0) 1 Try.underlying22 hi hz0 hz1 _ _ _ _ (n + 1) rfl rfl ?c0 ?c1 ?c2 ?c3 ?c4 ?_)
  case c0 => exact HE.out
  case c1 => exact HE.out
  case c2 => rw [hz2]; omega
  case c3 => unfold maxLen; omega
  case c4 => exact Nat.le_refl _
  intro w1 hown1 hgrow1
  rw [made_u32] at hown1
  have hb1 : Below w.heap.size w w1 := (Below.refl _ _).grown hgrow1 (Nat.le_refl _) (fun k hk => by cases hk)
  clear hgrow1
  go_wp2_with fail
  go_loopw [6, 15] (fun cr i wr => ∃ (k q : Nat) (out : List Nat), k ≤ n ∧ q < pw s ∧ i = .int .i64 (k : Int) ∧ cr = .int .u32 (q : Int) ∧ Hid (out.length = n + 1) ∧ wr.ownsRow w.heap.size 134 1 (.slice (some ⟨w.heap.size, 0, none⟩) (n + 1) (n + 1)) (n + 1) (u32s out) ∧ Lm.ok out ∧
      Hid (Lm.lv (out.take k) + Lm.B ^ k * q = Lm.lv (a.take k) * pw s) ∧ Below w.heap.size w wr)
    (fun _ i _ => n - (intOf i).toNat)
  case atStart =>
    exact ⟨0, 0, List.replicate (n + 1) 0, Nat.zero_le _, Nat.two_pow_pos _, rfl, rfl, Lib.hid List.length_replicate, hown1, Lm.ok_zeros _, Lib.hid (by simp [Lm.lv]), hb1⟩
  case round =>
    clear hown1 hb1
    obtain ⟨k, q, out, hk, hq, rfl, rfl, hol, hown, hok, HEQ, hb⟩ := hrel
    by_cases hlt : k < n
    · obtain ⟨ad, rfl, hba, hla, hca, hxa⟩ := (ha.below hb).at_ hlt
      have hko : k < out.length := by rw [hol.out]; omega
      have hco := own_at hown hko
      have hf := hown.frozenAt k
      have hsz := (hown.lt _ rfl).2
      obtain ⟨x, hx⟩ : ∃ x, a[k] = x := ⟨_, rfl⟩
      rw [hx] at hca hxa
      have HX := Lib.hid hx
      clear hx
      have hlt' : (k : Int) < (n : Int) := by omega
      have hk0 : (0 : Int) ≤ (k : Int) := Int.natCast_nonneg _
      have hs0 : (0 : Int) ≤ (s : Int) := Int.natCast_nonneg _
      obtain ⟨s1, s2, s3⟩ := shift_limb hs hxa hq
      have S1 := Lib.hid s1
      have S2 := Lib.hid s2
      have HQ : Hid (Lm.lv ((out.set k ((x * pw s + q) % 4294967296)).take (k + 1)) + Lm.B ^ (k + 1) * ((x * pw s + q) / 4294967296) = Lm.lv (a.take (k + 1)) * pw s) := Lib.hid (by
        have h1 := HEQ.out
        have h2 := Lm.lv_take_succ (out.set k ((x * pw s + q) % 4294967296)) k (by rw [List.length_set]; exact hko)
        rw [List.take_set_of_le (Nat.le_refl _), List.getElem_set_self] at h2
        have h3 := Lm.lv_take_succ a k hla
        rw [HX.out] at h3
        have hdm := Nat.div_add_mod (x * pw s + q) 4294967296
        rw [h2, h3, Nat.add_mul, ← h1, Nat.pow_succ, Nat.mul_assoc, show Lm.B * ((x * pw s + q) / 4294967296) = 4294967296 * ((x * pw s + q) / 4294967296) from rfl, Nat.add_assoc, ← Nat.mul_add]
        have e : (x * pw s + q) % 4294967296 + 4294967296 * ((x * pw s + q) / 4294967296) = q + x * pw s := by omega
        rw [e, Nat.mul_add, Nat.mul_assoc, Nat.add_assoc])
      clear s1 s2
      go_wp2_with fail
      rw [S1.out, S2.out]
      refine ⟨⟨k + 1, (x * pw s + q) / 4294967296, out.set k ((x * pw s + q) % 4294967296), hlt, s3, congrArg (Value.int .i64) (by omega), rfl, Lib.hid (by rw [List.length_set]; exact hol.out), own_store hown _ rfl, Lm.ok_set hok (Nat.mod_lt _ (by decide)), HQ, hb.setCell (p := ⟨w.heap.size, k, none⟩) (Nat.le_refl _) _⟩, ?_⟩
      simp [intOf]
      omega
    · obtain rfl : k = n := by omega
      have hko : k < out.length := by rw [hol.out]; omega
      have hco := own_at hown hko
      have hf := hown.frozenAt k
      have hsz := (hown.lt _ rfl).2
      have hqb : q < 4294967296 := by omega
      go_wp2_with fail
      go_ret
      have hst := own_store hown (j := k) (X := (q : Int)) q rfl
      refine ⟨w.heap.size, out.set k q, rfl, hst, Lm.ok_set hok hqb, by rw [List.length_set]; exact hol.out, ?_, hb.setCell (p := ⟨w.heap.size, k, none⟩) (Nat.le_refl _) _⟩
      have h1 := HEQ.out
      have h2 := Lm.lv_take_succ (out.set k q) k (by rw [List.length_set]; exact hko)
      rw [List.take_set_of_le (Nat.le_refl _), List.getElem_set_self, Lm.lv_take_ge _ (k + 1) (by rw [List.length_set, hol.out]; exact Nat.le_refl _)] at h2
      show Lm.lv (out.set k q) = Lm.lv a * pw s
      rw [h2, h1, Lm.lv_take_ge a k (by rw [HL.out]; exact Nat.le_refl _)]
end Go.Proofs.Ytejlicacndpfpaa
