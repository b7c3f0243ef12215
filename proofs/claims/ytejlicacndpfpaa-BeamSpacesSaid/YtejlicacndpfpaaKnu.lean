/-
  The program's whole numbers (package exact): times a power of two (Double).
  The program's whole numbers (package exact): limbs by one limb, in place (bits.Div32, short).
  The quotient of limbs by limbs, plainly: how far a limb that is guessed by two limbs of the divisor may be off; taking away; adding back.
-/
import Derived.Test.YtejlicacndpfpaaExD
import Derived.Deep.OwnRows
import Derived.Test.YtejlicacndpfpaaZero
namespace Go.Proofs.Ytejlicacndpfpaa
open Go.RowKit

theorem Sl.drew {w : World} {n c : Nat} {A : Option Addr} {l : List Nat} (h : Sl w A n c l) : Sl w.drew A n c l := h
theorem sl_of_row {w : World} {B g m : Nat} {l : List Nat} (h : w.ownsRow B 134 1 (.slice (some ⟨g, 0, none⟩) m m) m (u32s l)) (hok : Lm.ok l) : Sl w (some ⟨g, 0, none⟩) m m l := Sl.of_own h (Nat.le_refl _) hok
end Go.Proofs.Ytejlicacndpfpaa

namespace Go.Proofs.Ytejlicacndpfpaa
open Go.RowKit

theorem or_hi {h l : Nat} (hh : h < 4294967296) (hl : l < 4294967296) : bits .or .u64 ((h : Int) * 4294967296) (l : Int) = ((h * 4294967296 + l : Nat) : Int) := by
  have e := u64_or_nat (h * 4294967296) l (by omega) (by omega)
  have hor := Nat.two_pow_add_eq_or_of_lt (i := 32) (b := l) (by omega) h
  rw [show (h : Int) * 4294967296 = ((h * 4294967296 : Nat) : Int) by omega, e]
  congr 1
  rw [show h * 4294967296 = 2 ^ 32 * h by omega, ← hor]
set_option maxRecDepth 100000 in
set_option maxHeartbeats 800000 in
theorem div32_any (h l y : Nat) (hh : h < y) (hl : l < 4294967296) (hy : y < 4294967296) (w : World) :
    Calls Try.prog 172 #[.int .u32 (h : Int), .int .u32 (l : Int), .int .u32 (y : Int)] w
      fun e w' => e = .returned (.tuple #[.int .u32 (((h * 4294967296 + l) / y : Nat) : Int), .int .u32 (((h * 4294967296 + l) % y : Nat) : Int)]) ∧ ∃ k, w' = w.drewN k := by
  have hy1 : ((y : Int) != 0) = true := by rw [bne_iff_ne]; omega
  have hy2 : decide ((y : Int) ≤ (h : Int)) = false := decide_eq_false (by omega)
  have hy3 : ¬ (y : Int) = 0 := by omega
  go_enter Try.func172, Try.ntmps172
  have hd : (h * 4294967296 + l) / y < 4294967296 := Lm.short_lt (by omega) hh hl
  have hm : (h * 4294967296 + l) % y < y := Nat.mod_lt _ (by omega)
  have HO := Lib.hid (or_hi (show h < 4294967296 by omega) hl)
  obtain ⟨N, hN⟩ : ∃ N, h * 4294967296 + l = N := ⟨_, rfl⟩
  rw [hN] at hd hm HO ⊢
  have hNb : N < 18446744073709551616 := by omega
  have hq : (N : Int) / (y : Int) = ((N / y : Nat) : Int) := (Int.natCast_ediv _ _).symm
  have hr : (N : Int) % (y : Int) = ((N % y : Nat) : Int) := (Int.natCast_emod _ _).symm
  have HQ := Lib.hid hq
  have HR := Lib.hid hr
  have hq1 : (N : Int) / (y : Int) ≤ 4294967295 := by rw [hq]; omega
  have hq0 : 0 ≤ (N : Int) / (y : Int) := by rw [hq]; exact Int.natCast_nonneg _
  have hr1 : (N : Int) % (y : Int) ≤ 4294967295 := by rw [hr]; omega
  have hr0 : 0 ≤ (N : Int) % (y : Int) := by rw [hr]; exact Int.natCast_nonneg _
  clear hN hq hr
  go_wp2_with fail
  rw [HO.out]
  go_quiet (fail)
  go_wp2_with fail
  go_ret2
  exact ⟨by show Ending.returned (.tuple #[.int .u32 ((N : Int) / (y : Int)), .int .u32 ((N : Int) % (y : Int))]) = _; rw [HQ.out, HR.out], _, rfl⟩

/-- What 'short' leaves: the row in block g holds the quotient; what is left is told. -/
def RetShortIn (W : World) (B g n c : Nat) (a : List Nat) (d : Nat) (e : Ending) (w' : World) : Prop :=
  ∃ (l : List Nat) (r : Nat), e = .returned (.int .u32 (r : Int)) ∧ w'.ownsRow B 134 1 (.slice (some ⟨g, 0, none⟩) n c) n (u32s l) ∧ Lm.ok l ∧ l.length = n ∧ Lm.lv a = d * Lm.lv l + r ∧ r < d ∧ W.grownBy w' (some g)
theorem grown_set {W w : World} {g : Nat} (h : W.grownBy w (some g)) (j : Nat) (v : Value) : W.grownBy (w.setCell ⟨g, j, none⟩ v) (some g) :=
  ⟨h.os, h.tape, h.output, by simpa [World.setCell] using h.size, fun i hi hne => by
    have e : (w.setCell ⟨g, j, none⟩ v).heap[i]? = w.heap[i]? := by
      unfold World.setCell
      simp only [Array.getElem?_modify]
      rw [if_neg (by rintro rfl; exact hne rfl)]
    rw [e]
    exact h.block i hi hne⟩
theorem grown_drewN {W w : World} {row : Option Nat} (h : W.grownBy w row) (k : Nat) : W.grownBy (w.drewN k) row := ⟨h.os, h.tape, h.output, h.size, h.block⟩
set_option maxRecDepth 100000 in
set_option maxHeartbeats 1600000 in
theorem ex_short_any (B g n c d : Nat) (a : List Nat) (w : World) (ha : w.ownsRow B 134 1 (.slice (some ⟨g, 0, none⟩) n c) n (u32s a)) (hok0 : Lm.ok a) (hn : n ≤ 1000000000) (hd : 0 < d) (hdB : d < 4294967296) :
    Calls Try.prog 156 #[.slice (some ⟨g, 0, none⟩) n c, .int .u32 (d : Int)] w (RetShortIn w B g n c a d) := by
  have hlen : a.length = n := by have := ha.1; rw [u32s_len] at this; omega
  have HL := Lib.hid hlen
  clear hlen
  go_enter Try.func156, Try.ntmps156
  go_wp2_with fail
  go_loopw [5, 6] (fun rest i wr => ∃ (k r : Nat) (out : List Nat), k ≤ n ∧ r < d ∧ i = .int .i64 ((k : Int) - 1) ∧ rest = .int .u32 (r : Int) ∧ Hid (out.length = n) ∧ wr.ownsRow B 134 1 (.slice (some ⟨g, 0, none⟩) n c) n (u32s out) ∧ Lm.ok out ∧
      Hid (Lm.lv (a.drop k) = d * Lm.lv (out.drop k) + r) ∧ Hid (out.take k = a.take k) ∧ w.grownBy wr (some g))
    (fun _ i _ => (intOf i + 1).toNat)
  case atStart =>
    exact ⟨n, 0, a, Nat.le_refl _, hd, rfl, rfl, HL, ha, hok0, Lib.hid (by rw [List.drop_of_length_le (by rw [HL.out]; exact Nat.le_refl _)]; simp [Lm.lv]), Lib.hid rfl, World.grownBy.refl w _⟩
  case round =>
    obtain ⟨k, r, out, hk, hr, rfl, rfl, hol, hown, hok, HE, HT, hg⟩ := hrel
    have hsz := (hown.lt _ rfl).2
    by_cases h0 : k = 0
    · subst h0
      go_wp2_with fail
      go_ret
      exact ⟨out, r, rfl, hown, hok, hol.out, by have := HE.out; simpa using this, hr, hg⟩
    · have hko : k - 1 < out.length := by rw [hol.out]; omega
      have hka : k - 1 < a.length := by rw [HL.out]; omega
      have hf := hown.frozenAt (k - 1)
      have hco := own_at hown hko
      have hk1 : 1 ≤ k := by omega
      have hxo : out[k - 1] = a[k - 1] := by
        have h1 := congrArg (fun t : List Nat => t[k - 1]?) HT.out
        simp only [List.getElem?_take] at h1
        rw [if_pos (by omega), if_pos (by omega), List.getElem?_eq_getElem hko, List.getElem?_eq_getElem hka] at h1
        injection h1
      have hxb : a[k - 1] < 4294967296 := Lm.ok_get hok0 hka
      rw [hxo] at hco
      obtain ⟨x, hx⟩ : ∃ x, a[k - 1] = x := ⟨_, rfl⟩
      rw [hx] at hco hxb
      have HX := Lib.hid hx
      clear hx hxo h0
      go_wp2_with fail
      refine (div32_any r x d hr hxb hdB _).mono ?_
      rintro e1 w1 ⟨rfl, k1, rfl⟩
      have hst := Lm.short_step (k := k - 1) (d := d) (r := r) hka hko (by rw [show k - 1 + 1 = k by omega]; exact HE.out)
      rw [HX.out] at hst
      obtain ⟨q, hq⟩ : ∃ q, (r * 4294967296 + x) / d = q := ⟨_, rfl⟩
      obtain ⟨r2, hr2⟩ : ∃ r2, (r * 4294967296 + x) % d = r2 := ⟨_, rfl⟩
      have hqb : q < 4294967296 := by rw [← hq]; exact Lm.short_lt hd hr hxb
      have hrb : r2 < d := by rw [← hr2]; exact Nat.mod_lt _ hd
      rw [hq, hr2] at hst ⊢
      have HST := Lib.hid hst
      clear hq hr2 hst
      go_wp2_with fail
      refine ⟨⟨k - 1, r2, out.set (k - 1) q, by omega, hrb, congrArg (Value.int .i64) (by omega), rfl, Lib.hid (by rw [List.length_set]; exact hol.out), own_store (w := wr.drewN k1) hown _ rfl, Lm.ok_set hok hqb, HST, Lib.hid ?_, grown_set (grown_drewN hg k1) _ _⟩, ?_⟩
      · rw [List.take_set_of_le (Nat.le_refl _)]
        have h1 := congrArg (List.take (k - 1)) HT.out
        rw [List.take_take, List.take_take, Nat.min_eq_left (by omega)] at h1
        exact h1
      · simp [intOf]
        omega
end Go.Proofs.Ytejlicacndpfpaa

namespace Go.Proofs.Ytejlicacndpfpaa

/-- What is not more than the quotient is not refused by the test on three limbs. -/
theorem guess_low {q D P D2 T3 K D0 P0 : Nat} (h : q * D ≤ P) (hD : D = D2 * K + D0) (hP : P = T3 * K + P0) (hP0 : P0 < K) : q * D2 ≤ T3 := by
  rcases Nat.lt_or_ge T3 (q * D2) with hlt | hge
  · exfalso
    have h1 : (T3 + 1) * K ≤ q * D2 * K := Nat.mul_le_mul_right K hlt
    have h2 : q * (D2 * K) ≤ q * D := Nat.mul_le_mul_left q (by omega)
    rw [← Nat.mul_assoc] at h2
    rw [Nat.add_mul, Nat.one_mul] at h1
    omega
  · exact hge
/-- A guess that the test lets is too great by one at the most. -/
theorem guess_high {g D P D2 T3 K D0 P0 : Nat} (h : g * D2 ≤ T3) (hD : D = D2 * K + D0) (hD0 : D0 < K) (hP : P = T3 * K + P0) (hg : g * K ≤ D) : g * D ≤ P + D := by
  have h1 : g * D2 * K ≤ T3 * K := Nat.mul_le_mul_right K h
  have h2 : g * D = g * D2 * K + g * D0 := by rw [hD, Nat.mul_add, Nat.mul_assoc]
  have h3 : g * D0 ≤ g * K := Nat.mul_le_mul_left g (Nat.le_of_lt hD0)
  omega
/-- One limb of taking q times d away: v the divisor's limb, b what is borrowed, x the limb. -/
theorem less_limb {q v b x : Nat} (hq : q < 4294967296) (hv : v < 4294967296) (hb : b < 4294967296) (hx : x < 4294967296) :
    b + q * v < 18446744073709551616 ∧
    (∀ y c, (y, c) = (if x < (b + q * v) % 4294967296 then (x + 4294967296 - (b + q * v) % 4294967296, (b + q * v) / 4294967296 + 1) else (x - (b + q * v) % 4294967296, (b + q * v) / 4294967296)) →
      y < 4294967296 ∧ c < 4294967296 ∧ y + b + q * v = x + 4294967296 * c) := by
  have h1 : q * v ≤ 4294967295 * 4294967295 := Nat.mul_le_mul (by omega) (by omega)
  obtain ⟨p, hp⟩ : ∃ p, q * v = p := ⟨_, rfl⟩
  rw [hp] at h1 ⊢
  refine ⟨by omega, fun y c h => ?_⟩
  split at h
  · injection h with h2 h3
    omega
  · injection h with h2 h3
    omega
end Go.Proofs.Ytejlicacndpfpaa
