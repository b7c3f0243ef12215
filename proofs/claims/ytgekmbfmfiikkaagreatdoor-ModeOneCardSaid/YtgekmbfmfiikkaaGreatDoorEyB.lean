/-
  The program's whole numbers (package exact): limbs held against limbs, copies, numbers of 64 bits, bits.
  The references' fractions (polestarref02): with the other sign, lowest terms, the four operations, held against one another.
  The program's whole numbers (package exact): held against one another; bits; copies.
  The program's whole numbers (package exact): bits, copies, times a power of two.
  The program's whole numbers (package exact): limbs and limbs (add), limbs less limbs (sub).
  bits.Sub32.
-/
import Derived.Test.YtgekmbfmfiikkaaGreatDoorOwn
import Derived.Test.YtgekmbfmfiikkaaGreatDoorEdgU
import Derived.WalkSpells
import Derived.Deep.RegionHeld3
import Derived.Test.YtgekmbfmfiikkaaGreatDoorRefW
import Derived.BigQuiet
import Derived.Laws.BitsLemmas
set_option maxHeartbeats 1600000
set_option maxRecDepth 100000
namespace Go.Proofs.YtgekmbfmfiikkaaGreatDoor
open Go.RowKit
def RetSz (W : World) (x y : Nat) (e : Ending) (w' : World) : Prop := ∃ v : Int, e = .returned (.int .i64 v) ∧ (v < 0 ↔ x < y) ∧ (0 < v ↔ y < x) ∧ -1000000000 ≤ v ∧ v ≤ 1000000000 ∧ ∃ k, w' = W.drewN k
theorem ex_size_any (A A' : Option Addr) (n c n' c' : Nat) (a b : List Nat) (w : World) (ha : Sl w A n c a) (hb : Sl w A' n' c' b) (ca : Lm.canon a) (cb : Lm.canon b) (hn : n ≤ 1000000000) (hn' : n' ≤ 1000000000) :
  Calls Tryz.prog 270 #[.slice A n c, .slice A' n' c'] w (RetSz w (Lm.lv a) (Lm.lv b)) := by
 have la := ha.len
 have lb := hb.len
 by_cases hne : n = n'
 ·subst hne
  go_enter Tryz.func270, Tryz.ntmps270
  go_wp2
  go_loopw [5] (fun i wr => ∃ k : Nat, k ≤ n ∧ i = .int .i64 ((k : Int) - 1) ∧ Hid (a.drop k = b.drop k) ∧ ∃ j, wr = w.drewN j) (fun i _ => (intOf i + 1).toNat)
  case atStart => exact ⟨n, Nat.le_refl _, rfl, (by rw [List.drop_of_length_le (by omega), List.drop_of_length_le (by omega)] : a.drop n = b.drop n), 0, rfl⟩
  case round =>
   obtain ⟨k, hk, rfl, HD, j, rfl⟩ := hrel
   by_cases h0 : k = 0
   ·subst h0
    have E : Hid (Lm.lv a = Lm.lv b) := Lib.hid (by have := HD.out; simp only [List.drop_zero] at this; rw [this])
    go_wp2
    go_ret
    exact ⟨0, rfl, by have := E.out; omega, by have := E.out; omega, by omega, by omega, j, rfl⟩
   ·obtain ⟨ad, rfl, hba, hla, hca, hxa⟩ := ha.at_ (k := k - 1) (by omega)
    obtain ⟨ad', rfl, hbb, hlb, hcb, hxb⟩ := hb.at_ (k := k - 1) (by omega)
    have hk1 : 1 ≤ k := by omega
    have HD' : Hid (a.drop (k - 1 + 1) = b.drop (k - 1 + 1)) := by rw [show k - 1 + 1 = k by omega]; exact HD
    by_cases he : a[k - 1] = b[k - 1]
    ·have he' : (((a[k - 1] : Nat) : Int) != ((b[k - 1] : Nat) : Int)) = false := by rw [he]; simp
     go_wp2
     go_quiet (fail)
     all_goals go_wp2
     go_roundw
     case rel => exact ⟨k - 1, by omega, by go_num, (by rw [List.drop_eq_getElem_cons hla, List.drop_eq_getElem_cons hlb, he, HD'.out] : a.drop (k - 1) = b.drop (k - 1)), _, by first | exact drew2 _ _ _ | rfl⟩
     case measure => simp [intOf]; omega
    ·have he' : (((a[k - 1] : Nat) : Int) != ((b[k - 1] : Nat) : Int)) = true := by
      rw [bne_iff_ne]
      omega
     by_cases hl : a[k - 1] < b[k - 1]
     ·have E := Lib.hid (Lm.lt_of_limb ha.ok hla hlb HD'.out hl)
      have hl' : decide (((a[k - 1] : Nat) : Int) < ((b[k - 1] : Nat) : Int)) = true := by simpa using hl
      go_wp2
      go_quiet (fail)
      go_wp2
      go_quiet (fail)
      go_wp2
      go_ret
      exact ⟨-1, rfl, by have := E.out; omega, by have := E.out; omega, by omega, by omega, _, by first | exact drew3 _ _ _ _ | exact drew2 _ _ _ | rfl⟩
     ·have E := Lib.hid (Lm.lt_of_limb hb.ok hlb hla HD'.out.symm (show b[k - 1] < a[k - 1] by omega))
      have hl' : decide (((a[k - 1] : Nat) : Int) < ((b[k - 1] : Nat) : Int)) = false := by simp; omega
      go_wp2
      go_quiet (fail)
      go_wp2
      go_quiet (fail)
      go_wp2
      go_ret
      exact ⟨1, rfl, by have := E.out; omega, by have := E.out; omega, by omega, by omega, _, by first | exact drew3 _ _ _ _ | exact drew2 _ _ _ | rfl⟩
 ·have hb1 : ((n : Int) != (n' : Int)) = true := by rw [bne_iff_ne]; omega
  have E1 : Hid (n < n' → Lm.lv a < Lm.lv b) := Lib.hid (fun h => Lm.len_of_lv ha.ok hb.ok cb (by omega))
  have E2 : Hid (n' < n → Lm.lv b < Lm.lv a) := Lib.hid (fun h => Lm.len_of_lv hb.ok ha.ok ca (by omega))
  go_enter Tryz.func270, Tryz.ntmps270
  go_wp2
  go_ret
  refine ⟨(n : Int) - n', rfl, ?_, ?_, by omega, by omega, 0, rfl⟩
  ·rcases Nat.lt_or_ge n n' with h | h
   ·have := E1.out h; omega
   ·have := E2.out (by omega); omega
  ·rcases Nat.lt_or_ge n n' with h | h
   ·have := E1.out h; omega
   ·have := E2.out (by omega); omega
end Go.Proofs.YtgekmbfmfiikkaaGreatDoor
namespace Go.Proofs.YtgekmbfmfiikkaaGreatDoor
open Go.RowKit
def RetFr (W : World) (x : Rat) (e : Ending) (w' : World) : Prop :=
 ∃ (neg : Bool) (A : Option Addr) (n c : Nat) (neg' : Bool) (A' : Option Addr) (n' c' : Nat), e = .returned (.agg #[.bool neg, .slice A n c, .bool neg', .slice A' n' c']) ∧ IsInt w' neg A n c x.num ∧ IsInt w' neg' A' n' c' (x.den : Int) ∧ Below W.heap.size W w'
theorem bitLen_le {w : World} {neg : Bool} {A : Option Addr} {n c : Nat} {z : Int} (h : IsInt w neg A n c z) {l : Nat} (hl : bitLen z.natAbs = l) : l ≤ 32 * n := by
 have h1 := isInt_lt h
 rw [show Lm.B ^ n = 2 ^ (32 * n) by rw [Nat.pow_mul]] at h1
 rw [← hl]
 unfold bitLen
 split
 ·omega
 ·rename_i h0
  have := (Nat.log2_lt h0).2 h1
  omega
theorem int_len {w : World} {neg : Bool} {A : Option Addr} {n c : Nat} {z : Int} (h : IsInt w neg A n c z) {m : Nat} (hz : z.natAbs < 2 ^ (32 * m)) : n ≤ m := isInt_len_le h (by rw [show Lm.B ^ m = 2 ^ (32 * m) by rw [Nat.pow_mul]]; exact hz)
end Go.Proofs.YtgekmbfmfiikkaaGreatDoor
namespace Go.Proofs.YtgekmbfmfiikkaaGreatDoor
open Go.RowKit
theorem icmp_facts (x y : Int) : (x < y → icmp x y = -1) ∧ (y < x → icmp x y = 1) ∧ (x = y → icmp x y = 0) := by
 unfold icmp
 refine ⟨fun h => if_pos h, fun h => ?_, fun h => ?_⟩
 ·rw [if_neg (by omega), if_pos h]
 ·rw [if_neg (by omega), if_neg (by omega)]
theorem sign_lt {x y : Int} (h : x.sign < y.sign) : x < y := by
 rcases Int.lt_trichotomy x 0 with a | a | a <;> rcases Int.lt_trichotomy y 0 with b | b | b
 all_goals first | (rw [Int.sign_eq_neg_one_of_neg a] at h) | (rw [Int.sign_eq_one_of_pos a] at h) | (rw [a] at h)
 all_goals first | (rw [Int.sign_eq_neg_one_of_neg b] at h) | (rw [Int.sign_eq_one_of_pos b] at h) | (rw [b] at h)
 all_goals simp at h
 all_goals omega
theorem icmp_clamp {x y v : Int} {neg neg' : Bool} {p q : Nat} (hs : x.sign = y.sign) (hx : x = sgnd neg p) (hy : y = sgnd neg' q) (nx : neg = decide (x < 0)) (ny : neg' = decide (y < 0)) (h : (v < 0 ↔ p < q) ∧ (0 < v ↔ q < p)) :
  (neg = false → icmp x y = max (-1) (min 1 v)) ∧ (neg = true → icmp x y = max (-1) (min 1 (-v))) := by
 have hb : neg' = neg := by
  rw [nx, ny]
  have h1 : x < 0 ↔ y < 0 := by rw [← Int.sign_eq_neg_one_iff_neg, ← Int.sign_eq_neg_one_iff_neg, hs]
  exact decide_eq_decide.2 h1.symm
 subst hb
 clear hs nx ny
 obtain ⟨h1, h2⟩ := h
 unfold icmp
 cases neg'
 ·refine ⟨fun _ => ?_, fun h => absurd h (by decide)⟩
  rw [hx, hy]
  unfold sgnd
  simp only [Bool.false_eq_true, if_false]
  split <;> (try split) <;> omega
 ·refine ⟨fun h => absurd h (by decide), fun _ => ?_⟩
  rw [hx, hy]
  unfold sgnd
  simp only [if_true]
  split <;> (try split) <;> omega
theorem ex_cmp_int (neg neg' : Bool) (A A' : Option Addr) (n c n' c' : Nat) (x y : Int) (w : World) (hx : IsInt w neg A n c x) (hy : IsInt w neg' A' n' c' y) (hn : n ≤ 1000000000) (hn' : n' ≤ 1000000000) :
  Calls Tryz.prog 220 #[.agg #[.bool neg, .slice A n c], .agg #[.bool neg', .slice A' n' c']] w (RetV w (.int .i64 (icmp x y))) := by
 have K0 := (((Mm.nil w).int hx).int hy).var (g := w.heap.size) rfl [.bool neg, .slice A n c] 24 |>.var (g := w.heap.size + 1) (by simp) [.bool neg', .slice A' n' c'] 24
 have HX := Lib.hid (isInt_neg hx)
 have HY := Lib.hid (isInt_neg hy)
 have HC := Lib.hid (icmp_facts x y)
 clear hx hy
 go_enter Tryz.func220, Tryz.ntmps220
 go_wp2_with fail
 generalize (w.alloc (.cells #[.bool neg, .slice A n c] 24)).alloc (.cells #[.bool neg', .slice A' n' c'] 24) = w0 at K0 ⊢
 obtain ⟨_, _, _, _, _⟩ := (K0.blk (g := w.heap.size) (by repeat constructor)).two
 obtain ⟨_, _, _, _, _⟩ := (K0.blk (g := w.heap.size + 1) (by repeat constructor)).two
 go_region_held3 (fun w' => w'.cell? ⟨w.heap.size, 0, none⟩ = some (.bool neg) ∧ w'.cell? ⟨w.heap.size, 1, none⟩ = some (.slice A n c) ∧ w'.cell? ⟨w.heap.size + 1, 0, none⟩ = some (.bool neg') ∧ w'.cell? ⟨w.heap.size + 1, 1, none⟩ = some (.slice A' n' c'))
  (go_keep)
  (first
   | (go_at_call 174; apply Calls.withMm (w0 := w); (case K => with_reducible repeat (first | exact K0 | apply Mm.drew | apply Mm.drewN)); intro KX; (with_reducible refine (ex_sign_any neg A n c x _ ?_).mono ?_); (with_reducible exact KX.at_ (by simp)); rintro e1 w1 ⟨rfl, hb1⟩; (with_reducible have K1 := (KX.next hb1)); have Q1x := (K1.blk (g := w.heap.size) (by repeat constructor)).two; obtain ⟨qa1x, qb1x, qc1x, qd1x, qe1x⟩ := Q1x; have Q1y := (K1.blk (g := w.heap.size + 1) (by repeat constructor)).two; obtain ⟨qa1y, qb1y, qc1y, qd1y, qe1y⟩ := Q1y; clear KX hb1)
   | (go_at_call 174; apply Calls.withMm (w0 := w); (case K => with_reducible repeat (first | exact K1 | apply Mm.drew | apply Mm.drewN)); intro KX; (with_reducible refine (ex_sign_any neg' A' n' c' y _ ?_).mono ?_); (with_reducible exact KX.at_ (by simp)); rintro e2 w2 ⟨rfl, hb2⟩; (with_reducible have K2 := (KX.next hb2)); have Q2x := (K2.blk (g := w.heap.size) (by repeat constructor)).two; obtain ⟨qa2x, qb2x, qc2x, qd2x, qe2x⟩ := Q2x; have Q2y := (K2.blk (g := w.heap.size + 1) (by repeat constructor)).two; obtain ⟨qa2y, qb2y, qc2y, qd2y, qe2y⟩ := Q2y; clear KX hb2))
 by_cases hs : x.sign = y.sign
 ·have h1 : (x.sign != y.sign) = false := by rw [hs]; simp
  have HS := Lib.hid hs
  clear hs
  obtain ⟨a, ha, ca, na, hxe⟩ := (K2.at_ (neg := neg) (A := A) (n := n) (c := c) (z := x) (by simp))
  obtain ⟨b, hb, cb, nb, hye⟩ := (K2.at_ (neg := neg') (A := A') (n := n') (c := c') (z := y) (by simp))
  have HXE := Lib.hid hxe
  have HYE := Lib.hid hye
  clear na nb hxe hye
  go_wp2_with fail
  refine (ex_size_any A A' n c n' c' a b _ ha hb ca cb hn hn').mono ?_
  rintro e3 w3 ⟨v, rfl, hv1, hv2, hv3, hv4, k3, rfl⟩
  have HV := Lib.hid (And.intro hv1 hv2)
  clear hv1 hv2
  go_wp2_with fail
  ·have hn0 : neg = true := by assumption
   have E := Lib.hid (icmp_clamp HS.out HXE.out HYE.out HX.out HY.out HV.out)
   go_ret
   exact ⟨by rw [E.out.2 hn0]; rfl, below_drewN K2.1 _⟩
  ·have hn0 : neg = false := by assumption
   have E := Lib.hid (icmp_clamp HS.out HXE.out HYE.out HX.out HY.out HV.out)
   go_ret
   exact ⟨by rw [E.out.1 hn0]; rfl, below_drewN K2.1 _⟩
 ·have h1 : (x.sign != y.sign) = true := by simpa using hs
  by_cases hl : x.sign < y.sign
  ·have E : Hid (icmp x y = -1) := Lib.hid (HC.out.1 (sign_lt hl))
   go_wp2_with fail
   go_ret
   exact ⟨by rw [E.out]; rfl, K2.1⟩
  ·have E : Hid (icmp x y = 1) := Lib.hid (HC.out.2.1 (sign_lt (by omega)))
   go_wp2_with fail
   go_ret
   exact ⟨by rw [E.out]; rfl, K2.1⟩
end Go.Proofs.YtgekmbfmfiikkaaGreatDoor
namespace Go.Proofs.YtgekmbfmfiikkaaGreatDoor
open Go.RowKit
theorem len32_of (x L : Nat) (w : World) (h : x < 4294967296) (hL : Hid (bitLen x = L)) : Calls Tryz.prog 269 #[.int .u32 (x : Int)] w fun e w' => e = .returned (.int .i64 (L : Int)) ∧ w = w' := by
 have c := Tryz.bits_Len32 (x : Int) w (by omega) (by omega)
 rw [Int.toNat_natCast, lib_bitLen (by omega), hL.out] at c
 exact c.mono fun _ _ ⟨h1, h2⟩ => ⟨h1, h2.symm⟩
theorem bitLen_32 {x : Nat} (h : x < 4294967296) : bitLen x ≤ 32 := by
 unfold bitLen
 split
 ·omega
 ·rename_i hh
  have := (Nat.log2_lt hh).2 (show x < 2 ^ 32 from h)
  omega
theorem ex_bits_of (neg : Bool) (A : Option Addr) (n c : Nat) (x : Int) (L : Nat) (w : World) (hx : IsInt w neg A n c x) (hn : n ≤ 100000000) (hL : Hid (bitLen x.natAbs = L)) :
  Calls Tryz.prog 216 #[.agg #[.bool neg, .slice A n c]] w (RetV w (.int .i64 (L : Int))) := by
 have K0 := ((Mm.nil w).int hx).var (g := w.heap.size) rfl [.bool neg, .slice A n c] 24
 obtain ⟨l, hl, cl, _, hxe⟩ := hx
 have habs : x.natAbs = Lm.lv l := by rw [hxe]; unfold sgnd; split <;> omega
 have HL : Hid (bitLen (Lm.lv l) = L) := Lib.hid (by rw [← habs]; exact hL.out)
 clear hxe habs
 have HLEN := Lib.hid hl.len
 by_cases h0 : n = 0
 ·subst h0
  have E : Hid (L = 0) := Lib.hid (by have : l = [] := List.eq_nil_of_length_eq_zero HLEN.out; rw [← HL.out, this]; rfl)
  go_enter Tryz.func216, Tryz.ntmps216
  go_wp2_with fail
  go_ret
  exact ⟨by rw [E.out]; rfl, K0.1⟩
 ·have hl1 := hl.alloc (.cells #[.bool neg, .slice A n c] 24)
  obtain ⟨ad, rfl, hb, hlt, hc, hxl⟩ := hl1.at_ (k := n - 1) (by omega)
  have hn1 : 1 ≤ n := by omega
  have hne : ((n : Int) == 0) = false := by rw [beq_eq_false_iff_ne]; omega
  clear h0 hl1
  have hT : Hid ((L : Int) = 32 * ((n : Int) - 1) + (bitLen l[n - 1] : Nat)) := Lib.hid (by
   have := bitLen_top hl.ok cl (by rw [HLEN.out]; omega)
   have e : l.length - 1 = n - 1 := by rw [HLEN.out]
   simp only [e] at this
   rw [← HL.out, this]
   omega)
  have hbl := bitLen_32 hxl
  obtain ⟨b, hbb⟩ : ∃ b, bitLen l[n - 1] = b := ⟨_, rfl⟩
  rw [hbb] at hbl hT
  have HB := Lib.hid hbb
  clear hbb
  go_enter Tryz.func216, Tryz.ntmps216
  go_wp2_with fail
  generalize w.alloc (.cells #[.bool neg, .slice (some ad) n c] 24) = w0 at K0 hc hb ⊢
  obtain ⟨_, _, _, _, _⟩ := (K0.blk (g := w.heap.size) (by repeat constructor)).two
  have hi0 : (0 : Int) ≤ (n : Int) - 1 := by omega
  have hi3 : (1 : Int) ≤ (n : Int) := by omega
  have hi4 : 0 < n := by omega
  have hi5 : (0 : Int) < (n : Int) := by omega
  have hi1 : (n : Int) - 1 < (n : Int) := by omega
  have hi2 : ((n : Int) - 1).toNat = n - 1 := by omega
  go_quiet ((go_at_call 269; exact Calls.quiet_of_same ((len32_of _ b _ hxl HB).mono (fun _ _ h => ⟨h.1, h.2.symm⟩))))
  go_wp2_with fail
  go_ret
  exact ⟨by rw [hT.out]; rfl, below_drewN K0.1 _⟩
/-! ### copies -/
def RetOwn (W : World) (l : List Nat) (e : Ending) (w' : World) : Prop :=
 ∃ A n c, e = .returned (.slice A n c) ∧ w'.ownsRow W.heap.size 164 1 (.slice A n c) n (u32s l) ∧ n ≤ c ∧ Below W.heap.size W w'
theorem u32s_len (l : List Nat) : (u32s l).length = l.length := by unfold u32s; simp
theorem ex_clone_any (A : Option Addr) (n c : Nat) (l : List Nat) (w : World) (h : Sl w A n c l) (hn : n ≤ 1000000000) :
  Calls Tryz.prog 272 #[.slice A n c] w (RetOwn w l) := by
 obtain ⟨i0, hi, hz0, hz1, hz2⟩ := info_parts info_u32
 have heq := fun w => Lib.run_eql_slice_nil (P := Tryz.prog) w 22 164 A n c 0 0 Tryz.underlying22
 have hlen := h.len
 have hcap := h.cap
 cases A with
 | none =>
  have hn0 : n = 0 := by
   rcases Nat.eq_zero_or_pos n with h0 | h0
   ·exact h0
   ·obtain ⟨ad, e, _⟩ := h.1.2 h0
    cases e
  subst hn0
  have hl0 : l = [] := List.eq_nil_of_length_eq_zero hlen
  subst hl0
  go_enter Tryz.func272, Tryz.ntmps272
  go_wp2_with fail
  go_ret
  exact ⟨none, 0, 0, rfl, World.ownsRow_nil _ _ _ _, Nat.le_refl _, Below.refl _ _⟩
 | some ad =>
  have hown0 : (w.alloc (.cells #[] 164)).ownsRow w.heap.size 164 1 (.slice (some ⟨w.heap.size, 0, none⟩) 0 0) 0 [] := World.ownsRow_lit w #[] 0 (Nat.le_refl _) (by decide) rfl
  have h1 := h.alloc (.cells #[] 164)
  go_enter Tryz.func272, Tryz.ntmps272
  go_wp2_with (at_builtin; refine wpList_append_any _ rfl _ _ 22 rfl w.heap.size 164 i0 (.int .u32 0) 4 Tryz.underlying22 hi hz0 hz1 hz2 rfl _ 0 [] rfl hown0 _ (some ad) n c (u32s l) rfl h1.1 (u32s_one l) ?d1 ?d2 ?d3 ?_)
  case d1 => unfold maxLen; omega
  case d2 => omega
  case d3 => simp
  intro v' w2 hown2 hgrow2 hv2
  have hb2 : Below w.heap.size w w2 := ((Below.refl _ _).alloc (Nat.le_refl _) _).grown hgrow2 (by simp) (own_ge hown0)
  obtain ⟨A2, c2, rfl, hc2⟩ := own_form hown2
  go_wp2_with fail
  go_ret
  exact ⟨A2, n, c2, rfl, hown2, hc2, hb2⟩
theorem ex_own_any (neg : Bool) (A : Option Addr) (n c : Nat) (l : List Nat) (w : World) (h : Sl w A n c l) (hn : n ≤ 1000000000) :
  Calls Tryz.prog 271 #[.bool neg, .slice A n c] w (RetInt w (sgnd neg (Lm.lv l))) := by
 have h1 := h.alloc (.cells #[.bool false, .slice none 0 0] 24)
 go_enter Tryz.func271, Tryz.ntmps271
 go_wp2_with fail
 refine (ex_clone_any A n c l _ h1 hn).mono ?_
 rintro e1 w1 ⟨A1, n1, c1, rfl, hown, hc1, hb1⟩
 have hs1 : Sl w1 A1 n1 c1 l := Sl.of_own hown hc1 h.ok
 have hn1 : n1 ≤ 1000000000 := by have := hs1.len; have := h.len; omega
 obtain ⟨bc1, bf1⟩ := bcell hb1
 have hz1 : w.heap.size < w1.heap.size := by have := hb1.size; simp at this; omega
 clear hown
 go_wp2_with fail
 refine (ex_signed_any neg A1 n1 c1 l _ hs1 (by omega)).mono ?_
 rintro e2 w2 ⟨neg2, A2, n2, c2, rfl, hI2, hb2⟩
 obtain ⟨bc2, bf2⟩ := bcell hb2
 have r1 := (bc2 w.heap.size 0 hz1).trans (bc1 w.heap.size 0 (by simp))
 have r2 := (bc2 w.heap.size 1 hz1).trans (bc1 w.heap.size 1 (by simp))
 have r3 := (bf2 w.heap.size 0 hz1).trans (bf1 w.heap.size 0 (by simp))
 have r4 := (bf2 w.heap.size 1 hz1).trans (bf1 w.heap.size 1 (by simp))
 clear bc1 bf1 bc2 bf2
 go_wp2_with fail
 exact bodyPost_ret (v := .agg #[.bool neg2, .slice A2 n2 c2]) (by simp [results, Tryz.results271, go_sem, r1, r2]) rfl
  ⟨neg2, A2, n2, c2, rfl, isInt_result (b0 := false) (a0 := none) (n0 := 0) (c0 := 0) hI2 (r1.trans (by simp [go_sem])) (r2.trans (by simp [go_sem])) _ _, below_result (below_next (below_box hb1) hb2) (Nat.le_refl _) _ _⟩
end Go.Proofs.YtgekmbfmfiikkaaGreatDoor
namespace Go.Proofs.YtgekmbfmfiikkaaGreatDoor
open Go.RowKit
theorem take_set_snoc {l : List Nat} {k : Nat} (d : Nat) (h : k < l.length) : (l.set k d).take (k + 1) = l.take k ++ [d] := by
 rw [List.take_succ_eq_append_getElem (by rw [List.length_set]; exact h), List.take_set_of_le (Nat.le_refl _), List.getElem_set_self]
theorem take_len {l : List Nat} {k : Nat} (h : k ≤ l.length) : (l.take k).length = k := by rw [List.length_take]; omega
theorem ey_add32 (x y q : Nat) (w : World) (hx : x < 4294967296) (hy : y < 4294967296) (hq : q ≤ 1) :
  Calls Tryz.prog 339 #[.int .u32 x, .int .u32 y, .int .u32 q] w fun e w' => e = .returned (.tuple #[.int .u32 (((q + x + y) % 4294967296 : Nat) : Int), .int .u32 (((q + x + y) / 4294967296 : Nat) : Int)]) ∧ w = w' := by
 have s1 : IntKind.u64.wrap ((x : Int) + (y : Int)) = (x : Int) + (y : Int) := IntWalk.u64_in _ (by omega)
 have s2 : IntKind.u64.wrap ((x : Int) + (y : Int) + (q : Int)) = (x : Int) + (y : Int) + (q : Int) := IntWalk.u64_in _ (by omega)
 have S3 : Hid (((x : Int) + (y : Int) + (q : Int)) % 4294967296 = (((q + x + y) % 4294967296 : Nat) : Int)) := Lib.hid (by omega)
 have S4 : Hid (((x : Int) + (y : Int) + (q : Int)) / 4294967296 = (((q + x + y) / 4294967296 : Nat) : Int)) := Lib.hid (by omega)
 go_enter Tryz.func339, Tryz.ntmps339
 go_wp2_with fail
 go_ret2
 rw [S3.out, S4.out]
 exact ⟨rfl, rfl⟩
end Go.Proofs.YtgekmbfmfiikkaaGreatDoor
namespace Go.Proofs.YtgekmbfmfiikkaaGreatDoor
open Go.RowKit
theorem bits_and32 (a b : Nat) (ha : a < 4294967296) (hb : b < 4294967296) : bits .and .u32 (a : Int) (b : Int) = ((a &&& b : Nat) : Int) :=
 (bits_nat .u32 32 (by decide) (fun n h0 h1 => IntWalk.u32_in _ (by omega)) a b ha hb).1
theorem bits_or32 (a b : Nat) (ha : a < 4294967296) (hb : b < 4294967296) : bits .or .u32 (a : Int) (b : Int) = ((a ||| b : Nat) : Int) :=
 (bits_nat .u32 32 (by decide) (fun n h0 h1 => IntWalk.u32_in _ (by omega)) a b ha hb).2
theorem bits_xor32 (a b : Nat) (ha : a < 4294967296) (hb : b < 4294967296) : bits .xor .u32 (a : Int) (b : Int) = ((a ^^^ b : Nat) : Int) := by
 have ha' : a % 2 ^ 32 = a := Nat.mod_eq_of_lt ha
 have hb' : b % 2 ^ 32 = b := Nat.mod_eq_of_lt hb
 have hx : a ^^^ b < 2 ^ 32 := Nat.xor_lt_two_pow ha hb
 have h32 : IntKind.u32.bits = 32 := rfl
 simp only [bits, h32, BitVec.ofInt_natCast, BitVec.toNat_xor, BitVec.toNat_ofNat, ha', hb']
 exact IntWalk.u32_in _ (by omega)
theorem bit31 {n : Nat} (h : n < 4294967296) : n / 2147483648 = if n.testBit 31 then 1 else 0 := by
 rw [Nat.testBit_eq_decide_div_mod_eq]
 split <;> rename_i h1 <;> simp at h1 <;> omega
theorem bit31' {n : Nat} (h : n < 4294967296) : n.testBit 31 = decide (2147483648 ≤ n) := by
 rw [Nat.testBit_eq_decide_div_mod_eq]
 by_cases h1 : 2147483648 ≤ n
 ·rw [decide_eq_true h1, decide_eq_true_eq]; omega
 ·rw [decide_eq_false h1, decide_eq_false_iff_not]; omega
theorem borrow {x y q d : Nat} (hx : x < 4294967296) (hy : y < 4294967296) (hq : q ≤ 1) (hd : d < 4294967296) (r : Nat) (hr : d + (q + y) = x + 4294967296 * r) :
  (((4294967295 ^^^ x) &&& y) ||| ((4294967295 ^^^ (x ^^^ y)) &&& d)) / 2147483648 = r := by
 have hA : (4294967295 ^^^ x) &&& y < 4294967296 := Nat.and_lt_two_pow (n := 32) _ hy
 have hB : (4294967295 ^^^ (x ^^^ y)) &&& d < 4294967296 := Nat.and_lt_two_pow (n := 32) _ hd
 have h31 : (4294967295 : Nat).testBit 31 = true := by decide
 rw [bit31 (Nat.or_lt_two_pow (n := 32) hA hB), Nat.testBit_or, Nat.testBit_and, Nat.testBit_and, Nat.testBit_xor, Nat.testBit_xor, Nat.testBit_xor, h31, bit31' hx, bit31' hy, bit31' hd]
 by_cases h1 : 2147483648 ≤ x <;> by_cases h2 : 2147483648 ≤ y <;> by_cases h3 : 2147483648 ≤ d <;> simp [h1, h2, h3] <;> omega
theorem borrow_bits {x y q d : Nat} (hx : x < 4294967296) (hy : y < 4294967296) (hq : q ≤ 1) (hd : d < 4294967296) (r : Nat) (hr : d + (q + y) = x + 4294967296 * r) :
  bits .or .u32 (bits .and .u32 (bits .xor .u32 IntKind.u32.max (x : Int)) (y : Int)) (bits .and .u32 (bits .xor .u32 IntKind.u32.max (bits .xor .u32 (x : Int) (y : Int))) (d : Int)) / 2147483648 = (r : Int) := by
 have hm : IntKind.u32.max = ((4294967295 : Nat) : Int) := rfl
 have hxy : x ^^^ y < 4294967296 := Nat.xor_lt_two_pow (n := 32) hx hy
 have h1 : 4294967295 ^^^ x < 4294967296 := Nat.xor_lt_two_pow (n := 32) (by decide) hx
 have h2 : 4294967295 ^^^ (x ^^^ y) < 4294967296 := Nat.xor_lt_two_pow (n := 32) (by decide) hxy
 have hA : (4294967295 ^^^ x) &&& y < 4294967296 := Nat.and_lt_two_pow (n := 32) _ hy
 have hB : (4294967295 ^^^ (x ^^^ y)) &&& d < 4294967296 := Nat.and_lt_two_pow (n := 32) _ hd
 rw [hm, bits_xor32 x y hx hy, bits_xor32 _ x (by decide) hx, bits_xor32 _ _ (by decide) hxy, bits_and32 _ _ h1 hy, bits_and32 _ _ h2 hd, bits_or32 _ _ hA hB]
 have := borrow hx hy hq hd r hr
 omega
theorem sub32_val (x y q : Nat) (hx : x < 4294967296) (hy : y < 4294967296) (hq : q ≤ 1) : ∃ d r, d < 4294967296 ∧ r ≤ 1 ∧ d + (q + y) = x + 4294967296 * r ∧ ((x : Int) - y - q) % 4294967296 = (d : Int) := by
 by_cases h : x < q + y
 ·exact ⟨x + 4294967296 - (q + y), 1, by omega, by omega, by omega, by omega⟩
 ·exact ⟨x - (q + y), 0, by omega, by omega, by omega, by omega⟩
theorem sub32_any (x y q d r : Nat) (w : World) (hx : x < 4294967296) (hy : y < 4294967296) (hq : q ≤ 1) (hd : d < 4294967296) (hr : d + (q + y) = x + 4294967296 * r) :
  Calls Tryz.prog 341 #[.int .u32 x, .int .u32 y, .int .u32 q] w fun e w' => e = .returned (.tuple #[.int .u32 (d : Int), .int .u32 (r : Int)]) ∧ w = w' := by
 have hu : IntKind.u32.signed = false := rfl
 have HD : Hid (((x : Int) - (y : Int) - (q : Int)) % 4294967296 = (d : Int)) := Lib.hid (by omega)
 have HD2 : Hid ((((x : Int) - (y : Int)) % 4294967296 - (q : Int)) % 4294967296 = (d : Int)) := Lib.hid (by omega)
 have HB := Lib.hid (borrow_bits hx hy hq hd r hr)
 go_enter Tryz.func341, Tryz.ntmps341
 go_wp2_with fail
 all_goals
  go_ret2
  simp only [HD.out, HD2.out, HB.out]
  exact ⟨rfl, trivial⟩
end Go.Proofs.YtgekmbfmfiikkaaGreatDoor
