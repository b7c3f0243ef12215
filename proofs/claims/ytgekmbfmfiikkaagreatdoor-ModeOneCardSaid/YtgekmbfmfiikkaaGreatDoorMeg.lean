/-
  May a fraction be? (ratio.Check, polestarref02.Check)
  May all of these fractions be? (ratio.Checks)
  A walk's memory: blocks of eight and of sixteen cells; complex numbers of two fractions.
-/
import Derived.Test.YtgekmbfmfiikkaaGreatDoorRaL
import Derived.Test.YtgekmbfmfiikkaaGreatDoorRefW
import Derived.Test.YtgekmbfmfiikkaaGreatDoorEyB
set_option maxHeartbeats 3200000
set_option maxRecDepth 100000
namespace Go.Proofs.YtgekmbfmfiikkaaGreatDoor
open Go.RowKit
def okFr (neg : Bool) (l : List Nat) (neg' : Bool) (l' : List Nat) : Prop := okInt neg l ∧ okInt neg' l' ∧ 0 < sgnd neg' (Lm.lv l') ∧ Nat.gcd (Lm.lv l) (Lm.lv l') = 1
open Classical in
noncomputable def chkFr (neg : Bool) (l : List Nat) (neg' : Bool) (l' : List Nat) : Int := if okFr neg l neg' l' then 0 else 1
theorem chkFr_ok {neg : Bool} {l : List Nat} {neg' : Bool} {l' : List Nat} (h : okFr neg l neg' l') : chkFr neg l neg' l' = 0 := by unfold chkFr; rw [if_pos h]
theorem chkFr_no {neg : Bool} {l : List Nat} {neg' : Bool} {l' : List Nat} (h : ¬ okFr neg l neg' l') : chkFr neg l neg' l' = 1 := by unfold chkFr; rw [if_neg h]
theorem sgnd_abs (s : Bool) (a : Nat) : (sgnd s a).natAbs = a := by unfold sgnd; cases s <;> simp
theorem sign_pos {z : Int} (h : 0 < z) : z.sign = 1 := Int.sign_eq_one_of_pos h
theorem sign_not_pos {z : Int} (h : ¬ 0 < z) : z.sign = 0 ∨ z.sign = -1 := by
 rcases Int.lt_trichotomy z 0 with k | k | k
 ·exact .inr (Int.sign_eq_neg_one_of_neg k)
 ·subst k; exact .inl rfl
 ·exact absurd k h
theorem ratio_check (neg neg' : Bool) (A A' : Option Addr) (n c n' c' : Nat) (l l' : List Nat) (w : World) (ha : Sl w A n c l) (hb : Sl w A' n' c' l') (hn : n ≤ 1000000000) (hn' : n' ≤ 1000000000) :
  Calls Tryz.prog 257 #[.agg #[.bool neg, .slice A n c, .bool neg', .slice A' n' c']] w (RetV w (.int .i64 (chkFr neg l neg' l'))) := by
 have K0 := (Mm.nil w).var (g := w.heap.size) rfl [.bool neg, .slice A n c, .bool neg', .slice A' n' c'] 26
 have ha0 := ha.below K0.1
 have hb0 := hb.below K0.1
 by_cases k1 : okInt neg l
 ·have E1 : Hid (chk neg l = 0) := Lib.hid (chk_ok k1)
  by_cases k2 : okInt neg' l'
  ·have E2 : Hid (chk neg' l' = 0) := Lib.hid (chk_ok k2)
   have HI1 : IsInt w neg A n c (sgnd neg (Lm.lv l)) := ⟨l, ha, k1.2.1, k1.2.2, rfl⟩
   have HI2 : IsInt w neg' A' n' c' (sgnd neg' (Lm.lv l')) := ⟨l', hb, k2.2.1, k2.2.2, rfl⟩
   have hl1 : n ≤ 2048 := by have := k1.1; have := ha.len; omega
   have hl2 : n' ≤ 2048 := by have := k2.1; have := hb.len; omega
   by_cases k3 : 0 < sgnd neg' (Lm.lv l')
   ·have E3 : Hid ((sgnd neg' (Lm.lv l')).sign = 1) := Lib.hid (sign_pos k3)
    obtain ⟨G, hG⟩ : ∃ G, Nat.gcd (Lm.lv l) (Lm.lv l') = G := ⟨_, rfl⟩
    have HG : Hid (Nat.gcd (sgnd neg (Lm.lv l)).natAbs (sgnd neg' (Lm.lv l')).natAbs = G) := Lib.hid (by rw [sgnd_abs, sgnd_abs]; exact hG)
    have HGB : Hid ((G : Int).natAbs < 2 ^ (32 * n')) := Lib.hid (by
     have hp : 0 < Lm.lv l' := by
      unfold sgnd at k3
      split at k3 <;> omega
     have h1 : G ≤ Lm.lv l' := by rw [← hG]; exact Nat.le_of_dvd hp (Nat.gcd_dvd_right _ _)
     have h2 := Lm.lv_lt hb.ok
     rw [hb.len, show Lm.B ^ n' = 2 ^ (32 * n') by rw [Nat.pow_mul]] at h2
     rw [Int.natAbs_natCast]
     omega)
    have HC : Hid (chkFr neg l neg' l' = if G = 1 then 0 else 1) := Lib.hid (by
     by_cases hg : G = 1
     ·rw [if_pos hg]; exact chkFr_ok ⟨k1, k2, k3, by rw [hG, hg]⟩
     ·rw [if_neg hg]; exact chkFr_no (fun h => hg (by rw [← hG]; exact h.2.2.2)))
    have K0 := (((Mm.nil w).int HI1).int HI2).var (g := w.heap.size) rfl [.bool neg, .slice A n c, .bool neg', .slice A' n' c'] 26
    clear k1 k2 k3 hG HI1 HI2 ha hb
    go_enter Tryz.func257, Tryz.ntmps257
    go_wp2_with fail
    refine (ex_check_sl neg A n c l _ ha0 hn).mono ?_
    rintro e1 w1 ⟨rfl, hb1⟩
    rw [E1.out]
    have K1 := (K0.next hb1)
    have ha1 := ha0.below hb1
    have hb1' := hb0.below hb1
    obtain ⟨⟨qa1, qb1, qc1, qd1⟩, ⟨qe1, qf1, qg1, qh1⟩, qi1⟩ := (K1.blk (g := w.heap.size) (by repeat constructor)).four
    go_wp2_with fail
    refine (ex_check_sl neg' A' n' c' l' _ hb1' hn').mono ?_
    rintro e2 w2 ⟨rfl, hb2⟩
    rw [E2.out]
    have K2 := (K1.next hb2)
    have ha2 := ha1.below hb2
    have hb2' := hb1'.below hb2
    obtain ⟨⟨qa2, qb2, qc2, qd2⟩, ⟨qe2, qf2, qg2, qh2⟩, qi2⟩ := (K2.blk (g := w.heap.size) (by repeat constructor)).four
    go_wp2_with fail
    refine (ex_sign_any neg' A' n' c' _ _ (K2.at_ (neg := neg') (A := A') (n := n') (c := c') (z := sgnd neg' (Lm.lv l')) (by simp))).mono ?_
    rintro e3 w3 ⟨rfl, hb3⟩
    rw [E3.out]
    have K3 := (K2.next hb3)
    have ha3 := ha2.below hb3
    have hb3' := hb2'.below hb3
    obtain ⟨⟨qa3, qb3, qc3, qd3⟩, ⟨qe3, qf3, qg3, qh3⟩, qi3⟩ := (K3.blk (g := w.heap.size) (by repeat constructor)).four
    go_wp2_with fail
    refine (ex_Common_any neg neg' A A' n c n' c' _ _ G _ (K3.at_ (neg := neg) (A := A) (n := n) (c := c) (z := sgnd neg (Lm.lv l)) (by simp)) (K3.at_ (neg := neg') (A := A') (n := n') (c := c') (z := sgnd neg' (Lm.lv l')) (by simp)) (by omega) (by omega) HG).mono ?_
    rintro e4 w4 ⟨ng, Ag, m4, c4, rfl, I4, hb4⟩
    have hm4 : m4 ≤ n' := int_len I4 HGB.out
    have K4 := (K3.next hb4).int I4
    clear I4
    go_wp2_with fail
    refine (ex_of_any 1 _ (by decide)).mono ?_
    rintro e5 w5 ⟨no, Ao, m5, c5, rfl, I5, hb5⟩
    have hm5 : m5 ≤ 1 := int_len I5 (by decide)
    have K5 := (K4.next hb5).int I5
    clear I5
    go_wp2_with fail
    refine (ex_cmp_int ng no Ag Ao m4 c4 m5 c5 (G : Int) 1 _ (K5.at_ (by simp)) (K5.at_ (by simp)) (by omega) (by omega)).mono ?_
    rintro e6 w6 ⟨rfl, hb6⟩
    have K6 := K5.next hb6
    by_cases hg : G = 1
    ·have E6 : Hid (icmp (G : Int) 1 = 0) := Lib.hid (by rw [hg]; rfl)
     rw [E6.out]
     rw [if_pos hg] at HC
     clear hg
     go_wp2_with fail
     go_ret
     exact ⟨by rw [HC.out]; rfl, K6.1⟩
    ·obtain ⟨v, hv⟩ : ∃ v, icmp (G : Int) 1 = v := ⟨_, rfl⟩
     have hv0 : (v != 0) = true := by
      rw [← hv]; unfold icmp
      split
      ·rfl
      ·rw [if_pos (by omega)]; rfl
     rw [hv]
     rw [if_neg hg] at HC
     clear hg hv
     go_wp2_with fail
     go_ret
     exact ⟨by rw [HC.out]; rfl, K6.1⟩
   ·obtain ⟨S, hS⟩ : ∃ S, (sgnd neg' (Lm.lv l')).sign = S := ⟨_, rfl⟩
    have hS0 : S ≤ 0 := by rw [← hS]; rcases sign_not_pos k3 with h | h <;> omega
    have E3 := Lib.hid hS
    have HC := Lib.hid (chkFr_no (neg := neg) (l := l) (neg' := neg') (l' := l') (fun h => k3 h.2.2.1))
    have K0 := (((Mm.nil w).int HI1).int HI2).var (g := w.heap.size) rfl [.bool neg, .slice A n c, .bool neg', .slice A' n' c'] 26
    clear k1 k2 k3 hS HI1 HI2 ha hb
    go_enter Tryz.func257, Tryz.ntmps257
    go_wp2_with fail
    refine (ex_check_sl neg A n c l _ ha0 hn).mono ?_
    rintro e1 w1 ⟨rfl, hb1⟩
    rw [E1.out]
    have K1 := (K0.next hb1)
    have ha1 := ha0.below hb1
    have hb1' := hb0.below hb1
    obtain ⟨⟨qa1, qb1, qc1, qd1⟩, ⟨qe1, qf1, qg1, qh1⟩, qi1⟩ := (K1.blk (g := w.heap.size) (by repeat constructor)).four
    go_wp2_with fail
    refine (ex_check_sl neg' A' n' c' l' _ hb1' hn').mono ?_
    rintro e2 w2 ⟨rfl, hb2⟩
    rw [E2.out]
    have K2 := (K1.next hb2)
    have ha2 := ha1.below hb2
    have hb2' := hb1'.below hb2
    obtain ⟨⟨qa2, qb2, qc2, qd2⟩, ⟨qe2, qf2, qg2, qh2⟩, qi2⟩ := (K2.blk (g := w.heap.size) (by repeat constructor)).four
    go_wp2_with fail
    refine (ex_sign_any neg' A' n' c' _ _ (K2.at_ (neg := neg') (A := A') (n := n') (c := c') (z := sgnd neg' (Lm.lv l')) (by simp))).mono ?_
    rintro e3 w3 ⟨rfl, hb3⟩
    rw [E3.out]
    have K3 := (K2.next hb3)
    have ha3 := ha2.below hb3
    have hb3' := hb2'.below hb3
    obtain ⟨⟨qa3, qb3, qc3, qd3⟩, ⟨qe3, qf3, qg3, qh3⟩, qi3⟩ := (K3.blk (g := w.heap.size) (by repeat constructor)).four
    go_wp2_with fail
    go_ret
    exact ⟨by rw [HC.out]; rfl, K3.1⟩
  ·have E2 : Hid (chk neg' l' = 1) := Lib.hid (chk_no k2)
   have HC := Lib.hid (chkFr_no (neg := neg) (l := l) (neg' := neg') (l' := l') (fun h => k2 h.2.1))
   clear k1 k2 ha hb
   go_enter Tryz.func257, Tryz.ntmps257
   go_wp2_with fail
   refine (ex_check_sl neg A n c l _ ha0 hn).mono ?_
   rintro e1 w1 ⟨rfl, hb1⟩
   rw [E1.out]
   have K1 := (K0.next hb1)
   have ha1 := ha0.below hb1
   have hb1' := hb0.below hb1
   obtain ⟨⟨qa1, qb1, qc1, qd1⟩, ⟨qe1, qf1, qg1, qh1⟩, qi1⟩ := (K1.blk (g := w.heap.size) (by repeat constructor)).four
   go_wp2_with fail
   refine (ex_check_sl neg' A' n' c' l' _ hb1' hn').mono ?_
   rintro e2 w2 ⟨rfl, hb2⟩
   rw [E2.out]
   have K2 := (K1.next hb2)
   have ha2 := ha1.below hb2
   have hb2' := hb1'.below hb2
   obtain ⟨⟨qa2, qb2, qc2, qd2⟩, ⟨qe2, qf2, qg2, qh2⟩, qi2⟩ := (K2.blk (g := w.heap.size) (by repeat constructor)).four
   go_wp2_with fail
   go_ret
   exact ⟨by rw [HC.out]; rfl, K2.1⟩
 ·have E1 : Hid (chk neg l = 1) := Lib.hid (chk_no k1)
  have HC := Lib.hid (chkFr_no (neg := neg) (l := l) (neg' := neg') (l' := l') (fun h => k1 h.1))
  clear k1 ha hb
  go_enter Tryz.func257, Tryz.ntmps257
  go_wp2_with fail
  refine (ex_check_sl neg A n c l _ ha0 hn).mono ?_
  rintro e1 w1 ⟨rfl, hb1⟩
  rw [E1.out]
  have K1 := (K0.next hb1)
  have ha1 := ha0.below hb1
  have hb1' := hb0.below hb1
  obtain ⟨⟨qa1, qb1, qc1, qd1⟩, ⟨qe1, qf1, qg1, qh1⟩, qi1⟩ := (K1.blk (g := w.heap.size) (by repeat constructor)).four
  go_wp2_with fail
  go_ret
  exact ⟨by rw [HC.out]; rfl, K1.1⟩
end Go.Proofs.YtgekmbfmfiikkaaGreatDoor
namespace Go.Proofs.YtgekmbfmfiikkaaGreatDoor
open Go.RowKit
abbrev LmE := (Bool × Option Addr × Nat × Nat × List Nat) × (Bool × Option Addr × Nat × Nat × List Nat)
def LmE.at_ (wr : World) (f : LmE) : Prop := Sl wr f.1.2.1 f.1.2.2.1 f.1.2.2.2.1 f.1.2.2.2.2 ∧ Sl wr f.2.2.1 f.2.2.2.1 f.2.2.2.2.1 f.2.2.2.2.2 ∧ f.1.2.2.1 ≤ 1000000000 ∧ f.2.2.2.1 ≤ 1000000000
theorem LmE.at_.below {w w' : World} {f : LmE} (h : LmE.at_ w f) (hb : Below w.heap.size w w') : LmE.at_ w' f := ⟨h.1.below hb, h.2.1.below hb, h.2.2⟩
def LmE.vs (f : LmE) : List Value := [.bool f.1.1, .slice f.1.2.1 f.1.2.2.1 f.1.2.2.2.1, .bool f.2.1, .slice f.2.2.1 f.2.2.2.1 f.2.2.2.2.1]
def Lfs (wr : World) (g N : Nat) (F : Nat → LmE) : Prop :=
 g < wr.heap.size ∧ ∀ i, i < N → (wr.cell? ⟨g, i * 4, none⟩ = some (.bool (F i).1.1) ∧ wr.cell? ⟨g, i * 4 + 1, none⟩ = some (.slice (F i).1.2.1 (F i).1.2.2.1 (F i).1.2.2.2.1) ∧
  wr.cell? ⟨g, i * 4 + 2, none⟩ = some (.bool (F i).2.1) ∧ wr.cell? ⟨g, i * 4 + 3, none⟩ = some (.slice (F i).2.2.1 (F i).2.2.2.1 (F i).2.2.2.2.1)) ∧ LmE.at_ wr (F i)
theorem Lfs.next {wr w' : World} {g N : Nat} {F : Nat → LmE} (h : Lfs wr g N F) (hb : Below wr.heap.size wr w') : Lfs w' g N F := by
 refine ⟨Nat.lt_of_lt_of_le h.1 hb.size, fun i hi => ?_⟩
 obtain ⟨⟨h0, h1, h2, h3⟩, h4⟩ := h.2 i hi
 obtain ⟨hc, _⟩ := bcell hb
 exact ⟨⟨(hc _ _ h.1).trans h0, (hc _ _ h.1).trans h1, (hc _ _ h.1).trans h2, (hc _ _ h.1).trans h3⟩, h4.below hb⟩
open Classical in
noncomputable def okB (f : LmE) : Bool := decide (okFr f.1.1 f.1.2.2.2.2 f.2.1 f.2.2.2.2.2)
open Classical in
theorem okB_iff (f : LmE) : okB f = true ↔ okFr f.1.1 f.1.2.2.2.2 f.2.1 f.2.2.2.2.2 := by
 unfold okB
 exact decide_eq_true_iff
open Classical in
theorem okB_chk (f : LmE) : chkFr f.1.1 f.1.2.2.2.2 f.2.1 f.2.2.2.2.2 = if okB f then 0 else 1 := by
 unfold okB
 by_cases h : okFr f.1.1 f.1.2.2.2.2 f.2.1 f.2.2.2.2.2
 ·rw [chkFr_ok h, decide_eq_true h]; rfl
 ·rw [chkFr_no h, decide_eq_false h]; rfl
noncomputable def okAll (F : Nat → LmE) : Nat → Bool
 | 0 => true
 | n + 1 => okAll F n && okB (F n)
theorem okAll_no {F : Nat → LmE} {k N : Nat} (hk : k < N) (h : okB (F k) = false) : okAll F N = false := by
 induction N with
 | zero => omega
 | succ n ih =>
  unfold okAll
  rcases Nat.lt_or_ge k n with h1 | h1
  ·rw [ih h1]; rfl
  ·have : k = n := by omega
   subst this
   rw [h, Bool.and_false]
theorem rat_checks_any (g N c : Nat) (F : Nat → LmE) (w : World) (hL : Lfs w g N F) (hN : N ≤ 1000) (hc : N ≤ c) :
  Calls Tryz.prog 158 #[.slice (some ⟨g, 0, none⟩) N c] w (RetV w (.bool (okAll F N))) := by
 have hg := hL.1
 go_enter Tryz.func158, Tryz.ntmps158
 go_wp2_with fail
 go_loopw [7] (fun i wr => ∃ k : Nat, k ≤ N ∧ i = .int .i64 (k : Int) ∧ Hid (okAll F k = true) ∧ Below w.heap.size w wr) (fun i _ => N - (intOf i).toNat)
 case atStart => exact ⟨0, Nat.zero_le _, rfl, Lib.hid rfl, Below.refl _ _⟩
 case round =>
  obtain ⟨k, hk, rfl, HK, hb⟩ := hrel
  have hsz := hb.size
  by_cases hlt : k < N
  ·obtain ⟨hg1, hall⟩ := hL.next hb
   obtain ⟨⟨a0, a1, a2, a3⟩, hS, hS', hn, hn'⟩ := hall k hlt
   have HCk := Lib.hid (okB_chk (F k))
   have HOK : Hid (okAll F (k + 1) = (okAll F k && okB (F k))) := Lib.hid rfl
   have HNO : Hid (okB (F k) = false → okAll F N = false) := Lib.hid (okAll_no hlt)
   obtain ⟨f, hf⟩ : ∃ f, F k = f := ⟨_, rfl⟩
   rw [hf] at a0 a1 a2 a3 hS hS' hn hn' HCk HOK HNO
   obtain ⟨⟨neg, A, n, c1, l⟩, neg', A', n', c1', l'⟩ := f
   simp only at a0 a1 a2 a3 hS hS' hn hn' HCk
   have hlt' : (k : Int) < (N : Int) := by omega
   have hk0 : (0 : Int) ≤ (k : Int) := Int.natCast_nonneg _
   clear hall hf
   go_wp2_with fail
   refine (ratio_check neg neg' A A' n c1 n' c1' l l' _ (hS.alloc _) (hS'.alloc _) hn hn').mono ?_
   rintro e1 w1 ⟨rfl, hb1⟩
   obtain ⟨b, hob⟩ : ∃ b, okB ((neg, A, n, c1, l), (neg', A', n', c1', l')) = b := ⟨_, rfl⟩
   rw [hob] at HCk HOK HNO
   rw [HCk.out]
   clear hob
   cases b with
   | false =>
    have HF : Hid (okAll F N = false) := Lib.hid (HNO.out rfl)
    go_wp2_with fail
    go_ret
    exact ⟨by rw [HF.out]; rfl, (hb.trans (((Below.refl _ _).alloc (Nat.le_refl _) _).mono hsz)).trans (hb1.mono (by simp; omega))⟩
   | true =>
    go_wp2_with fail
    refine ⟨⟨k + 1, hlt, congrArg (Value.int .i64) (by omega), Lib.hid (by rw [HOK.out, HK.out]; rfl), (hb.trans (((Below.refl _ _).alloc (Nat.le_refl _) _).mono hsz)).trans (hb1.mono (by simp; omega))⟩, ?_⟩
    simp [intOf]
    omega
  ·obtain rfl : k = N := by omega
   have hnl : ¬ (k : Int) < (k : Int) := by omega
   go_wp2_with fail
   go_ret
   exact ⟨by rw [HK.out]; rfl, hb⟩
end Go.Proofs.YtgekmbfmfiikkaaGreatDoor
namespace Go.Proofs.YtgekmbfmfiikkaaGreatDoor
open Go.RowKit
theorem Blk.c8 {wr : World} {g : Nat} {a0 a1 a2 a3 a4 a5 a6 a7 : Value} (h : Blk wr g [a0, a1, a2, a3, a4, a5, a6, a7]) : wr.cell? ⟨g, 0, none⟩ = some a0 ∧ wr.cell? ⟨g, 1, none⟩ = some a1 ∧ wr.cell? ⟨g, 2, none⟩ = some a2 ∧ wr.cell? ⟨g, 3, none⟩ = some a3 ∧ wr.cell? ⟨g, 4, none⟩ = some a4 ∧ wr.cell? ⟨g, 5, none⟩ = some a5 ∧ wr.cell? ⟨g, 6, none⟩ = some a6 ∧ wr.cell? ⟨g, 7, none⟩ = some a7 :=
 ⟨(h.2 0 a0 rfl).1, (h.2 1 a1 rfl).1, (h.2 2 a2 rfl).1, (h.2 3 a3 rfl).1, (h.2 4 a4 rfl).1, (h.2 5 a5 rfl).1, (h.2 6 a6 rfl).1, (h.2 7 a7 rfl).1⟩
theorem Blk.f8 {wr : World} {g : Nat} {a0 a1 a2 a3 a4 a5 a6 a7 : Value} (h : Blk wr g [a0, a1, a2, a3, a4, a5, a6, a7]) : wr.frozen? ⟨g, 0, none⟩ = false ∧ wr.frozen? ⟨g, 1, none⟩ = false ∧ wr.frozen? ⟨g, 2, none⟩ = false ∧ wr.frozen? ⟨g, 3, none⟩ = false ∧ wr.frozen? ⟨g, 4, none⟩ = false ∧ wr.frozen? ⟨g, 5, none⟩ = false ∧ wr.frozen? ⟨g, 6, none⟩ = false ∧ wr.frozen? ⟨g, 7, none⟩ = false ∧ g < wr.heap.size :=
 ⟨(h.2 0 a0 rfl).2, (h.2 1 a1 rfl).2, (h.2 2 a2 rfl).2, (h.2 3 a3 rfl).2, (h.2 4 a4 rfl).2, (h.2 5 a5 rfl).2, (h.2 6 a6 rfl).2, (h.2 7 a7 rfl).2, h.1⟩
theorem Mm.set8 {w wr : World} {L : List (Nat × List Value)} {l : List IntAt} {g : Nat} {b0 b0' : Bool} {o0 o0' : Option Addr} {n0 c0 n0' c0' : Nat} {b1 b1' : Bool} {o1 o1' : Option Addr} {n1 c1 n1' c1' : Nat} (h : Mm w ((g, [.bool b0, .slice o0 n0 c0, .bool b0', .slice o0' n0' c0', .bool b1, .slice o1 n1 c1, .bool b1', .slice o1' n1' c1']) :: L) l wr) (hne : ∀ b ∈ L, g ≠ b.1) (s0 : Bool) (A0 : Option Addr) (p0 q0 : Nat) (z0 : Bool) (B0 : Option Addr) (m0 d0 : Nat) (s1 : Bool) (A1 : Option Addr) (p1 q1 : Nat) (z1 : Bool) (B1 : Option Addr) (m1 d1 : Nat) :
  Mm w ((g, [.bool s0, .slice A0 p0 q0, .bool z0, .slice B0 m0 d0, .bool s1, .slice A1 p1 q1, .bool z1, .slice B1 m1 d1]) :: L) l ((((((((wr.setCell ⟨g, 0, none⟩ (.bool s0)).setCell ⟨g, 1, none⟩ (.slice A0 p0 q0)).setCell ⟨g, 2, none⟩ (.bool z0)).setCell ⟨g, 3, none⟩ (.slice B0 m0 d0)).setCell ⟨g, 4, none⟩ (.bool s1)).setCell ⟨g, 5, none⟩ (.slice A1 p1 q1)).setCell ⟨g, 6, none⟩ (.bool z1)).setCell ⟨g, 7, none⟩ (.slice B1 m1 d1)) :=
 ((((((((h.set hne (.bool b0) (.bool s0) rfl (by simp)).set hne (.slice o0 n0 c0) (.slice A0 p0 q0) rfl (by simp)).set hne (.bool b0') (.bool z0) rfl (by simp)).set hne (.slice o0' n0' c0') (.slice B0 m0 d0) rfl (by simp)).set hne (.bool b1) (.bool s1) rfl (by simp)).set hne (.slice o1 n1 c1) (.slice A1 p1 q1) rfl (by simp)).set hne (.bool b1') (.bool z1) rfl (by simp)).set hne (.slice o1' n1' c1') (.slice B1 m1 d1) rfl (by simp))
theorem Blk.c16 {wr : World} {g : Nat} {a0 a1 a2 a3 a4 a5 a6 a7 a8 a9 b0 b1 b2 b3 b4 b5 : Value} (h : Blk wr g [a0, a1, a2, a3, a4, a5, a6, a7, a8, a9, b0, b1, b2, b3, b4, b5]) : wr.cell? ⟨g, 0, none⟩ = some a0 ∧ wr.cell? ⟨g, 1, none⟩ = some a1 ∧ wr.cell? ⟨g, 2, none⟩ = some a2 ∧ wr.cell? ⟨g, 3, none⟩ = some a3 ∧ wr.cell? ⟨g, 4, none⟩ = some a4 ∧ wr.cell? ⟨g, 5, none⟩ = some a5 ∧ wr.cell? ⟨g, 6, none⟩ = some a6 ∧ wr.cell? ⟨g, 7, none⟩ = some a7 ∧ wr.cell? ⟨g, 8, none⟩ = some a8 ∧ wr.cell? ⟨g, 9, none⟩ = some a9 ∧ wr.cell? ⟨g, 10, none⟩ = some b0 ∧ wr.cell? ⟨g, 11, none⟩ = some b1 ∧ wr.cell? ⟨g, 12, none⟩ = some b2 ∧ wr.cell? ⟨g, 13, none⟩ = some b3 ∧ wr.cell? ⟨g, 14, none⟩ = some b4 ∧ wr.cell? ⟨g, 15, none⟩ = some b5 :=
 ⟨(h.2 0 a0 rfl).1, (h.2 1 a1 rfl).1, (h.2 2 a2 rfl).1, (h.2 3 a3 rfl).1, (h.2 4 a4 rfl).1, (h.2 5 a5 rfl).1, (h.2 6 a6 rfl).1, (h.2 7 a7 rfl).1, (h.2 8 a8 rfl).1, (h.2 9 a9 rfl).1, (h.2 10 b0 rfl).1, (h.2 11 b1 rfl).1, (h.2 12 b2 rfl).1, (h.2 13 b3 rfl).1, (h.2 14 b4 rfl).1, (h.2 15 b5 rfl).1⟩
theorem Blk.f16 {wr : World} {g : Nat} {a0 a1 a2 a3 a4 a5 a6 a7 a8 a9 b0 b1 b2 b3 b4 b5 : Value} (h : Blk wr g [a0, a1, a2, a3, a4, a5, a6, a7, a8, a9, b0, b1, b2, b3, b4, b5]) : wr.frozen? ⟨g, 0, none⟩ = false ∧ wr.frozen? ⟨g, 1, none⟩ = false ∧ wr.frozen? ⟨g, 2, none⟩ = false ∧ wr.frozen? ⟨g, 3, none⟩ = false ∧ wr.frozen? ⟨g, 4, none⟩ = false ∧ wr.frozen? ⟨g, 5, none⟩ = false ∧ wr.frozen? ⟨g, 6, none⟩ = false ∧ wr.frozen? ⟨g, 7, none⟩ = false ∧ wr.frozen? ⟨g, 8, none⟩ = false ∧ wr.frozen? ⟨g, 9, none⟩ = false ∧ wr.frozen? ⟨g, 10, none⟩ = false ∧ wr.frozen? ⟨g, 11, none⟩ = false ∧ wr.frozen? ⟨g, 12, none⟩ = false ∧ wr.frozen? ⟨g, 13, none⟩ = false ∧ wr.frozen? ⟨g, 14, none⟩ = false ∧ wr.frozen? ⟨g, 15, none⟩ = false ∧ g < wr.heap.size :=
 ⟨(h.2 0 a0 rfl).2, (h.2 1 a1 rfl).2, (h.2 2 a2 rfl).2, (h.2 3 a3 rfl).2, (h.2 4 a4 rfl).2, (h.2 5 a5 rfl).2, (h.2 6 a6 rfl).2, (h.2 7 a7 rfl).2, (h.2 8 a8 rfl).2, (h.2 9 a9 rfl).2, (h.2 10 b0 rfl).2, (h.2 11 b1 rfl).2, (h.2 12 b2 rfl).2, (h.2 13 b3 rfl).2, (h.2 14 b4 rfl).2, (h.2 15 b5 rfl).2, h.1⟩
theorem Mm.set16 {w wr : World} {L : List (Nat × List Value)} {l : List IntAt} {g : Nat} {b0 b0' : Bool} {o0 o0' : Option Addr} {n0 c0 n0' c0' : Nat} {b1 b1' : Bool} {o1 o1' : Option Addr} {n1 c1 n1' c1' : Nat} {b2 b2' : Bool} {o2 o2' : Option Addr} {n2 c2 n2' c2' : Nat} {b3 b3' : Bool} {o3 o3' : Option Addr} {n3 c3 n3' c3' : Nat} (h : Mm w ((g, [.bool b0, .slice o0 n0 c0, .bool b0', .slice o0' n0' c0', .bool b1, .slice o1 n1 c1, .bool b1', .slice o1' n1' c1', .bool b2, .slice o2 n2 c2, .bool b2', .slice o2' n2' c2', .bool b3, .slice o3 n3 c3, .bool b3', .slice o3' n3' c3']) :: L) l wr) (hne : ∀ b ∈ L, g ≠ b.1) (s0 : Bool) (A0 : Option Addr) (p0 q0 : Nat) (z0 : Bool) (B0 : Option Addr) (m0 d0 : Nat) (s1 : Bool) (A1 : Option Addr) (p1 q1 : Nat) (z1 : Bool) (B1 : Option Addr) (m1 d1 : Nat) (s2 : Bool) (A2 : Option Addr) (p2 q2 : Nat) (z2 : Bool) (B2 : Option Addr) (m2 d2 : Nat) (s3 : Bool) (A3 : Option Addr) (p3 q3 : Nat) (z3 : Bool) (B3 : Option Addr) (m3 d3 : Nat) :
  Mm w ((g, [.bool s0, .slice A0 p0 q0, .bool z0, .slice B0 m0 d0, .bool s1, .slice A1 p1 q1, .bool z1, .slice B1 m1 d1, .bool s2, .slice A2 p2 q2, .bool z2, .slice B2 m2 d2, .bool s3, .slice A3 p3 q3, .bool z3, .slice B3 m3 d3]) :: L) l ((((((((((((((((wr.setCell ⟨g, 0, none⟩ (.bool s0)).setCell ⟨g, 1, none⟩ (.slice A0 p0 q0)).setCell ⟨g, 2, none⟩ (.bool z0)).setCell ⟨g, 3, none⟩ (.slice B0 m0 d0)).setCell ⟨g, 4, none⟩ (.bool s1)).setCell ⟨g, 5, none⟩ (.slice A1 p1 q1)).setCell ⟨g, 6, none⟩ (.bool z1)).setCell ⟨g, 7, none⟩ (.slice B1 m1 d1)).setCell ⟨g, 8, none⟩ (.bool s2)).setCell ⟨g, 9, none⟩ (.slice A2 p2 q2)).setCell ⟨g, 10, none⟩ (.bool z2)).setCell ⟨g, 11, none⟩ (.slice B2 m2 d2)).setCell ⟨g, 12, none⟩ (.bool s3)).setCell ⟨g, 13, none⟩ (.slice A3 p3 q3)).setCell ⟨g, 14, none⟩ (.bool z3)).setCell ⟨g, 15, none⟩ (.slice B3 m3 d3)) :=
 ((((((((((((((((h.set hne (.bool b0) (.bool s0) rfl (by simp)).set hne (.slice o0 n0 c0) (.slice A0 p0 q0) rfl (by simp)).set hne (.bool b0') (.bool z0) rfl (by simp)).set hne (.slice o0' n0' c0') (.slice B0 m0 d0) rfl (by simp)).set hne (.bool b1) (.bool s1) rfl (by simp)).set hne (.slice o1 n1 c1) (.slice A1 p1 q1) rfl (by simp)).set hne (.bool b1') (.bool z1) rfl (by simp)).set hne (.slice o1' n1' c1') (.slice B1 m1 d1) rfl (by simp)).set hne (.bool b2) (.bool s2) rfl (by simp)).set hne (.slice o2 n2 c2) (.slice A2 p2 q2) rfl (by simp)).set hne (.bool b2') (.bool z2) rfl (by simp)).set hne (.slice o2' n2' c2') (.slice B2 m2 d2) rfl (by simp)).set hne (.bool b3) (.bool s3) rfl (by simp)).set hne (.slice o3 n3 c3) (.slice A3 p3 q3) rfl (by simp)).set hne (.bool b3') (.bool z3) rfl (by simp)).set hne (.slice o3' n3' c3') (.slice B3 m3 d3) rfl (by simp))
def RetGa (W : World) (x y : Rat) (e : Ending) (w' : World) : Prop :=
 ∃ (s0 : Bool) (A0 : Option Addr) (p0 q0 : Nat) (z0 : Bool) (B0 : Option Addr) (m0 d0 : Nat) (s1 : Bool) (A1 : Option Addr) (p1 q1 : Nat) (z1 : Bool) (B1 : Option Addr) (m1 d1 : Nat),
  e = .returned (.agg #[.bool s0, .slice A0 p0 q0, .bool z0, .slice B0 m0 d0, .bool s1, .slice A1 p1 q1, .bool z1, .slice B1 m1 d1]) ∧
  IsInt w' s0 A0 p0 q0 x.num ∧ IsInt w' z0 B0 m0 d0 (x.den : Int) ∧ IsInt w' s1 A1 p1 q1 y.num ∧ IsInt w' z1 B1 m1 d1 (y.den : Int) ∧ Below W.heap.size W w'
theorem Sz.zero : Sz 0 1 := ⟨by decide, by decide⟩
theorem Sz.one : Sz 1 1 := ⟨by decide, by decide⟩
theorem sz_of {w w' : World} {neg neg' : Bool} {A A' : Option Addr} {n c n' c' : Nat} {x : Rat} (h : IsInt w neg A n c x.num) (k : IsInt w' neg' A' n' c' (x.den : Int)) {M : Nat} (hn : n ≤ M) (hn' : n' ≤ M) : Sz x M := by
 have h1 := isInt_lt h
 have h2 := isInt_lt k
 rw [show Lm.B ^ n = 2 ^ (32 * n) by rw [Nat.pow_mul]] at h1
 rw [show Lm.B ^ n' = 2 ^ (32 * n') by rw [Nat.pow_mul]] at h2
 exact ⟨Nat.lt_of_lt_of_le h1 (Nat.pow_le_pow_right (by decide) (by omega)), by rw [Int.natAbs_natCast] at h2; exact Nat.lt_of_lt_of_le h2 (Nat.pow_le_pow_right (by decide) (by omega))⟩
end Go.Proofs.YtgekmbfmfiikkaaGreatDoor
