/-
  May a fraction be? (ratio.Check, polestarref02.Check)
  May all of these fractions be? (ratio.Checks)
-/
import Derived.Test.YtdmdaoginojalaaExT
namespace Go.Proofs.Ytdmdaoginojalaa
open Go.RowKit

def okFr (neg : Bool) (l : List Nat) (neg' : Bool) (l' : List Nat) : Prop := okInt neg l ∧ okInt neg' l' ∧ 0 < sgnd neg' (Lm.lv l') ∧ Nat.gcd (Lm.lv l) (Lm.lv l') = 1
open Classical in
noncomputable def chkFr (neg : Bool) (l : List Nat) (neg' : Bool) (l' : List Nat) : Int := if okFr neg l neg' l' then 0 else 1
theorem chkFr_ok {neg : Bool} {l : List Nat} {neg' : Bool} {l' : List Nat} (h : okFr neg l neg' l') : chkFr neg l neg' l' = 0 := by unfold chkFr; rw [if_pos h]
theorem chkFr_no {neg : Bool} {l : List Nat} {neg' : Bool} {l' : List Nat} (h : ¬ okFr neg l neg' l') : chkFr neg l neg' l' = 1 := by unfold chkFr; rw [if_neg h]
theorem sgnd_abs (s : Bool) (a : Nat) : (sgnd s a).natAbs = a := by unfold sgnd; cases s <;> simp
theorem sign_pos {z : Int} (h : 0 < z) : z.sign = 1 := Int.sign_eq_one_of_pos h
theorem sign_not_pos {z : Int} (h : ¬ 0 < z) : z.sign = 0 ∨ z.sign = -1 := by
  rcases Int.lt_trichotomy z 0 with k | k | k
  · exact .inr (Int.sign_eq_neg_one_of_neg k)
  · subst k; exact .inl rfl
  · exact absurd k h
set_option maxRecDepth 100000 in
set_option maxHeartbeats 3200000 in
theorem ratio_check (neg neg' : Bool) (A A' : Option Addr) (n c n' c' : Nat) (l l' : List Nat) (w : World) (ha : Sl w A n c l) (hb : Sl w A' n' c' l') (hn : n ≤ 1000000000) (hn' : n' ≤ 1000000000) :
    Calls Try.prog 87 #[.agg #[.bool neg, .slice A n c, .bool neg', .slice A' n' c']] w (RetV w (.int .i64 (chkFr neg l neg' l'))) := by
  have K0 := (Mm.nil w).var (g := w.heap.size) rfl [.bool neg, .slice A n c, .bool neg', .slice A' n' c'] 26
  have ha0 := ha.below K0.1
  have hb0 := hb.below K0.1
  by_cases k1 : okInt neg l
  · have E1 : Hid (chk neg l = 0) := Lib.hid (chk_ok k1)
    by_cases k2 : okInt neg' l'
    · have E2 : Hid (chk neg' l' = 0) := Lib.hid (chk_ok k2)
      have HI1 : IsInt w neg A n c (sgnd neg (Lm.lv l)) := ⟨l, ha, k1.2.1, k1.2.2, rfl⟩
      have HI2 : IsInt w neg' A' n' c' (sgnd neg' (Lm.lv l')) := ⟨l', hb, k2.2.1, k2.2.2, rfl⟩
      have hl1 : n ≤ 2048 := by have := k1.1; have := ha.len; omega
      have hl2 : n' ≤ 2048 := by have := k2.1; have := hb.len; omega
      by_cases k3 : 0 < sgnd neg' (Lm.lv l')
      · have E3 : Hid ((sgnd neg' (Lm.lv l')).sign = 1) := Lib.hid (sign_pos k3)
        obtain ⟨G, hG⟩ : ∃ G, Nat.gcd (Lm.lv l) (Lm.lv l') = G := ⟨_, rfl⟩
        have HG : Hid (Nat.gcd (sgnd neg (Lm.lv l)).natAbs (sgnd neg' (Lm.lv l')).natAbs = G) := Lib.hid (by rw [sgnd_abs, sgnd_abs]; exact hG)
        have HGB : Hid ((G : Int).natAbs < 2 ^ (32 * n')) := Lib.hid (by
          have hp : 0 < Lm.lv l' := by
            unfold sgnd at k3
            split at k3 <;> omega
          have h1 : G ≤ Lm.lv l' := by rw [← hG]; exact Nat.le_of_dvd hp (Nat.gcd_dvd_right _ _)
          have h2 := Lm.lv_lt hb.ok
          rw [hb.len, show Lm.B ^ n' = 2 ^ (32 * n') by rw [Nat.pow_mul]] at h2
          rw [Int.natAbs_natCast]
          omega)
        have HC : Hid (chkFr neg l neg' l' = if G = 1 then 0 else 1) := Lib.hid (by
          by_cases hg : G = 1
          · rw [if_pos hg]; exact chkFr_ok ⟨k1, k2, k3, by rw [hG, hg]⟩
          · rw [if_neg hg]; exact chkFr_no (fun h => hg (by rw [← hG]; exact h.2.2.2)))
        have K0 := (((Mm.nil w).int HI1).int HI2).var (g := w.heap.size) rfl [.bool neg, .slice A n c, .bool neg', .slice A' n' c'] 26
        clear k1 k2 k3 hG HI1 HI2 ha hb
        go_enter Try.func87, Try.ntmps87
        go_wp2_with fail
        refine (ex_check_sl neg A n c l _ ha0 hn).mono ?_
        rintro e1 w1 ⟨rfl, hb1⟩
        rw [E1.out]
        have K1 := (K0.next hb1)
        have ha1 := ha0.below hb1
        have hb1' := hb0.below hb1
        obtain ⟨⟨qa1, qb1, qc1, qd1⟩, ⟨qe1, qf1, qg1, qh1⟩, qi1⟩ := (K1.blk (g := w.heap.size) (vs := [.bool neg, .slice A n c, .bool neg', .slice A' n' c']) (by simp)).four
        go_wp2_with fail
        refine (ex_check_sl neg' A' n' c' l' _ hb1' hn').mono ?_
        rintro e2 w2 ⟨rfl, hb2⟩
        rw [E2.out]
        have K2 := (K1.next hb2)
        have ha2 := ha1.below hb2
        have hb2' := hb1'.below hb2
        obtain ⟨⟨qa2, qb2, qc2, qd2⟩, ⟨qe2, qf2, qg2, qh2⟩, qi2⟩ := (K2.blk (g := w.heap.size) (vs := [.bool neg, .slice A n c, .bool neg', .slice A' n' c']) (by simp)).four
        go_wp2_with fail
        refine (ex_sign_any neg' A' n' c' _ _ (K2.at_ (neg := neg') (A := A') (n := n') (c := c') (z := sgnd neg' (Lm.lv l')) (by simp))).mono ?_
        rintro e3 w3 ⟨rfl, hb3⟩
        rw [E3.out]
        have K3 := (K2.next hb3)
        have ha3 := ha2.below hb3
        have hb3' := hb2'.below hb3
        obtain ⟨⟨qa3, qb3, qc3, qd3⟩, ⟨qe3, qf3, qg3, qh3⟩, qi3⟩ := (K3.blk (g := w.heap.size) (vs := [.bool neg, .slice A n c, .bool neg', .slice A' n' c']) (by simp)).four
        go_wp2_with fail
        refine (ex_Common_any neg neg' A A' n c n' c' _ _ G _ (K3.at_ (neg := neg) (A := A) (n := n) (c := c) (z := sgnd neg (Lm.lv l)) (by simp)) (K3.at_ (neg := neg') (A := A') (n := n') (c := c') (z := sgnd neg' (Lm.lv l')) (by simp)) (by omega) (by omega) HG).mono ?_
        rintro e4 w4 ⟨ng, Ag, m4, c4, rfl, I4, hb4⟩
        have hm4 : m4 ≤ n' := int_len I4 HGB.out
        have K4 := (K3.next hb4).int I4
        clear I4
        go_wp2_with fail
        refine (ex_of_any 1 _ (by decide)).mono ?_
        rintro e5 w5 ⟨no, Ao, m5, c5, rfl, I5, hb5⟩
        have hm5 : m5 ≤ 1 := int_len I5 (by decide)
        have K5 := (K4.next hb5).int I5
        clear I5
        go_wp2_with fail
        refine (ex_cmp_int ng no Ag Ao m4 c4 m5 c5 (G : Int) 1 _ (K5.at_ (by simp)) (K5.at_ (by simp)) (by omega) (by omega)).mono ?_
        rintro e6 w6 ⟨rfl, hb6⟩
        have K6 := K5.next hb6
        by_cases hg : G = 1
        · have E6 : Hid (icmp (G : Int) 1 = 0) := Lib.hid (by rw [hg]; rfl)
          rw [E6.out]
          rw [if_pos hg] at HC
          clear hg
          go_wp2_with fail
          go_ret
          exact ⟨by rw [HC.out]; rfl, K6.1⟩
        · obtain ⟨v, hv⟩ : ∃ v, icmp (G : Int) 1 = v := ⟨_, rfl⟩
          have hv0 : (v != 0) = true := by
            rw [← hv]; unfold icmp
            split
            · rfl
            · rw [if_pos (by omega)]; rfl
          rw [hv]
          rw [if_neg hg] at HC
          clear hg hv
          go_wp2_with fail
          go_ret
          exact ⟨by rw [HC.out]; rfl, K6.1⟩
      · obtain ⟨S, hS⟩ : ∃ S, (sgnd neg' (Lm.lv l')).sign = S := ⟨_, rfl⟩
        have hS0 : S ≤ 0 := by rw [← hS]; rcases sign_not_pos k3 with h | h <;> omega
        have E3 := Lib.hid hS
        have HC := Lib.hid (chkFr_no (neg := neg) (l := l) (neg' := neg') (l' := l') (fun h => k3 h.2.2.1))
        have K0 := (((Mm.nil w).int HI1).int HI2).var (g := w.heap.size) rfl [.bool neg, .slice A n c, .bool neg', .slice A' n' c'] 26
        clear k1 k2 k3 hS HI1 HI2 ha hb
        go_enter Try.func87, Try.ntmps87
        go_wp2_with fail
        refine (ex_check_sl neg A n c l _ ha0 hn).mono ?_
        rintro e1 w1 ⟨rfl, hb1⟩
        rw [E1.out]
        have K1 := (K0.next hb1)
        have ha1 := ha0.below hb1
        have hb1' := hb0.below hb1
        obtain ⟨⟨qa1, qb1, qc1, qd1⟩, ⟨qe1, qf1, qg1, qh1⟩, qi1⟩ := (K1.blk (g := w.heap.size) (vs := [.bool neg, .slice A n c, .bool neg', .slice A' n' c']) (by simp)).four
        go_wp2_with fail
        refine (ex_check_sl neg' A' n' c' l' _ hb1' hn').mono ?_
        rintro e2 w2 ⟨rfl, hb2⟩
        rw [E2.out]
        have K2 := (K1.next hb2)
        have ha2 := ha1.below hb2
        have hb2' := hb1'.below hb2
        obtain ⟨⟨qa2, qb2, qc2, qd2⟩, ⟨qe2, qf2, qg2, qh2⟩, qi2⟩ := (K2.blk (g := w.heap.size) (vs := [.bool neg, .slice A n c, .bool neg', .slice A' n' c']) (by simp)).four
        go_wp2_with fail
        refine (ex_sign_any neg' A' n' c' _ _ (K2.at_ (neg := neg') (A := A') (n := n') (c := c') (z := sgnd neg' (Lm.lv l')) (by simp))).mono ?_
        rintro e3 w3 ⟨rfl, hb3⟩
        rw [E3.out]
        have K3 := (K2.next hb3)
        have ha3 := ha2.below hb3
        have hb3' := hb2'.below hb3
        obtain ⟨⟨qa3, qb3, qc3, qd3⟩, ⟨qe3, qf3, qg3, qh3⟩, qi3⟩ := (K3.blk (g := w.heap.size) (vs := [.bool neg, .slice A n c, .bool neg', .slice A' n' c']) (by simp)).four
        go_wp2_with fail
        go_ret
        exact ⟨by rw [HC.out]; rfl, K3.1⟩
    · have E2 : Hid (chk neg' l' = 1) := Lib.hid (chk_no k2)
      have HC := Lib.hid (chkFr_no (neg := neg) (l := l) (neg' := neg') (l' := l') (fun h => k2 h.2.1))
      clear k1 k2 ha hb
      go_enter Try.func87, Try.ntmps87
      go_wp2_with fail
      refine (ex_check_sl neg A n c l _ ha0 hn).mono ?_
      rintro e1 w1 ⟨rfl, hb1⟩
      rw [E1.out]
      have K1 := (K0.next hb1)
      have ha1 := ha0.below hb1
      have hb1' := hb0.below hb1
      obtain ⟨⟨qa1, qb1, qc1, qd1⟩, ⟨qe1, qf1, qg1, qh1⟩, qi1⟩ := (K1.blk (g := w.heap.size) (vs := [.bool neg, .slice A n c, .bool neg', .slice A' n' c']) (by simp)).four
      go_wp2_with fail
      refine (ex_check_sl neg' A' n' c' l' _ hb1' hn').mono ?_
      rintro e2 w2 ⟨rfl, hb2⟩
      rw [E2.out]
      have K2 := (K1.next hb2)
      have ha2 := ha1.below hb2
      have hb2' := hb1'.below hb2
      obtain ⟨⟨qa2, qb2, qc2, qd2⟩, ⟨qe2, qf2, qg2, qh2⟩, qi2⟩ := (K2.blk (g := w.heap.size) (vs := [.bool neg, .slice A n c, .bool neg', .slice A' n' c']) (by simp)).four
      go_wp2_with fail
      go_ret
      exact ⟨by rw [HC.out]; rfl, K2.1⟩
  · have E1 : Hid (chk neg l = 1) := Lib.hid (chk_no k1)
    have HC := Lib.hid (chkFr_no (neg := neg) (l := l) (neg' := neg') (l' := l') (fun h => k1 h.1))
    clear k1 ha hb
    go_enter Try.func87, Try.ntmps87
    go_wp2_with fail
    refine (ex_check_sl neg A n c l _ ha0 hn).mono ?_
    rintro e1 w1 ⟨rfl, hb1⟩
    rw [E1.out]
    have K1 := (K0.next hb1)
    have ha1 := ha0.below hb1
    have hb1' := hb0.below hb1
    obtain ⟨⟨qa1, qb1, qc1, qd1⟩, ⟨qe1, qf1, qg1, qh1⟩, qi1⟩ := (K1.blk (g := w.heap.size) (vs := [.bool neg, .slice A n c, .bool neg', .slice A' n' c']) (by simp)).four
    go_wp2_with fail
    go_ret
    exact ⟨by rw [HC.out]; rfl, K1.1⟩
end Go.Proofs.Ytdmdaoginojalaa

namespace Go.Proofs.Ytdmdaoginojalaa
open Go.RowKit

/-- A fraction in memory as limbs: its two numbers' values and limbs. -/
abbrev LmE := (Bool × Option Addr × Nat × Nat × List Nat) × (Bool × Option Addr × Nat × Nat × List Nat)
def LmE.at_ (wr : World) (f : LmE) : Prop := Sl wr f.1.2.1 f.1.2.2.1 f.1.2.2.2.1 f.1.2.2.2.2 ∧ Sl wr f.2.2.1 f.2.2.2.1 f.2.2.2.2.1 f.2.2.2.2.2 ∧ f.1.2.2.1 ≤ 1000000000 ∧ f.2.2.2.1 ≤ 1000000000
theorem LmE.at_.below {w w' : World} {f : LmE} (h : LmE.at_ w f) (hb : Below w.heap.size w w') : LmE.at_ w' f := ⟨h.1.below hb, h.2.1.below hb, h.2.2⟩
def LmE.vs (f : LmE) : List Value := [.bool f.1.1, .slice f.1.2.1 f.1.2.2.1 f.1.2.2.2.1, .bool f.2.1, .slice f.2.2.1 f.2.2.2.1 f.2.2.2.2.1]
/-- A block that holds fractions. -/
def Lfs (wr : World) (g N : Nat) (F : Nat → LmE) : Prop :=
  g < wr.heap.size ∧ ∀ i, i < N → (wr.cell? ⟨g, i * 4, none⟩ = some (.bool (F i).1.1) ∧ wr.cell? ⟨g, i * 4 + 1, none⟩ = some (.slice (F i).1.2.1 (F i).1.2.2.1 (F i).1.2.2.2.1) ∧
    wr.cell? ⟨g, i * 4 + 2, none⟩ = some (.bool (F i).2.1) ∧ wr.cell? ⟨g, i * 4 + 3, none⟩ = some (.slice (F i).2.2.1 (F i).2.2.2.1 (F i).2.2.2.2.1)) ∧ LmE.at_ wr (F i)
theorem Lfs.next {wr w' : World} {g N : Nat} {F : Nat → LmE} (h : Lfs wr g N F) (hb : Below wr.heap.size wr w') : Lfs w' g N F := by
  refine ⟨Nat.lt_of_lt_of_le h.1 hb.size, fun i hi => ?_⟩
  obtain ⟨⟨h0, h1, h2, h3⟩, h4⟩ := h.2 i hi
  obtain ⟨hc, _⟩ := bcell hb
  exact ⟨⟨(hc _ _ h.1).trans h0, (hc _ _ h.1).trans h1, (hc _ _ h.1).trans h2, (hc _ _ h.1).trans h3⟩, h4.below hb⟩
open Classical in
noncomputable def okB (f : LmE) : Bool := decide (okFr f.1.1 f.1.2.2.2.2 f.2.1 f.2.2.2.2.2)
open Classical in
theorem okB_iff (f : LmE) : okB f = true ↔ okFr f.1.1 f.1.2.2.2.2 f.2.1 f.2.2.2.2.2 := by
  unfold okB
  exact decide_eq_true_iff
open Classical in
theorem okB_chk (f : LmE) : chkFr f.1.1 f.1.2.2.2.2 f.2.1 f.2.2.2.2.2 = if okB f then 0 else 1 := by
  unfold okB
  by_cases h : okFr f.1.1 f.1.2.2.2.2 f.2.1 f.2.2.2.2.2
  · rw [chkFr_ok h, decide_eq_true h]; rfl
  · rw [chkFr_no h, decide_eq_false h]; rfl
/-- May all of the first so many be? -/
noncomputable def okAll (F : Nat → LmE) : Nat → Bool
  | 0 => true
  | n + 1 => okAll F n && okB (F n)
theorem okAll_no {F : Nat → LmE} {k N : Nat} (hk : k < N) (h : okB (F k) = false) : okAll F N = false := by
  induction N with
  | zero => omega
  | succ n ih =>
    unfold okAll
    rcases Nat.lt_or_ge k n with h1 | h1
    · rw [ih h1]; rfl
    · have : k = n := by omega
      subst this
      rw [h, Bool.and_false]

set_option maxRecDepth 100000 in
set_option maxHeartbeats 3200000 in
theorem rat_checks_any (g N c : Nat) (F : Nat → LmE) (w : World) (hL : Lfs w g N F) (hN : N ≤ 1000) (hc : N ≤ c) :
    Calls Try.prog 51 #[.slice (some ⟨g, 0, none⟩) N c] w (RetV w (.bool (okAll F N))) := by
  have hg := hL.1
  go_enter Try.func51, Try.ntmps51
  go_wp2_with fail
  go_loopw [7] (fun i wr => ∃ k : Nat, k ≤ N ∧ i = .int .i64 (k : Int) ∧ Hid (okAll F k = true) ∧ Below w.heap.size w wr) (fun i _ => N - (intOf i).toNat)
  case atStart => exact ⟨0, Nat.zero_le _, rfl, Lib.hid rfl, Below.refl _ _⟩
  case round =>
    obtain ⟨k, hk, rfl, HK, hb⟩ := hrel
    have hsz := hb.size
    by_cases hlt : k < N
    · obtain ⟨hg1, hall⟩ := hL.next hb
      obtain ⟨⟨a0, a1, a2, a3⟩, hS, hS', hn, hn'⟩ := hall k hlt
      have HCk := Lib.hid (okB_chk (F k))
      have HOK : Hid (okAll F (k + 1) = (okAll F k && okB (F k))) := Lib.hid rfl
      have HNO : Hid (okB (F k) = false → okAll F N = false) := Lib.hid (okAll_no hlt)
      obtain ⟨f, hf⟩ : ∃ f, F k = f := ⟨_, rfl⟩
      rw [hf] at a0 a1 a2 a3 hS hS' hn hn' HCk HOK HNO
      obtain ⟨⟨neg, A, n, c1, l⟩, neg', A', n', c1', l'⟩ := f
      simp only at a0 a1 a2 a3 hS hS' hn hn' HCk
      have hlt' : (k : Int) < (N : Int) := by omega
      have hk0 : (0 : Int) ≤ (k : Int) := Int.natCast_nonneg _
      clear hall hf
      go_wp2_with fail
      refine (ratio_check neg neg' A A' n c1 n' c1' l l' _ (hS.alloc _) (hS'.alloc _) hn hn').mono ?_
      rintro e1 w1 ⟨rfl, hb1⟩
      obtain ⟨b, hob⟩ : ∃ b, okB ((neg, A, n, c1, l), (neg', A', n', c1', l')) = b := ⟨_, rfl⟩
      rw [hob] at HCk HOK HNO
      rw [HCk.out]
      clear hob
      cases b with
      | false =>
        have HF : Hid (okAll F N = false) := Lib.hid (HNO.out rfl)
        go_wp2_with fail
        go_ret
        exact ⟨by rw [HF.out]; rfl, (hb.trans (((Below.refl _ _).alloc (Nat.le_refl _) _).mono hsz)).trans (hb1.mono (by simp; omega))⟩
      | true =>
        go_wp2_with fail
        refine ⟨⟨k + 1, hlt, congrArg (Value.int .i64) (by omega), Lib.hid (by rw [HOK.out, HK.out]; rfl), (hb.trans (((Below.refl _ _).alloc (Nat.le_refl _) _).mono hsz)).trans (hb1.mono (by simp; omega))⟩, ?_⟩
        simp [intOf]
        omega
    · obtain rfl : k = N := by omega
      have hnl : ¬ (k : Int) < (k : Int) := by omega
      go_wp2_with fail
      go_ret
      exact ⟨by rw [HK.out]; rfl, hb⟩
end Go.Proofs.Ytdmdaoginojalaa
