/-
  May a fraction be? (ratio.Check, polestarref02.Check)
-/
import Derived.Test.YtejlicacndpfpaaExT
namespace Go.Proofs.Ytejlicacndpfpaa
open Go.RowKit

def okFr (neg : Bool) (l : List Nat) (neg' : Bool) (l' : List Nat) : Prop := okInt neg l ∧ okInt neg' l' ∧ 0 < sgnd neg' (Lm.lv l') ∧ Nat.gcd (Lm.lv l) (Lm.lv l') = 1
open Classical in
noncomputable def chkFr (neg : Bool) (l : List Nat) (neg' : Bool) (l' : List Nat) : Int := if okFr neg l neg' l' then 0 else 1
theorem chkFr_ok {neg : Bool} {l : List Nat} {neg' : Bool} {l' : List Nat} (h : okFr neg l neg' l') : chkFr neg l neg' l' = 0 := by unfold chkFr; rw [if_pos h]
theorem chkFr_no {neg : Bool} {l : List Nat} {neg' : Bool} {l' : List Nat} (h : ¬ okFr neg l neg' l') : chkFr neg l neg' l' = 1 := by unfold chkFr; rw [if_neg h]
theorem sgnd_abs (s : Bool) (a : Nat) : (sgnd s a).natAbs = a := by unfold sgnd; cases s <;> simp
theorem sign_pos {z : Int} (h : 0 < z) : z.sign = 1 := Int.sign_eq_one_of_pos h
theorem sign_not_pos {z : Int} (h : ¬ 0 < z) : z.sign = 0 ∨ z.sign = -1 := by
  rcases Int.lt_trichotomy z 0 with k | k | k
  · exact .inr (Int.sign_eq_neg_one_of_neg k)
  · subst k; exact .inl rfl
  · exact absurd k h
set_option maxRecDepth 100000 in
set_option maxHeartbeats 3200000 in
theorem ratio_check (neg neg' : Bool) (A A' : Option Addr) (n c n' c' : Nat) (l l' : List Nat) (w : World) (ha : Sl w A n c l) (hb : Sl w A' n' c' l') (hn : n ≤ 1000000000) (hn' : n' ≤ 1000000000) :
    Calls Try.prog 36 #[.agg #[.bool neg, .slice A n c, .bool neg', .slice A' n' c']] w (RetV w (.int .i64 (chkFr neg l neg' l'))) := by
  have K0 := (Mm.nil w).var (g := w.heap.size) rfl [.bool neg, .slice A n c, .bool neg', .slice A' n' c'] 26
  have ha0 := ha.below K0.1
  have hb0 := hb.below K0.1
  by_cases k1 : okInt neg l
  · have E1 : Hid (chk neg l = 0) := Lib.hid (chk_ok k1)
    by_cases k2 : okInt neg' l'
    · have E2 : Hid (chk neg' l' = 0) := Lib.hid (chk_ok k2)
      have HI1 : IsInt w neg A n c (sgnd neg (Lm.lv l)) := ⟨l, ha, k1.2.1, k1.2.2, rfl⟩
      have HI2 : IsInt w neg' A' n' c' (sgnd neg' (Lm.lv l')) := ⟨l', hb, k2.2.1, k2.2.2, rfl⟩
      have hl1 : n ≤ 2048 := by have := k1.1; have := ha.len; omega
      have hl2 : n' ≤ 2048 := by have := k2.1; have := hb.len; omega
      by_cases k3 : 0 < sgnd neg' (Lm.lv l')
      · have E3 : Hid ((sgnd neg' (Lm.lv l')).sign = 1) := Lib.hid (sign_pos k3)
        obtain ⟨G, hG⟩ : ∃ G, Nat.gcd (Lm.lv l) (Lm.lv l') = G := ⟨_, rfl⟩
        have HG : Hid (Nat.gcd (sgnd neg (Lm.lv l)).natAbs (sgnd neg' (Lm.lv l')).natAbs = G) := Lib.hid (by rw [sgnd_abs, sgnd_abs]; exact hG)
        have HGB : Hid ((G : Int).natAbs < 2 ^ (32 * n')) := Lib.hid (by
          have hp : 0 < Lm.lv l' := by
            unfold sgnd at k3
            split at k3 <;> omega
          have h1 : G ≤ Lm.lv l' := by rw [← hG]; exact Nat.le_of_dvd hp (Nat.gcd_dvd_right _ _)
          have h2 := Lm.lv_lt hb.ok
          rw [hb.len, show Lm.B ^ n' = 2 ^ (32 * n') by rw [Nat.pow_mul]] at h2
          rw [Int.natAbs_natCast]
          omega)
        have HC : Hid (chkFr neg l neg' l' = if G = 1 then 0 else 1) := Lib.hid (by
          by_cases hg : G = 1
          · rw [if_pos hg]; exact chkFr_ok ⟨k1, k2, k3, by rw [hG, hg]⟩
          · rw [if_neg hg]; exact chkFr_no (fun h => hg (by rw [← hG]; exact h.2.2.2)))
        have K0 := (((Mm.nil w).int HI1).int HI2).var (g := w.heap.size) rfl [.bool neg, .slice A n c, .bool neg', .slice A' n' c'] 26
        clear k1 k2 k3 hG HI1 HI2 ha hb
        go_enter Try.func36, Try.ntmps36
        go_wp2_with fail
        refine (ex_check_sl neg A n c l _ ha0 hn).mono ?_
        rintro e1 w1 ⟨rfl, hb1⟩
        rw [E1.out]
        have K1 := (K0.next hb1)
        have ha1 := ha0.below hb1
        have hb1' := hb0.below hb1
        obtain ⟨⟨qa1, qb1, qc1, qd1⟩, ⟨qe1, qf1, qg1, qh1⟩, qi1⟩ := (K1.blk (g := w.heap.size) (vs := [.bool neg, .slice A n c, .bool neg', .slice A' n' c']) (by simp)).four
        go_wp2_with fail
        refine (ex_check_sl neg' A' n' c' l' _ hb1' hn').mono ?_
        rintro e2 w2 ⟨rfl, hb2⟩
        rw [E2.out]
        have K2 := (K1.next hb2)
        have ha2 := ha1.below hb2
        have hb2' := hb1'.below hb2
        obtain ⟨⟨qa2, qb2, qc2, qd2⟩, ⟨qe2, qf2, qg2, qh2⟩, qi2⟩ := (K2.blk (g := w.heap.size) (vs := [.bool neg, .slice A n c, .bool neg', .slice A' n' c']) (by simp)).four
        go_wp2_with fail
        refine (ex_sign_any neg' A' n' c' _ _ (K2.at_ (neg := neg') (A := A') (n := n') (c := c') (z := sgnd neg' (Lm.lv l')) (by simp))).mono ?_
        rintro e3 w3 ⟨rfl, hb3⟩
        rw [E3.out]
        have K3 := (K2.next hb3)
        have ha3 := ha2.below hb3
        have hb3' := hb2'.below hb3
        obtain ⟨⟨qa3, qb3, qc3, qd3⟩, ⟨qe3, qf3, qg3, qh3⟩, qi3⟩ := (K3.blk (g := w.heap.size) (vs := [.bool neg, .slice A n c, .bool neg', .slice A' n' c']) (by simp)).four
        go_wp2_with fail
        refine (ex_Common_any neg neg' A A' n c n' c' _ _ G _ (K3.at_ (neg := neg) (A := A) (n := n) (c := c) (z := sgnd neg (Lm.lv l)) (by simp)) (K3.at_ (neg := neg') (A := A') (n := n') (c := c') (z := sgnd neg' (Lm.lv l')) (by simp)) (by omega) (by omega) HG).mono ?_
        rintro e4 w4 ⟨ng, Ag, m4, c4, rfl, I4, hb4⟩
        have hm4 : m4 ≤ n' := int_len I4 HGB.out
        have K4 := (K3.next hb4).int I4
        clear I4
        go_wp2_with fail
        refine (ex_of_any 1 _ (by decide)).mono ?_
        rintro e5 w5 ⟨no, Ao, m5, c5, rfl, I5, hb5⟩
        have hm5 : m5 ≤ 1 := int_len I5 (by decide)
        have K5 := (K4.next hb5).int I5
        clear I5
        go_wp2_with fail
        refine (ex_cmp_int ng no Ag Ao m4 c4 m5 c5 (G : Int) 1 _ (K5.at_ (by simp)) (K5.at_ (by simp)) (by omega) (by omega)).mono ?_
        rintro e6 w6 ⟨rfl, hb6⟩
        have K6 := K5.next hb6
        by_cases hg : G = 1
        · have E6 : Hid (icmp (G : Int) 1 = 0) := Lib.hid (by rw [hg]; rfl)
          rw [E6.out]
          rw [if_pos hg] at HC
          clear hg
          go_wp2_with fail
          go_ret
          exact ⟨by rw [HC.out]; rfl, K6.1⟩
        · obtain ⟨v, hv⟩ : ∃ v, icmp (G : Int) 1 = v := ⟨_, rfl⟩
          have hv0 : (v != 0) = true := by
            rw [← hv]; unfold icmp
            split
            · rfl
            · rw [if_pos (by omega)]; rfl
          rw [hv]
          rw [if_neg hg] at HC
          clear hg hv
          go_wp2_with fail
          go_ret
          exact ⟨by rw [HC.out]; rfl, K6.1⟩
      · obtain ⟨S, hS⟩ : ∃ S, (sgnd neg' (Lm.lv l')).sign = S := ⟨_, rfl⟩
        have hS0 : S ≤ 0 := by rw [← hS]; rcases sign_not_pos k3 with h | h <;> omega
        have E3 := Lib.hid hS
        have HC := Lib.hid (chkFr_no (neg := neg) (l := l) (neg' := neg') (l' := l') (fun h => k3 h.2.2.1))
        have K0 := (((Mm.nil w).int HI1).int HI2).var (g := w.heap.size) rfl [.bool neg, .slice A n c, .bool neg', .slice A' n' c'] 26
        clear k1 k2 k3 hS HI1 HI2 ha hb
        go_enter Try.func36, Try.ntmps36
        go_wp2_with fail
        refine (ex_check_sl neg A n c l _ ha0 hn).mono ?_
        rintro e1 w1 ⟨rfl, hb1⟩
        rw [E1.out]
        have K1 := (K0.next hb1)
        have ha1 := ha0.below hb1
        have hb1' := hb0.below hb1
        obtain ⟨⟨qa1, qb1, qc1, qd1⟩, ⟨qe1, qf1, qg1, qh1⟩, qi1⟩ := (K1.blk (g := w.heap.size) (vs := [.bool neg, .slice A n c, .bool neg', .slice A' n' c']) (by simp)).four
        go_wp2_with fail
        refine (ex_check_sl neg' A' n' c' l' _ hb1' hn').mono ?_
        rintro e2 w2 ⟨rfl, hb2⟩
        rw [E2.out]
        have K2 := (K1.next hb2)
        have ha2 := ha1.below hb2
        have hb2' := hb1'.below hb2
        obtain ⟨⟨qa2, qb2, qc2, qd2⟩, ⟨qe2, qf2, qg2, qh2⟩, qi2⟩ := (K2.blk (g := w.heap.size) (vs := [.bool neg, .slice A n c, .bool neg', .slice A' n' c']) (by simp)).four
        go_wp2_with fail
        refine (ex_sign_any neg' A' n' c' _ _ (K2.at_ (neg := neg') (A := A') (n := n') (c := c') (z := sgnd neg' (Lm.lv l')) (by simp))).mono ?_
        rintro e3 w3 ⟨rfl, hb3⟩
        rw [E3.out]
        have K3 := (K2.next hb3)
        have ha3 := ha2.below hb3
        have hb3' := hb2'.below hb3
        obtain ⟨⟨qa3, qb3, qc3, qd3⟩, ⟨qe3, qf3, qg3, qh3⟩, qi3⟩ := (K3.blk (g := w.heap.size) (vs := [.bool neg, .slice A n c, .bool neg', .slice A' n' c']) (by simp)).four
        go_wp2_with fail
        go_ret
        exact ⟨by rw [HC.out]; rfl, K3.1⟩
    · have E2 : Hid (chk neg' l' = 1) := Lib.hid (chk_no k2)
      have HC := Lib.hid (chkFr_no (neg := neg) (l := l) (neg' := neg') (l' := l') (fun h => k2 h.2.1))
      clear k1 k2 ha hb
      go_enter Try.func36, Try.ntmps36
      go_wp2_with fail
      refine (ex_check_sl neg A n c l _ ha0 hn).mono ?_
      rintro e1 w1 ⟨rfl, hb1⟩
      rw [E1.out]
      have K1 := (K0.next hb1)
      have ha1 := ha0.below hb1
      have hb1' := hb0.below hb1
      obtain ⟨⟨qa1, qb1, qc1, qd1⟩, ⟨qe1, qf1, qg1, qh1⟩, qi1⟩ := (K1.blk (g := w.heap.size) (vs := [.bool neg, .slice A n c, .bool neg', .slice A' n' c']) (by simp)).four
      go_wp2_with fail
      refine (ex_check_sl neg' A' n' c' l' _ hb1' hn').mono ?_
      rintro e2 w2 ⟨rfl, hb2⟩
      rw [E2.out]
      have K2 := (K1.next hb2)
      have ha2 := ha1.below hb2
      have hb2' := hb1'.below hb2
      obtain ⟨⟨qa2, qb2, qc2, qd2⟩, ⟨qe2, qf2, qg2, qh2⟩, qi2⟩ := (K2.blk (g := w.heap.size) (vs := [.bool neg, .slice A n c, .bool neg', .slice A' n' c']) (by simp)).four
      go_wp2_with fail
      go_ret
      exact ⟨by rw [HC.out]; rfl, K2.1⟩
  · have E1 : Hid (chk neg l = 1) := Lib.hid (chk_no k1)
    have HC := Lib.hid (chkFr_no (neg := neg) (l := l) (neg' := neg') (l' := l') (fun h => k1 h.1))
    clear k1 ha hb
    go_enter Try.func36, Try.ntmps36
    go_wp2_with fail
    refine (ex_check_sl neg A n c l _ ha0 hn).mono ?_
    rintro e1 w1 ⟨rfl, hb1⟩
    rw [E1.out]
    have K1 := (K0.next hb1)
    have ha1 := ha0.below hb1
    have hb1' := hb0.below hb1
    obtain ⟨⟨qa1, qb1, qc1, qd1⟩, ⟨qe1, qf1, qg1, qh1⟩, qi1⟩ := (K1.blk (g := w.heap.size) (vs := [.bool neg, .slice A n c, .bool neg', .slice A' n' c']) (by simp)).four
    go_wp2_with fail
    go_ret
    exact ⟨by rw [HC.out]; rfl, K1.1⟩
end Go.Proofs.Ytejlicacndpfpaa
