/-
  The references' floats (polestarref04): the greatest float that is not above a number times a power of two.
-/
import Derived.Test.YthddodhcpfponaaRef4C
import Derived.Test.YthddodhcpfponaaFltE
namespace Go.Proofs.Ythddodhcpfponaa
open Go.RowKit

def RetUnder (W : World) (num den : Nat) (e : Ending) (w' : World) : Prop :=
  ∃ r b, e = .returned (.tuple #[.float .f64 r, .bool b]) ∧ Flt.Dn num den r ∧ b = decide (Flt.val r * den = num) ∧ Below W.heap.size W w'

theorem ref_quotient_fq (negq : Bool) (A Aq : Option Addr) (n c nq cq P : Nat) (s : Int) (w : World) (hp : IsInt w false A n c (P : Int)) (hq : IsInt w negq Aq nq cq 1) (hn : n ≤ 10000000) (hs : -1000000000 ≤ s ∧ s ≤ 1000000000)
    (Q : Nat) (b : Bool) (hQ : Hid (Q = Flt.fq P s)) (hb : Hid (b = Flt.fb P s)) (hQb : Q ≤ 9223372036854775807) :
    Calls Try.prog 90 #[.agg #[.bool false, .slice A n c], .agg #[.bool negq, .slice Aq nq cq], .int .i64 s] w (RetV w (.tuple #[.int .u64 Q, .bool b])) :=
  ref_quotient_one _ _ _ _ _ _ _ P s w hp hq hn hs Q b (fun h => ⟨by rw [hQ.out]; unfold Flt.fq; rw [if_pos h], by rw [hb.out]; unfold Flt.fb; rw [if_pos h]⟩)
    (fun h => ⟨by rw [hQ.out]; unfold Flt.fq; rw [if_neg (by omega)], by rw [hb.out]; unfold Flt.fb; rw [if_neg (by omega)]⟩) hQb
theorem ref_bits_of (neg : Bool) (A : Option Addr) (n c : Nat) (x : Int) (L : Nat) (w : World) (hx : IsInt w neg A n c x) (hn : n ≤ 100000000) (hL : Hid (bitLen x.natAbs = L)) :
    Calls Try.prog 86 #[.agg #[.bool neg, .slice A n c]] w (RetV w (.int .i64 (L : Int))) := by
  have := ref_bits_any neg A n c x w hx hn
  rwa [hL.out] at this

/-- How many bits are taken. -/
theorem fq_bits {P : Nat} (hP : P ≠ 0) {L : Nat} (hL : L = bitLen P) : 2 ^ 53 ≤ Flt.fq P (54 - (L : Int)) ∧ Flt.fq P (54 - (L : Int)) < 2 ^ 54 := by
  have h1 : L = P.log2 + 1 := by rw [hL]; unfold bitLen; rw [if_neg hP]
  have h2 := Nat.log2_self_le hP
  have h3 : P < 2 ^ (P.log2 + 1) := Nat.lt_log2_self
  obtain ⟨f1, f2, _⟩ := Flt.fq_spec P (54 - (L : Int))
  generalize Flt.fq P (54 - (L : Int)) = Q at *
  generalize hl : P.log2 = l at *
  generalize ha : (54 - (L : Int)).toNat = a at *
  generalize hb : (-(54 - (L : Int))).toNat = b at *
  have e1 : l + a = 53 + b := by omega
  have hB : 0 < 2 ^ b := Nat.two_pow_pos _
  have g1 : 2 ^ 53 * 2 ^ b ≤ P * 2 ^ a := by
    have := Nat.mul_le_mul_right (2 ^ a) h2
    rw [← Nat.pow_add, e1, Nat.pow_add] at this
    exact this
  have g2 : P * 2 ^ a < 2 ^ 54 * 2 ^ b := by
    have := Nat.mul_lt_mul_of_pos_right h3 (Nat.two_pow_pos a)
    rw [← Nat.pow_add, show l + 1 + a = 54 + b by omega, Nat.pow_add] at this
    exact this
  constructor
  · have : 2 ^ 53 * 2 ^ b < (Q + 1) * 2 ^ b := Nat.lt_of_le_of_lt g1 f2
    have := Nat.lt_of_mul_lt_mul_right this
    omega
  · exact Nat.lt_of_mul_lt_mul_right (Nat.lt_of_le_of_lt f1 g2)
theorem fq_low {P : Nat} {L : Nat} (hL : L = bitLen P) {s : Int} (hs : (L : Int) + s ≤ 53) : Flt.fq P s < 2 ^ 53 := by
  have hP := (bitLen_spec P).1
  rw [← hL] at hP
  obtain ⟨f1, _, _⟩ := Flt.fq_spec P s
  generalize Flt.fq P s = Q at *
  generalize ha : s.toNat = a at *
  generalize hb : (-s).toNat = b at *
  have g2 : P * 2 ^ a < 2 ^ 53 * 2 ^ b := by
    have h1 := Nat.mul_lt_mul_of_pos_right hP (Nat.two_pow_pos a)
    rw [← Nat.pow_add] at h1
    have h2 : 2 ^ (L + a) ≤ 2 ^ (53 + b) := Nat.pow_le_pow_right (by decide) (by omega)
    rw [Nat.pow_add 2 53] at h2
    omega
  exact Nat.lt_of_mul_lt_mul_right (Nat.lt_of_le_of_lt f1 g2)
theorem dn_zero (den : Nat) (hd : 0 < den) : Flt.Dn 0 den 0 ∧ true = decide (Flt.val 0 * den = 0) := by
  refine ⟨⟨by rw [Flt.inf_eq]; omega, by rw [Flt.val_zero]; omega, fun _ => ?_⟩, by rw [Flt.val_zero]; simp⟩
  have : 0 < Flt.val (0 + 1) := by have := Flt.val_lt (show 0 < 0 + 1 by omega); omega
  exact Nat.mul_pos this hd

set_option maxRecDepth 100000 in
set_option maxHeartbeats 1600000 in
theorem ref_under_one (negq : Bool) (A Aq : Option Addr) (n c nq cq P : Nat) (e : Int) (w : World) (hp : IsInt w false A n c (P : Int)) (hq : IsInt w negq Aq nq cq 1) (hn : n ≤ 1000000) (he : -1000000 ≤ e ∧ e ≤ 1000000) :
    Calls Try.prog 61 #[.agg #[.bool false, .slice A n c], .agg #[.bool negq, .slice Aq nq cq], .int .i64 e] w (RetUnder w (P * 2 ^ (e + 1074).toNat) (2 ^ (-(e + 1074)).toNat)) := by
  obtain ⟨num, hnum⟩ : ∃ num, num = P * 2 ^ (e + 1074).toNat := ⟨_, rfl⟩
  obtain ⟨den, hden⟩ : ∃ den, den = 2 ^ (-(e + 1074)).toNat := ⟨_, rfl⟩
  rw [← hnum, ← hden]
  have HNUM := Lib.hid hnum
  have HDEN := Lib.hid hden
  clear hnum hden
  have hp2 := (hp.alloc (.cells #[.bool false, .slice A n c] 32)).alloc (.cells #[.bool negq, .slice Aq nq cq] 32)
  have hq2 := (hq.alloc (.cells #[.bool false, .slice A n c] 32)).alloc (.cells #[.bool negq, .slice Aq nq cq] 32)
  have hnq : nq ≤ 1 := isInt_len_le hq (by decide)
  by_cases hP0 : P = 0
  · subst hP0
    have hD : Flt.Dn num den 0 ∧ true = decide (Flt.val 0 * den = num) := by rw [show num = 0 by rw [HNUM.out]; omega]; exact dn_zero den (by rw [HDEN.out]; exact Nat.two_pow_pos _)
    have HD := Lib.hid hD
    clear hD
    go_enter Try.func61, Try.ntmps61
    go_wp2_with (go_at_call 43; refine (ref_sign_any _ _ _ _ _ _ (by exact hp2)).mono ?_; rintro e w1 ⟨rfl, hb1⟩)
    go_ret2
    exact ⟨0, true, rfl, HD.out.1, HD.out.2, below_box (below_box hb1)⟩
  · have hs1 : (P : Int).sign = 1 := Int.sign_eq_one_of_pos (by omega)
    have HS := Lib.hid hs1
    obtain ⟨L, hL⟩ : ∃ L, L = bitLen P := ⟨_, rfl⟩
    have hLb : L ≤ 32000000 := by
      obtain ⟨l, hl, _, _, hx⟩ := hp
      have h1 : Lm.lv l = P := by unfold sgnd at hx; simp at hx; omega
      have h2 := Lm.lv_lt hl.ok
      rw [h1, hl.len, show Lm.B ^ n = 2 ^ (32 * n) by rw [Nat.pow_mul]] at h2
      rw [hL]; unfold bitLen; rw [if_neg hP0]
      have := (Nat.log2_lt hP0).2 h2
      omega
    have HL1 : Hid (bitLen (P : Int).natAbs = L) := by rw [hL]; exact rfl
    have HL2 : Hid (bitLen (1 : Int).natAbs = 1) := rfl
    have HL := Lib.hid hL
    clear hL hs1
    go_enter Try.func61, Try.ntmps61
    go_wp2_with fail
    refine (ref_sign_any _ _ _ _ _ _ (by exact hp2)).mono ?_
    rintro e1 w1 ⟨rfl, hb1⟩
    rw [HS.out]
    obtain ⟨hc1, hf1⟩ := bcell hb1
    have k0 := hc1 w.heap.size 0 (by simp <;> omega)
    have k1 := hc1 w.heap.size 1 (by simp <;> omega)
    have k2 := hc1 (w.heap.size + 1) 0 (by simp <;> omega)
    have k3 := hc1 (w.heap.size + 1) 1 (by simp <;> omega)
    have hz1 : w.heap.size + 1 < w1.heap.size := by have := hb1.size; simp at this; omega
    have hp3 := hp2.below hb1
    have hq3 := hq2.below hb1
    have hbw1 := below_box (below_box hb1)
    go_wp2_with fail
    go_region_held3 (fun w' => w'.cell? ⟨w.heap.size, 0, none⟩ = some (.bool false) ∧ w'.cell? ⟨w.heap.size, 1, none⟩ = some (.slice A n c) ∧ w'.cell? ⟨w.heap.size + 1, 0, none⟩ = some (.bool negq) ∧ w'.cell? ⟨w.heap.size + 1, 1, none⟩ = some (.slice Aq nq cq))
      (go_keep)
      (first | (go_at_call 86; (with_reducible refine (ref_bits_of _ A _ _ _ L _ ?_ ?_ HL1).mono ?_); exact hp3.drewN 1; omega; rintro e2 w2 ⟨rfl, hb2⟩; obtain ⟨hc2, hf2⟩ := bcell hb2; have a0 := hc2 (w.heap.size) 0 (by simp <;> omega); have a1 := hc2 (w.heap.size) 1 (by simp <;> omega); have a2 := hc2 (w.heap.size + 1) 0 (by simp <;> omega); have a3 := hc2 (w.heap.size + 1) 1 (by simp <;> omega); have hz2 : w.heap.size + 1 < w2.heap.size := (by have := hb2.size; simp at this; omega); have hq4 := (hq3.drewN 1).below hb2; have hp4 := (hp3.drewN 1).below hb2; have hbw2 := below_next hbw1 (below_of_drew hb2)) | (go_at_call 86; (with_reducible refine (ref_bits_of _ Aq _ _ _ 1 _ ?_ ?_ HL2).mono ?_); exact hq4; omega; rintro e3 w3 ⟨rfl, hb3⟩; obtain ⟨hc3, hf3⟩ := bcell hb3; have b0 := hc3 (w.heap.size) 0 (by omega); have b1 := hc3 (w.heap.size) 1 (by omega); have b2 := hc3 (w.heap.size + 1) 0 (by omega); have b3 := hc3 (w.heap.size + 1) 1 (by omega); have hz3 : w.heap.size + 1 < w3.heap.size := (by have := hb3.size; omega); have hq5 := hq4.below hb3; have hp5 := hp4.below hb3; have hbw3 := below_next hbw2 hb3))
    have y0 : w3.cell? ⟨w.heap.size, 0, none⟩ = some (.bool false) := b0.trans (a0.trans (k0.trans (by simp [go_sem])))
    have y1 : w3.cell? ⟨w.heap.size, 1, none⟩ = some (.slice A n c) := b1.trans (a1.trans (k1.trans (by simp [go_sem])))
    have y2 : w3.cell? ⟨w.heap.size + 1, 0, none⟩ = some (.bool negq) := b2.trans (a2.trans (k2.trans (by simp [go_sem])))
    have y3 : w3.cell? ⟨w.heap.size + 1, 1, none⟩ = some (.slice Aq nq cq) := b3.trans (a3.trans (k3.trans (by simp [go_sem])))
    clear a0 a1 a2 a3 b0 b1 b2 b3 k0 k1 k2 k3 hc1 hf1 hc2 hf2 hc3 hf3 hb1 hb2 hb3
    by_cases hlow : (L : Int) + e - 54 < -1074
    · obtain ⟨Q, hQ⟩ : ∃ Q, Q = Flt.fq P (e + 1074) := ⟨_, rfl⟩
      obtain ⟨b, hb⟩ : ∃ b, b = Flt.fb P (e + 1074) := ⟨_, rfl⟩
      have hQlt : Q < 2 ^ 53 := by rw [hQ]; exact fq_low HL.out (by omega)
      have hD := Flt.dn_fin (P := P) (e := e) (k := -1074) (Q := Q) (by omega) (by omega) (by rw [hQ]; congr 1) hQlt (Or.inl rfl)
      rw [← HNUM.out, ← HDEN.out, show (-1074 + 1074 : Int).toNat * 2 ^ 52 + Q = Q by simp, show e - -1074 = e + 1074 by omega, ← hb] at hD
      have HD := Lib.hid hD
      have HQ := Lib.hid hQ
      have HB := Lib.hid hb
      clear hD hQ hb
      go_wp2_with fail
      refine (ref_quotient_fq negq A Aq _ _ _ _ P (e + 1074) _ (by exact hp5) (by exact hq5) (by omega) (by omega) Q b HQ HB (by omega)).mono ?_
      rintro e4 w4 ⟨rfl, hb4⟩
      have hbw4 := below_next hbw3 hb4
      obtain ⟨z, hz⟩ : ∃ z : Int, z = (Q : Int) := ⟨_, rfl⟩
      rw [← hz]
      have g1 : ¬ ((9007199254740992 : Int) ≤ z) := by omega
      have g2 : z.toNat = Q := by omega
      have g3 : 4503599627370496 + z - 4503599627370496 = z := by omega
      have G2 := Lib.hid g2
      have G3 := Lib.hid g3
      clear hz HQ hQlt g2 g3
      by_cases hq52 : z < 4503599627370496
      · go_wp2_with fail
        rw [G2.out]
        go_ret2
        exact ⟨Q, b, rfl, HD.out.1, HD.out.2, hbw4⟩
      · go_wp2_with fail
        rw [G3.out, G2.out]
        go_ret2
        exact ⟨Q, b, rfl, HD.out.1, HD.out.2, hbw4⟩
    · by_cases hbig : (L : Int) + e - 54 > 2000
      · have hD := Flt.dn_big (P := P) (e := e) (k := (L : Int) + e - 54) (by omega) (by rw [show e - ((L : Int) + e - 54) = 54 - (L : Int) by omega]; have := fq_bits hP0 HL.out; omega)
        rw [← HNUM.out, ← HDEN.out, Flt.inf_eq] at hD
        have HD := Lib.hid hD
        clear hD
        go_wp2_with fail
        go_ret2
        exact ⟨_, _, rfl, HD.out.1, by simp [HD.out.2], hbw3⟩
      · obtain ⟨Q, hQ⟩ : ∃ Q, Q = Flt.fq P (54 - (L : Int)) := ⟨_, rfl⟩
        obtain ⟨b, hb⟩ : ∃ b, b = Flt.fb P (54 - (L : Int)) := ⟨_, rfl⟩
        have hQb := fq_bits hP0 HL.out
        rw [← hQ] at hQb
        have HQ := Lib.hid hQ
        have HB := Lib.hid hb
        have HQB := Lib.hid hQb
        clear hQ hb hQb
        go_wp2_with fail
        rw [show (e - ((L : Int) - 1 + e - 53)) = 54 - (L : Int) by omega]
        refine (ref_quotient_fq negq A Aq _ _ _ _ P (54 - (L : Int)) _ (by exact hp5) (by exact hq5) (by omega) (by omega) Q b HQ HB (by have := HQB.out; omega)).mono ?_
        rintro e4 w4 ⟨rfl, hb4⟩
        have hbw4 := below_next hbw3 hb4
        obtain ⟨z, hz⟩ : ∃ z : Int, z = (Q : Int) := ⟨_, rfl⟩
        obtain ⟨h, hh⟩ : ∃ h : Int, h = ((Q / 2 : Nat) : Int) := ⟨_, rfl⟩
        rw [← hz]
        have hQb := HQB.out
        have g1 : (9007199254740992 : Int) ≤ z := by omega
        have gh : z.tdiv 2 = h := by rw [hz, hh, Int.tdiv_eq_ediv_of_nonneg (by omega)]; omega
        have gw : IntKind.u64.wrap h = h := IntWalk.u64_in _ (by omega)
        have g2 : ¬ h < 4503599627370496 := by omega
        have g4 : h < 9007199254740992 := by omega
        have GZ := Lib.hid hz
        have GH := Lib.hid hh
        obtain ⟨c1, hc⟩ : ∃ c1 : Bool, (z % 2 == 0) = c1 := ⟨_, rfl⟩
        have gc : Hid ((Flt.fb P (54 - (L : Int)) && Flt.fq P (54 - (L : Int)) % 2 == 0) = (b && c1)) := by
          have : (Q % 2 == 0) = c1 := by rw [← hc, hz, Bool.eq_iff_iff]; simp only [beq_iff_eq]; omega
          rw [← HQ.out, ← HB.out, this]
          exact rfl
        have HQ2 := HQ
        clear hz hh HQ HB
        have hh2 := Flt.fq_half P (54 - (L : Int))
        by_cases hk : (971 : Int) < (L : Int) + e - 53
        · have hD := Flt.dn_big (P := P) (e := e) (k := (L : Int) + e - 53) (by omega) (by rw [show e - ((L : Int) + e - 53) = 54 - (L : Int) - 1 by omega, hh2.1, ← HQ2.out]; omega)
          rw [← HNUM.out, ← HDEN.out, Flt.inf_eq] at hD
          have HD := Lib.hid hD
          clear hD hh2 hQb
          cases b with
          | true =>
            go_wp2_with fail
            go_ret2
            exact ⟨_, _, rfl, HD.out.1, by simp [HD.out.2], hbw4⟩
          | false =>
            go_wp2_with fail
            go_ret2
            exact ⟨_, _, rfl, HD.out.1, by simp [HD.out.2], hbw4⟩
        · have hD := Flt.dn_fin (P := P) (e := e) (k := (L : Int) + e - 53) (Q := Q / 2) (by omega) (by omega) (by rw [show e - ((L : Int) + e - 53) = 54 - (L : Int) - 1 by omega, hh2.1, ← HQ2.out]) (by omega) (Or.inr (by omega))
          rw [← HNUM.out, ← HDEN.out, show e - ((L : Int) + e - 53) = 54 - (L : Int) - 1 by omega, hh2.2, gc.out, show (((L : Int) + e - 53) + 1074).toNat * 2 ^ 52 + Q / 2 = (((L : Int) - 1 + e - 53 + 1 + 1075) * 4503599627370496 + h - 4503599627370496).toNat by rw [GH.out]; omega] at hD
          generalize hr : (((L : Int) - 1 + e - 53 + 1 + 1075) * 4503599627370496 + h - 4503599627370496).toNat = r at hD
          have HD := Lib.hid hD
          have HR := Lib.hid hr
          clear hD hh2 hQb hr
          cases b with
          | true =>
            go_wp2_with fail
            rw [HR.out]
            go_ret2
            exact ⟨r, c1, rfl, HD.out.1, HD.out.2, hbw4⟩
          | false =>
            go_wp2_with fail
            rw [HR.out]
            go_ret2
            exact ⟨r, false, rfl, HD.out.1, HD.out.2, hbw4⟩
end Go.Proofs.Ythddodhcpfponaa
