/-
  The references' floats (polestarref04): the greatest float that is not above a fraction times a power of two: the walk.
-/
import Derived.Test.YthddodhcpfponaaRef4J
namespace Go.Proofs.Ythddodhcpfponaa
open Go.RowKit

set_option maxRecDepth 100000 in
set_option maxHeartbeats 1600000 in
theorem ref_under_long (negq : Bool) (A Aq : Option Addr) (n c nq cq P D : Nat) (e : Int) (w : World) (hp : IsInt w false A n c (P : Int)) (hq : IsInt w negq Aq nq cq (D : Int)) (hn : n ≤ 10000) (hnq : nq ≤ 10000) (hD0 : D ≠ 0) (hD1 : D ≠ 1) (he : -100000 ≤ e ∧ e ≤ 100000) :
    Calls Try.prog 61 #[.agg #[.bool false, .slice A n c], .agg #[.bool negq, .slice Aq nq cq], .int .i64 e] w (RetUnder w (P * 2 ^ (e + 1074).toNat) (D * 2 ^ (-(e + 1074)).toNat)) := by
  obtain ⟨num, hnum⟩ : ∃ num, num = P * 2 ^ (e + 1074).toNat := ⟨_, rfl⟩
  obtain ⟨den, hden⟩ : ∃ den, den = D * 2 ^ (-(e + 1074)).toNat := ⟨_, rfl⟩
  rw [← hnum, ← hden]
  have HNUM := Lib.hid hnum
  have HDEN := Lib.hid hden
  clear hnum hden
  have hp2 := (hp.alloc (.cells #[.bool false, .slice A n c] 32)).alloc (.cells #[.bool negq, .slice Aq nq cq] 32)
  have hq2 := (hq.alloc (.cells #[.bool false, .slice A n c] 32)).alloc (.cells #[.bool negq, .slice Aq nq cq] 32)
  have hDp : Hid (0 < D) := Lib.hid (by omega)
  by_cases hP0 : P = 0
  · subst hP0
    have hD : Flt.Dn num den 0 ∧ true = decide (Flt.val 0 * den = num) := by rw [show num = 0 by rw [HNUM.out]; omega]; exact dn_zero den (by rw [HDEN.out]; exact Nat.mul_pos hDp.out (Nat.two_pow_pos _))
    have HD := Lib.hid hD
    clear hD
    go_enter Try.func61, Try.ntmps61
    go_wp2_with (go_at_call 43; refine (ref_sign_any _ _ _ _ _ _ (by exact hp2)).mono ?_; rintro e w1 ⟨rfl, hb1⟩)
    go_ret2
    exact ⟨0, true, rfl, HD.out.1, HD.out.2, below_box (below_box hb1)⟩
  · have hs1 : (P : Int).sign = 1 := Int.sign_eq_one_of_pos (by omega)
    have HS := Lib.hid hs1
    obtain ⟨L, hL⟩ : ∃ L, L = bitLen P := ⟨_, rfl⟩
    have hLb : L ≤ 320000 := by
      obtain ⟨l, hl, _, _, hx⟩ := hp
      have h1 : Lm.lv l = P := by unfold sgnd at hx; simp at hx; omega
      have h2 := Lm.lv_lt hl.ok
      rw [h1, hl.len, show Lm.B ^ n = 2 ^ (32 * n) by rw [Nat.pow_mul]] at h2
      rw [hL]; unfold bitLen; rw [if_neg hP0]
      have := (Nat.log2_lt hP0).2 h2
      omega
    obtain ⟨M, hM⟩ : ∃ M, M = bitLen D := ⟨_, rfl⟩
    have hMb : M ≤ 320000 := by
      have h2 := isInt_lt hq
      rw [Int.natAbs_natCast, show Lm.B ^ nq = 2 ^ (32 * nq) by rw [Nat.pow_mul]] at h2
      rw [hM]; unfold bitLen; rw [if_neg hD0]
      have := (Nat.log2_lt hD0).2 h2
      omega
    have hLM : Hid (1 ≤ L ∧ 1 ≤ M) := Lib.hid (by rw [hL, hM]; unfold bitLen; rw [if_neg hD0, if_neg hP0]; omega)
    have HL1 : Hid (bitLen (P : Int).natAbs = L) := by rw [hL]; exact rfl
    have HL2 : Hid (bitLen (D : Int).natAbs = M) := by rw [hM]; exact rfl
    have HM := Lib.hid hM
    clear hM
    have HL := Lib.hid hL
    clear hL hs1
    go_enter Try.func61, Try.ntmps61
    go_wp2_with fail
    refine (ref_sign_any _ _ _ _ _ _ (by exact hp2)).mono ?_
    rintro e1 w1 ⟨rfl, hb1⟩
    rw [HS.out]
    obtain ⟨hc1, hf1⟩ := bcell hb1
    have k0 := hc1 w.heap.size 0 (by simp <;> omega)
    have k1 := hc1 w.heap.size 1 (by simp <;> omega)
    have k2 := hc1 (w.heap.size + 1) 0 (by simp <;> omega)
    have k3 := hc1 (w.heap.size + 1) 1 (by simp <;> omega)
    have hz1 : w.heap.size + 1 < w1.heap.size := by have := hb1.size; simp at this; omega
    have hp3 := hp2.below hb1
    have hq3 := hq2.below hb1
    have hbw1 := below_box (below_box hb1)
    go_wp2_with fail
    go_region_held3 (fun w' => w'.cell? ⟨w.heap.size, 0, none⟩ = some (.bool false) ∧ w'.cell? ⟨w.heap.size, 1, none⟩ = some (.slice A n c) ∧ w'.cell? ⟨w.heap.size + 1, 0, none⟩ = some (.bool negq) ∧ w'.cell? ⟨w.heap.size + 1, 1, none⟩ = some (.slice Aq nq cq))
      (go_keep)
      (first | (go_at_call 86; (with_reducible refine (ref_bits_of _ A _ _ _ L _ ?_ ?_ HL1).mono ?_); exact hp3.drewN 1; omega; rintro e2 w2 ⟨rfl, hb2⟩; obtain ⟨hc2, hf2⟩ := bcell hb2; have a0 := hc2 (w.heap.size) 0 (by simp <;> omega); have a1 := hc2 (w.heap.size) 1 (by simp <;> omega); have a2 := hc2 (w.heap.size + 1) 0 (by simp <;> omega); have a3 := hc2 (w.heap.size + 1) 1 (by simp <;> omega); have hz2 : w.heap.size + 1 < w2.heap.size := (by have := hb2.size; simp at this; omega); have hq4 := (hq3.drewN 1).below hb2; have hp4 := (hp3.drewN 1).below hb2; have hbw2 := below_next hbw1 (below_of_drew hb2)) | (go_at_call 86; (with_reducible refine (ref_bits_of _ Aq _ _ _ M _ ?_ ?_ HL2).mono ?_); exact hq4; omega; rintro e3 w3 ⟨rfl, hb3⟩; obtain ⟨hc3, hf3⟩ := bcell hb3; have b0 := hc3 (w.heap.size) 0 (by omega); have b1 := hc3 (w.heap.size) 1 (by omega); have b2 := hc3 (w.heap.size + 1) 0 (by omega); have b3 := hc3 (w.heap.size + 1) 1 (by omega); have hz3 : w.heap.size + 1 < w3.heap.size := (by have := hb3.size; omega); have hq5 := hq4.below hb3; have hp5 := hp4.below hb3; have hbw3 := below_next hbw2 hb3))
    have y0 : w3.cell? ⟨w.heap.size, 0, none⟩ = some (.bool false) := b0.trans (a0.trans (k0.trans (by simp [go_sem])))
    have y1 : w3.cell? ⟨w.heap.size, 1, none⟩ = some (.slice A n c) := b1.trans (a1.trans (k1.trans (by simp [go_sem])))
    have y2 : w3.cell? ⟨w.heap.size + 1, 0, none⟩ = some (.bool negq) := b2.trans (a2.trans (k2.trans (by simp [go_sem])))
    have y3 : w3.cell? ⟨w.heap.size + 1, 1, none⟩ = some (.slice Aq nq cq) := b3.trans (a3.trans (k3.trans (by simp [go_sem])))
    clear a0 a1 a2 a3 b0 b1 b2 b3 k0 k1 k2 k3 hc1 hf1 hc2 hf2 hc3 hf3 hb1 hb2 hb3
    have hs0 : Hid (1 ≤ L ∧ 1 ≤ M) := hLM
    by_cases hlow : (L : Int) - (M : Int) + e - 53 < -1074
    · obtain ⟨Q, hQ⟩ : ∃ Q, Q = qq P D (e + 1074) := ⟨_, rfl⟩
      obtain ⟨b, hb⟩ : ∃ b, b = qb P D (e + 1074) := ⟨_, rfl⟩
      have hQlt : Q < 2 ^ 53 := by rw [hQ]; exact qq_low hP0 hD0 HL.out HM.out (by omega)
      have hD := (qq_dn P (D := D) (E := 0) (e := e) (k := -1074) hDp.out (by omega) (by decide)).1
      rw [show e - -1074 = e + 1074 by omega, ← hQ, ← hb, Nat.zero_mul, Nat.zero_add, ← HNUM.out, ← HDEN.out] at hD
      have hD := hD (by omega) hQlt (Or.inl rfl)
      have HD := Lib.hid hD
      have HQ := Lib.hid hQ
      have HB := Lib.hid hb
      clear hD hQ hb
      go_wp2_with fail
      refine (ref_quot_of negq A Aq _ _ _ _ P D (e + 1074) _ (by exact hp5) (by exact hq5) (by omega) (by omega) (by omega) hD0 hD1 Q b HQ HB (by omega)).mono ?_
      rintro e4 w4 ⟨rfl, hb4⟩
      have hbw4 := below_next hbw3 hb4
      obtain ⟨z, hz⟩ : ∃ z : Int, z = (Q : Int) := ⟨_, rfl⟩
      rw [← hz]
      have g1 : ¬ ((9007199254740992 : Int) ≤ z) := by omega
      have g2 : z.toNat = Q := by omega
      have g3 : 4503599627370496 + z - 4503599627370496 = z := by omega
      have G2 := Lib.hid g2
      have G3 := Lib.hid g3
      clear hz HQ hQlt g2 g3
      by_cases hq52 : z < 4503599627370496
      · go_wp2_with fail
        rw [G2.out]
        go_ret2
        exact ⟨Q, b, rfl, HD.out.1, HD.out.2, hbw4⟩
      · go_wp2_with fail
        rw [G3.out, G2.out]
        go_ret2
        exact ⟨Q, b, rfl, HD.out.1, HD.out.2, hbw4⟩
    · have hbits := qq_bits hP0 hD0 HL.out HM.out
      by_cases hbig : (L : Int) - (M : Int) + e - 53 > 2000
      · have hD := (qq_dn P (D := D) (E := ((L : Int) - (M : Int) + e - 53 + 1074).toNat) (e := e) (k := (L : Int) - (M : Int) + e - 53) hDp.out (by omega) rfl).2 (by omega) (by rw [show e - ((L : Int) - (M : Int) + e - 53) = 53 + (M : Int) - (L : Int) by omega]; exact hbits.1)
        rw [← HNUM.out, ← HDEN.out, Flt.inf_eq] at hD
        have HD := Lib.hid hD
        clear hD hbits
        go_wp2_with fail
        go_ret2
        exact ⟨_, _, rfl, HD.out.1, by simp [HD.out.2], hbw3⟩
      · obtain ⟨Q, hQ⟩ : ∃ Q, Q = qq P D (53 + (M : Int) - (L : Int)) := ⟨_, rfl⟩
        obtain ⟨b, hb⟩ : ∃ b, b = qb P D (53 + (M : Int) - (L : Int)) := ⟨_, rfl⟩
        rw [← hQ] at hbits
        have HQ := Lib.hid hQ
        have HB := Lib.hid hb
        have HQB := Lib.hid hbits
        clear hQ hb hbits
        go_wp2_with fail
        rw [show (e - ((L : Int) - (M : Int) + e - 53)) = 53 + (M : Int) - (L : Int) by omega]
        refine (ref_quot_of negq A Aq _ _ _ _ P D (53 + (M : Int) - (L : Int)) _ (by exact hp5) (by exact hq5) (by omega) (by omega) (by omega) hD0 hD1 Q b HQ HB (by have := HQB.out; omega)).mono ?_
        rintro e4 w4 ⟨rfl, hb4⟩
        have hbw4 := below_next hbw3 hb4
        obtain ⟨z, hz⟩ : ∃ z : Int, z = (Q : Int) := ⟨_, rfl⟩
        rw [← hz]
        have hQb := HQB.out
        by_cases h53 : Q < 2 ^ 53
        · have g1 : ¬ (9007199254740992 : Int) ≤ z := by omega
          have g2 : ¬ z < 4503599627370496 := by omega
          have g4 : z < 9007199254740992 := by omega
          have GZ := Lib.hid hz
          have H53 := Lib.hid h53
          clear hz h53 hQb
          by_cases hk : (971 : Int) < (L : Int) - (M : Int) + e - 53
          · have hD := (qq_dn P (D := D) (E := ((L : Int) - (M : Int) + e - 53 + 1074).toNat) (e := e) (k := (L : Int) - (M : Int) + e - 53) hDp.out (by omega) rfl).2 hk (by rw [show e - ((L : Int) - (M : Int) + e - 53) = 53 + (M : Int) - (L : Int) by omega, ← HQ.out]; exact HQB.out.1)
            rw [← HNUM.out, ← HDEN.out, Flt.inf_eq] at hD
            have HD := Lib.hid hD
            clear hD HQ HB
            go_wp2_with fail
            go_ret2
            exact ⟨_, _, rfl, HD.out.1, by simp [HD.out.2], hbw4⟩
          · have hD := (qq_dn P (D := D) (E := ((L : Int) - (M : Int) + e - 53 + 1074).toNat) (e := e) (k := (L : Int) - (M : Int) + e - 53) hDp.out (by omega) rfl).1
            rw [show e - ((L : Int) - (M : Int) + e - 53) = 53 + (M : Int) - (L : Int) by omega, ← HQ.out, ← HB.out, ← HNUM.out, ← HDEN.out, show ((L : Int) - (M : Int) + e - 53 + 1074).toNat * 2 ^ 52 + Q = (((L : Int) - (M : Int) + e - 53 + 1075) * 4503599627370496 + z - 4503599627370496).toNat by rw [GZ.out]; omega] at hD
            have hD := hD (by omega) H53.out (Or.inr (by have := HQB.out; omega))
            generalize hr : (((L : Int) - (M : Int) + e - 53 + 1075) * 4503599627370496 + z - 4503599627370496).toNat = r at hD
            have HD := Lib.hid hD
            have HR := Lib.hid hr
            clear hD hr HQ HB
            go_wp2_with fail
            rw [HR.out]
            go_ret2
            exact ⟨r, b, rfl, HD.out.1, HD.out.2, hbw4⟩
        · obtain ⟨h, hh⟩ : ∃ h : Int, h = ((Q / 2 : Nat) : Int) := ⟨_, rfl⟩
          have g1 : (9007199254740992 : Int) ≤ z := by omega
          have gh : z.tdiv 2 = h := by rw [hz, hh, Int.tdiv_eq_ediv_of_nonneg (by omega)]; omega
          have gw : IntKind.u64.wrap h = h := IntWalk.u64_in _ (by omega)
          have g2 : ¬ h < 4503599627370496 := by omega
          have g4 : h < 9007199254740992 := by omega
          have GZ := Lib.hid hz
          have GH := Lib.hid hh
          obtain ⟨c1, hc⟩ : ∃ c1 : Bool, (z % 2 == 0) = c1 := ⟨_, rfl⟩
          have gc : Hid ((qb P D (53 + (M : Int) - (L : Int)) && qq P D (53 + (M : Int) - (L : Int)) % 2 == 0) = (b && c1)) := by
            have : (Q % 2 == 0) = c1 := by rw [← hc, hz, Bool.eq_iff_iff]; simp only [beq_iff_eq]; omega
            rw [← HQ.out, ← HB.out, this]
            exact rfl
          have HQ2 := HQ
          have h53' : 9007199254740992 ≤ Q := by omega
          clear hz hh HQ HB h53
          have hh2 := qq_half P hDp.out (53 + (M : Int) - (L : Int))
          by_cases hk : (971 : Int) < (L : Int) - (M : Int) + e - 52
          · have hD := (qq_dn P (D := D) (E := ((L : Int) - (M : Int) + e - 52 + 1074).toNat) (e := e) (k := (L : Int) - (M : Int) + e - 52) hDp.out (by omega) rfl).2 hk (by rw [show e - ((L : Int) - (M : Int) + e - 52) = 53 + (M : Int) - (L : Int) - 1 by omega, hh2.1, ← HQ2.out]; omega)
            rw [← HNUM.out, ← HDEN.out, Flt.inf_eq] at hD
            have HD := Lib.hid hD
            clear hD hh2 hQb
            cases b with
            | true =>
              go_wp2_with fail
              go_ret2
              exact ⟨_, _, rfl, HD.out.1, by simp [HD.out.2], hbw4⟩
            | false =>
              go_wp2_with fail
              go_ret2
              exact ⟨_, _, rfl, HD.out.1, by simp [HD.out.2], hbw4⟩
          · have hD := (qq_dn P (D := D) (E := ((L : Int) - (M : Int) + e - 52 + 1074).toNat) (e := e) (k := (L : Int) - (M : Int) + e - 52) hDp.out (by omega) rfl).1
            rw [show e - ((L : Int) - (M : Int) + e - 52) = 53 + (M : Int) - (L : Int) - 1 by omega, hh2.1, hh2.2, gc.out, ← HQ2.out, ← HNUM.out, ← HDEN.out, show ((L : Int) - (M : Int) + e - 52 + 1074).toNat * 2 ^ 52 + Q / 2 = (((L : Int) - (M : Int) + e - 53 + 1 + 1075) * 4503599627370496 + h - 4503599627370496).toNat by rw [GH.out]; omega] at hD
            have hD := hD (by omega) (by omega) (Or.inr (by omega))
            generalize hr : (((L : Int) - (M : Int) + e - 53 + 1 + 1075) * 4503599627370496 + h - 4503599627370496).toNat = r at hD
            have HD := Lib.hid hD
            have HR := Lib.hid hr
            clear hD hh2 hQb hr
            cases b with
            | true =>
              go_wp2_with fail
              rw [HR.out]
              go_ret2
              exact ⟨r, c1, rfl, HD.out.1, HD.out.2, hbw4⟩
            | false =>
              go_wp2_with fail
              rw [HR.out]
              go_ret2
              exact ⟨r, false, rfl, HD.out.1, HD.out.2, hbw4⟩
end Go.Proofs.Ythddodhcpfponaa
