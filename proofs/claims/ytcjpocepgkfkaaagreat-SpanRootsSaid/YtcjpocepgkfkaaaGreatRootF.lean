/-
  The references' roots of floats (polestarref04.Sqrt).
-/
import Derived.Test.YtcjpocepgkfkaaaGreatRootR
namespace Go.Proofs.YtcjpocepgkfkaaaGreat
open Go.RowKit

/-! ### plain -/
theorem root_dn {X r s T d : Nat} (hr : IsRt X r) (hrl : 2 ^ 53 ≤ r) (hT : T = X * 2 ^ (s + s)) (hd : Flt.Dn (r * 2 ^ s) 1 d) (hTi : T < Flt.val Flt.inf * Flt.val Flt.inf) :
    DnSq T d ∧ (Flt.val d * Flt.val d = T ↔ (r * r = X ∧ Flt.val d * 1 = r * 2 ^ s)) := by
  obtain ⟨h1, h2, h3⟩ := hd
  rw [Nat.mul_one] at h2
  have hP := Nat.two_pow_pos s
  have e1 : r * 2 ^ s * (r * 2 ^ s) = r * r * 2 ^ (s + s) := by rw [Nat.mul_mul_mul_comm, ← Nat.pow_add]
  have h4 : r * r * 2 ^ (s + s) ≤ T := by rw [hT]; exact Nat.mul_le_mul_right _ hr.1
  have h5 := Nat.mul_le_mul h2 h2
  rw [e1] at h5
  refine ⟨⟨h1, Nat.le_trans h5 h4, ?_⟩, ?_⟩
  · by_cases hi : d < Flt.inf - 1
    · have h6 := h3 hi
      rw [Nat.mul_one] at h6
      obtain ⟨m, hm, hv⟩ := Flt.val_form (d + 1)
      have hex : s ≤ Flt.ex (d + 1) := by
        rcases Nat.lt_or_ge (Flt.ex (d + 1)) s with h | h
        · exfalso
          have h7 : 2 ^ Flt.ex (d + 1) ≤ 2 ^ s := Nat.pow_le_pow_right (by decide) (by omega)
          have h8 : m * 2 ^ Flt.ex (d + 1) ≤ r * 2 ^ s := Nat.mul_le_mul (by omega) h7
          omega
        · exact h
      have e2 : Flt.val (d + 1) = m * 2 ^ (Flt.ex (d + 1) - s) * 2 ^ s := by
        rw [hv, Nat.mul_assoc, ← Nat.pow_add]; congr 2; omega
      rw [e2] at h6 ⊢
      have h9 : r + 1 ≤ m * 2 ^ (Flt.ex (d + 1) - s) := Nat.lt_of_mul_lt_mul_right h6
      have h10 := Nat.mul_le_mul h9 h9
      rw [Nat.mul_mul_mul_comm, ← Nat.pow_add, hT]
      exact Nat.lt_of_lt_of_le (Nat.mul_lt_mul_of_pos_right hr.2 (Nat.two_pow_pos _)) (Nat.mul_le_mul_right _ h10)
    · rw [show d + 1 = Flt.inf by have := h1; have := Flt.inf_eq; omega]
      exact hTi
  · constructor
    · intro h
      have h6 : r * 2 ^ s ≤ Flt.val d := by
        rcases Nat.lt_or_ge (Flt.val d) (r * 2 ^ s) with h' | h'
        · have := Nat.mul_lt_mul'' h' h'
          rw [e1] at this
          omega
        · exact h'
      have h7 : Flt.val d = r * 2 ^ s := by omega
      refine ⟨?_, by rw [Nat.mul_one]; exact h7⟩
      rw [h7, e1, hT] at h
      exact Nat.eq_of_mul_eq_mul_right (Nat.two_pow_pos _) h
    · rintro ⟨h6, h7⟩
      rw [Nat.mul_one] at h7
      rw [h7, e1, h6, hT]
theorem root_big {X r : Nat} (hr : IsRt X r) (hX : 2 ^ 200 ≤ X) : 2 ^ 53 ≤ r := by
  rcases Nat.lt_or_ge r (2 ^ 53) with h | h
  · exfalso
    have h1 : (r + 1) * (r + 1) ≤ 2 ^ 53 * 2 ^ 53 := Nat.mul_le_mul (by omega) (by omega)
    have := hr.2
    omega
  · exact h
theorem root_top {V : Nat} (h : V < Flt.val Flt.inf) : V * 2 ^ Flt.K74 < Flt.val Flt.inf * Flt.val Flt.inf := by
  have hK : 2 ^ Flt.K74 ≤ Flt.val Flt.inf := by
    obtain ⟨E, hE⟩ : ∃ E : Nat, E = 2046 := ⟨_, rfl⟩
    have := val_pow E
    rw [show (E + 1) * 2 ^ 52 = Flt.inf by rw [Flt.inf_eq]; omega] at this
    rw [this]
    exact Nat.pow_le_pow_right (by decide) (by have := Flt.K74_eq; omega)
  exact Nat.lt_of_lt_of_le (Nat.mul_lt_mul_of_pos_right h (Nat.two_pow_pos _)) (Nat.mul_le_mul_left _ hK)

/-- What the reference tells of a positive number's root. -/
theorem ref_root_told {x Z E X r s d : Nat} (hx : x < 2 ^ 64) (hp : Pos x) (hz : Z * 2 ^ E = Flt.val x) (hX : X = Z * 2 ^ 200) (hr : IsRt X r) (hs : s + s = E + 874) (hd : Flt.Dn (r * 2 ^ s) 1 d) :
    IsRoot x d (if (decide (r * r = X) && decide (Flt.val d * 1 = r * 2 ^ s)) then d else d + 1) := by
  have hxr := pos_word hx hp
  have hxi : x < Flt.inf := by have := hp.1; unfold Flt.Fin at this; rw [hxr] at this; exact this
  have hx0 : 0 < Flt.val x := val_pos (by have := hp.2.2; rw [hxr] at this; exact this)
  have hZ : 1 ≤ Z := by
    rcases Nat.eq_zero_or_pos Z with h | h
    · rw [h, Nat.zero_mul] at hz; omega
    · exact h
  have hX2 : 2 ^ 200 ≤ X := by rw [hX]; exact Nat.le_mul_of_pos_left _ hZ
  have hT : Flt.val x * 2 ^ Flt.K74 = X * 2 ^ (s + s) := by
    rw [hX, ← hz, Nat.mul_assoc, Nat.mul_assoc, ← Nat.pow_add, ← Nat.pow_add]
    congr 2
    have := Flt.K74_eq
    omega
  obtain ⟨h1, h2⟩ := root_dn hr (root_big hr hX2) hT hd (root_top (Flt.val_lt hxi))
  refine ⟨fun h => absurd hp h, fun _ => ?_⟩
  rw [hxr]
  refine ⟨d, h1, rfl, ?_⟩
  by_cases h : Flt.val d * Flt.val d = Flt.val x * 2 ^ Flt.K74
  · obtain ⟨a, b⟩ := h2.1 h
    rw [if_pos h, decide_eq_true a, decide_eq_true b]
    rfl
  · rw [if_neg h, if_neg]
    intro hh
    rw [Bool.and_eq_true] at hh
    exact h (h2.2 ⟨of_decide_eq_true hh.1, of_decide_eq_true hh.2⟩)

set_option maxRecDepth 100000 in
set_option maxHeartbeats 1600000 in
theorem ref_sqrt_float (x : Nat) (hx : x < 2 ^ 64) (w : World) : Calls Tryz.prog 36 #[.float .f64 x] w (RetPair w (IsRoot x)) := by
  cases hf : Flt.finB x with
  | false =>
    have hc : Hid (¬ Pos x) := Lib.hid (fun h => absurd h.1 (Flt.finB_false.1 hf))
    have HF := Lib.hid hf
    clear hf
    go_enter Tryz.func36, Tryz.ntmps36
    go_wp2_with (first | (go_at_call 31; refine (sqrt_any x _).mono ?_; rintro e w' ⟨z, d, rfl, hz, rfl⟩; have HZ := Lib.hid hz; clear hz) | (go_at_call 54; (with_reducible refine (ref_finite_any x hx _).mono ?_); rintro e1 w1 ⟨rfl, rfl⟩; rw [HF.out]))
    go_ret2
    exact ⟨z, z, rfl, ⟨fun _ => ⟨z, HZ.out, rfl, rfl⟩, fun h => absurd h hc.out⟩, below_drewN (Below.refl _ _) d⟩
  | true =>
    have hfx := Flt.finB_iff.1 hf
    have HF := Lib.hid hf
    obtain ⟨c1, c2⟩ := leq_zero hfx
    clear hf
    by_cases hp : Pos x
    · have hsv := (pos_sv.2 hp).2
      rw [decide_eq_false (by omega)] at c1 c2
      have HSV := Lib.hid hsv
      have HP := Lib.hid hp
      clear hsv hp hfx
      go_enter Tryz.func36, Tryz.ntmps36
      go_wp2_with (first | (go_at_call 31; refine (sqrt_any x _).mono ?_; rintro e w' ⟨z0, d, rfl, hz, rfl⟩; clear hz) | (go_at_call 54; (with_reducible refine (ref_finite_any x hx _).mono ?_); rintro e1 w1 ⟨rfl, rfl⟩; rw [HF.out]))
      refine (ref_worth_any x hx _).mono ?_
      rintro e1 w1 ⟨neg1, A1, n1, k1, z1, E1, rfl, hI1, hE1, hz1, hw1, hb1⟩
      obtain ⟨Z1, hZ1⟩ : ∃ Z : Nat, z1 = (Z : Int) := by
        have hpos := HSV.out
        rw [← hw1] at hpos
        rcases Int.lt_or_le z1 0 with h | h
        · have := Int.mul_nonpos_of_nonpos_of_nonneg (Int.le_of_lt h) (Int.natCast_nonneg (2 ^ E1))
          omega
        · exact ⟨z1.toNat, (Int.toNat_of_nonneg h).symm⟩
      subst hZ1
      rw [Int.natAbs_natCast] at hz1
      have hw2 : Z1 * 2 ^ E1 = Flt.val x := by
        have h1 := HP.out
        have h2 := pos_word hx h1
        have h3 : Flt.sv x = Flt.val x := by unfold Flt.sv; rw [h1.2.1, h2]; rfl
        rw [h3, ← Int.natCast_mul] at hw1
        exact Int.ofNat_inj.1 hw1
      have HW := Lib.hid hw2
      have hbw1 : Below w.heap.size w w1 := below_of_drewN (k := d) hb1
      have hn1 : n1 ≤ 2 := isInt_len_le hI1 (by rw [Int.natAbs_natCast, show Lm.B ^ 2 = 2 ^ 64 by decide]; omega)
      have hi1 := hI1.alloc (.cells #[.bool neg1, .slice A1 n1 k1] 47)
      clear hw1 hw2 hb1 c1 c2
      go_upto_if 29 with (fail)
      go_cut [6] from 23 (fun s6 wx => ∃ (Z E : Nat) (neg : Bool) (A : Option Addr) (n c : Nat), s6 = .int .i64 ((E : Int) - 1074) ∧ E % 2 = 0 ∧ E ≤ 2046 ∧ n ≤ 3 ∧ IsInt wx neg A n c (Z : Int) ∧ Hid (Z * 2 ^ E = Flt.val x) ∧
        wx.cell? ⟨w1.heap.size, 0, none⟩ = some (.bool neg) ∧ wx.cell? ⟨w1.heap.size, 1, none⟩ = some (.slice A n c) ∧ w1.heap.size < wx.heap.size ∧ Below w.heap.size w wx)
      case first =>
        by_cases hodd : E1 % 2 = 1
        · have hb : (((E1 : Int) - 1074).tmod 2 != 0) = true := by
            rw [bne_iff_ne]
            intro h
            have := Int.dvd_of_tmod_eq_zero h
            omega
          obtain ⟨v, hv⟩ : ∃ v : Int, v = ((2 * Z1 : Nat) : Int) := ⟨_, rfl⟩
          have HV : Hid (v = (Z1 : Int) * 2 ^ (1 : Int).toNat) := Lib.hid (by rw [hv, Int.natCast_mul]; show (2 : Int) * Z1 = Z1 * 2; omega)
          go_wp2_with fail
          refine (ref_double_int neg1 A1 n1 k1 (Z1 : Int) 1 v _ hi1 (by omega) (.inr (by omega)) (by omega) (by omega) HV).mono ?_
          rintro e2 w2 ⟨neg2, A2, n2, k2, rfl, hI2, hb2⟩
          rw [hv] at hI2
          have hn2 : n2 ≤ 3 := isInt_len_le hI2 (by rw [Int.natAbs_natCast, show Lm.B ^ 3 = 2 ^ 96 by decide]; omega)
          obtain ⟨hc2, hf2⟩ := bcell hb2
          have a0 : w2.cell? ⟨w1.heap.size, 0, none⟩ = some (.bool neg1) := (hc2 w1.heap.size 0 (by simp)).trans (by simp [go_sem])
          have a1 : w2.cell? ⟨w1.heap.size, 1, none⟩ = some (.slice A1 n1 k1) := (hc2 w1.heap.size 1 (by simp)).trans (by simp [go_sem])
          have a2 : w2.frozen? ⟨w1.heap.size, 0, none⟩ = false := (hf2 w1.heap.size 0 (by simp)).trans (by simp [go_sem])
          have a3 : w2.frozen? ⟨w1.heap.size, 1, none⟩ = false := (hf2 w1.heap.size 1 (by simp)).trans (by simp [go_sem])
          have a4 : w1.heap.size < w2.heap.size := by have := hb2.size; simp at this; omega
          have hbw2 := below_next hbw1 (below_box hb2)
          have hW2 : Hid (2 * Z1 * 2 ^ (E1 - 1) = Flt.val x) := Lib.hid (by
            rw [← HW.out, Nat.mul_comm 2 Z1, Nat.mul_assoc, show 2 * 2 ^ (E1 - 1) = 2 ^ E1 by
              rw [Nat.mul_comm, ← Nat.pow_succ]; congr 1; omega])
          clear hc2 hf2 hv
          go_wp2_with fail
          go_meet
          exact ⟨2 * Z1, E1 - 1, neg2, A2, n2, k2, by go_num, by omega, by omega, hn2, isInt_result hI2 a0 a1 _ _, hW2, by simp [go_sem, a0], by simp [go_sem, a1], by simpa using a4, below_result hbw2 hbw1.size _ _⟩
        · have hb : (((E1 : Int) - 1074).tmod 2 != 0) = false := by
            rw [bne_eq_false_iff_eq]
            exact Int.tmod_eq_zero_of_dvd (by omega)
          go_wp2_with fail
          go_meet
          exact ⟨Z1, E1, neg1, A1, n1, k1, rfl, by omega, hE1, by omega, hi1, HW, by simp [go_sem], by simp [go_sem], by simp, hbw1.alloc hbw1.size _⟩
      case rest =>
        obtain ⟨Z, E, neg, A, n, c, rfl, hE0, hE, hn, hI, HZ, q0, q1, hq, hbx⟩ := hcut
        clear hI1 hz1 HW hbw1 hn1 hi1
        have hZ0 : 0 < Z := by
          have h1 := HP.out
          have h2 : 0 < Flt.val x := val_pos (by have := h1.2.2; rw [pos_word hx h1] at this; exact this)
          have h3 := HZ.out
          rcases Nat.eq_zero_or_pos Z with h | h
          · rw [h, Nat.zero_mul] at h3; omega
          · exact h
        obtain ⟨X, hX⟩ : ∃ X : Nat, X = Z * 2 ^ 200 := ⟨_, rfl⟩
        have hX0 : 0 < X := by rw [hX]; exact Nat.mul_pos hZ0 (by decide)
        have HV : Hid ((X : Int) = (Z : Int) * 2 ^ (200 : Int).toNat) := Lib.hid (by rw [hX, Int.natCast_mul]; rfl)
        have HX := Lib.hid hX
        clear hX
        go_wp2_with fail
        refine (ref_double_int neg A n c (Z : Int) 200 (X : Int) _ hI (by omega) (.inr (by omega)) (by omega) (by omega) HV).mono ?_
        rintro e3 w3 ⟨neg3, A3, n3, c3, rfl, hI3, hb3⟩
        have hneg3 : neg3 = false := by rw [isInt_neg hI3]; exact decide_eq_false (by omega)
        subst hneg3
        have hn3 : n3 ≤ 100 := by
          have := len_doubled (k := 200) hI hI3 (by rw [Int.natAbs_natCast, Int.natAbs_natCast]; exact HX.out)
          omega
        have hbw3 := below_next hbx hb3
        clear hb3 q0 q1 hI
        go_wp2_with fail
        refine (ref_root_any A3 n3 c3 X _ hI3 hX0 (by omega)).mono ?_
        rintro e4 w4 ⟨neg4, A4, n4, c4, r, rfl, hI4, hRt, hb4⟩
        have hneg4 : neg4 = false := by rw [isInt_neg hI4]; exact decide_eq_false (by omega)
        subst hneg4
        have hn4 : n4 ≤ n3 := isInt_len_mono hI4 hI3 (by
          rw [Int.natAbs_natCast, Int.natAbs_natCast]
          have h1 := hRt.1
          have h2 := Nat.le_mul_self r
          omega)
        have hbw4 := below_next hbw3 hb4
        obtain ⟨s, hs⟩ : ∃ s : Nat, s = E / 2 + 437 := ⟨_, rfl⟩
        obtain ⟨b1, hb1⟩ : ∃ b1, decide (r * r = X) = b1 := ⟨_, rfl⟩
        have HEND : Hid (∀ d, Flt.Dn (r * 2 ^ s) 1 d → IsRoot x d (if (b1 && decide (Flt.val d * 1 = r * 2 ^ s)) then d else d + 1)) := Lib.hid (by
          intro d hd
          rw [← hb1]
          exact ref_root_told hx HP.out HZ.out HX.out hRt (by omega) hd)
        have HEQ : Hid (IntKind.i64.wrap (IntKind.i64.wrap (((E : Int) - 1074).tdiv 2) - 100) = (s : Int) - 1074) := Lib.hid (by
          have h1 : (E : Int) - 1074 = 2 * (((E / 2 : Nat) : Int) - 537) := by omega
          have h2 : IntKind.i64.wrap (((E / 2 : Nat) : Int) - 537) = ((E / 2 : Nat) : Int) - 537 := IntWalk.i64_in _ (by omega)
          rw [h1, Int.mul_tdiv_cancel_left _ (by decide), h2, IntWalk.i64_in _ (by omega)]
          omega)
        have hun : ∀ (W : World) (nq : Bool) (Aq : Option Addr) (mq cq : Nat), IsInt W false A4 n4 c4 (r : Int) → IsInt W nq Aq mq cq 1 →
            Calls Tryz.prog 58 #[.agg #[.bool false, .slice A4 n4 c4], .agg #[.bool nq, .slice Aq mq cq], .int .i64 ((s : Int) - 1074)] W (RetUnder W (r * 2 ^ s) 1) := by
          intro W nq Aq mq cq h1 h2
          have := ref_under_one nq A4 Aq n4 c4 mq cq r ((s : Int) - 1074) W h1 h2 (by omega) (by omega)
          rw [show ((s : Int) - 1074 + 1074).toNat = s by omega, show (-((s : Int) - 1074 + 1074)).toNat = 0 by omega] at this
          exact this
        have hi4 := hI4.alloc (.cells #[.bool false, .slice A4 n4 c4] 47)
        rw [hb1]
        clear hRt hb1 hb4 hI3 hI4 hs
        go_wp2_with fail
        go_region_held3 (fun w' => w'.cell? ⟨w4.heap.size, 0, none⟩ = some (.bool false) ∧ w'.cell? ⟨w4.heap.size, 1, none⟩ = some (.slice A4 n4 c4))
          (go_keep)
          (first
            | (go_at_call 59; refine (ref_one_any _).mono ?_; rintro e5 w5 ⟨neg5, A5, n5, c5, rfl, hI5, hb5⟩; obtain ⟨hc5, hf5⟩ := bcell hb5; have k50 := hc5 w4.heap.size 0 (by first | omega | (simp <;> omega)); have k51 := hc5 w4.heap.size 1 (by first | omega | (simp <;> omega)); have s5 : w4.heap.size < w5.heap.size := (by have := hb5.size; first | omega | (simp at this; omega)); have hi5 := (hi4.drewN 1).below hb5; have hbw5 := below_next hbw4 (below_box (below_of_drew hb5)))
            | (go_at_call 58; rw [HEQ.out]; refine (hun _ neg5 A5 n5 c5 hi5 hI5).mono ?_; rintro e6 w6 ⟨dd, b2, rfl, hD, hb2, hb6⟩; have HB2 := Lib.hid hb2; have HD := Lib.hid hD; clear hb2 hD; obtain ⟨hc6, hf6⟩ := bcell hb6; have k60 := hc6 w4.heap.size 0 (by omega); have k61 := hc6 w4.heap.size 1 (by omega); have hbw6 := below_next hbw5 hb6))
        have HE2 : Hid (IsRoot x dd (if (b1 && b2) = true then dd else dd + 1)) := Lib.hid (by rw [HB2.out]; exact HEND.out dd HD.out)
        have hdd : dd < 2 ^ 63 := Nat.lt_trans HD.out.1 Flt.inf_lt
        clear HB2 HD HEND hun HEQ
        cases b1 with
        | false =>
          go_wp2_with fail
          refine (ref_above_any dd hdd _).mono ?_
          rintro e7 w7 ⟨rfl, rfl⟩
          go_wp2_with fail
          go_ret2
          exact ⟨_, _, rfl, HE2.out, hbw6⟩
        | true =>
          cases b2 with
          | false =>
            go_wp2_with fail
            refine (ref_above_any dd hdd _).mono ?_
            rintro e7 w7 ⟨rfl, rfl⟩
            go_wp2_with fail
            go_ret2
            exact ⟨_, _, rfl, HE2.out, hbw6⟩
          | true =>
            go_wp2_with fail
            go_ret2
            exact ⟨_, _, rfl, HE2.out, hbw6⟩
    · have hc := Lib.hid hp
      have hsv : ¬ 0 < Flt.sv x := fun h => hp (pos_sv.1 ⟨hfx, h⟩)
      by_cases h0 : Flt.sv x < 0
      · rw [decide_eq_true h0] at c1
        clear c2 hp hsv h0 hfx
        go_enter Tryz.func36, Tryz.ntmps36
        go_wp2_with (first | (go_at_call 31; refine (sqrt_any x _).mono ?_; rintro e w' ⟨z, d, rfl, hz, rfl⟩; have HZ := Lib.hid hz; clear hz) | (go_at_call 54; (with_reducible refine (ref_finite_any x hx _).mono ?_); rintro e1 w1 ⟨rfl, rfl⟩; rw [HF.out]))
        go_ret2
        exact ⟨z, z, rfl, ⟨fun _ => ⟨z, HZ.out, rfl, rfl⟩, fun h => absurd h hc.out⟩, below_drewN (Below.refl _ _) d⟩
      · rw [decide_eq_false h0] at c1
        rw [decide_eq_true (by omega)] at c2
        clear hp hsv h0 hfx
        go_enter Tryz.func36, Tryz.ntmps36
        go_wp2_with (first | (go_at_call 31; refine (sqrt_any x _).mono ?_; rintro e w' ⟨z, d, rfl, hz, rfl⟩; have HZ := Lib.hid hz; clear hz) | (go_at_call 54; (with_reducible refine (ref_finite_any x hx _).mono ?_); rintro e1 w1 ⟨rfl, rfl⟩; rw [HF.out]))
        go_ret2
        exact ⟨z, z, rfl, ⟨fun _ => ⟨z, HZ.out, rfl, rfl⟩, fun h => absurd h hc.out⟩, below_drewN (Below.refl _ _) d⟩
end Go.Proofs.YtcjpocepgkfkaaaGreat
