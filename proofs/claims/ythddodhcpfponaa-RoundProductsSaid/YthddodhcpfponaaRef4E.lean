/-
  The references' floats (polestarref04): signs, the least exponent, the floats beside.
-/
import Derived.Test.YthddodhcpfponaaRef4D
namespace Go.Proofs.Ythddodhcpfponaa
open Go.RowKit

theorem sub_zero_neg {h : Nat} (h0 : 0 < h) (hi : h ≤ Flt.inf) : Ieee.double.sub 0 h = some (2 ^ 63 + h) := by
  have hl : h < 2 ^ 63 := by have := Flt.inf_lt; omega
  have r0 : Flt.rg 0 = 0 := rfl
  have s0 : Flt.sgn 0 = false := rfl
  have rh : Flt.rg h = h := by unfold Flt.rg; omega
  have sh : Flt.sgn h = false := by unfold Flt.sgn; rw [show h / 2 ^ 63 = 0 by omega]; rfl
  have ho : Flt.opp h = 2 ^ 63 + h := by unfold Flt.opp Flt.word; rw [sh, rh]; rfl
  have f0 : Flt.Fin 0 := by unfold Flt.Fin; rw [r0, Flt.inf_eq]; omega
  rw [Flt.sub_eq]
  have r1 : Flt.rg (Flt.opp h) = h := by rw [Flt.rg_opp, rh]
  have s1 : Flt.sgn (Flt.opp h) = true := by rw [Flt.sgn_opp, sh]; rfl
  have hv : 0 < Flt.val h := by have := Flt.le_val h; omega
  by_cases hf : h = Flt.inf
  · rw [Flt.add_inf_right f0 (by rw [r1]; exact hf), s1, hf]; rfl
  · have hsv : Flt.sv 0 + Flt.sv (Flt.opp h) = -(Flt.val h : Int) := by
      unfold Flt.sv; rw [s0, s1, r1, r0, Flt.val_zero]; simp
    rw [Flt.add_exact f0 (by unfold Flt.Fin; rw [r1]; omega) (r := h) (by omega) (by rw [hsv]; omega), hsv, if_neg (by omega)]
    rw [decide_eq_true (by omega)]; rfl

theorem sign_and (s : Nat) (h : s < 2 ^ 64) : bits .and .u64 (s : Int) 9223372036854775808 = (((if Flt.sgn s then 2 ^ 63 else 0 : Nat)) : Int) := by
  have := u64_and_nat s 9223372036854775808 (by omega) (by omega)
  rw [show ((9223372036854775808 : Nat) : Int) = 9223372036854775808 from rfl] at this
  rw [this]
  congr 1
  rw [show 9223372036854775808 = 2 ^ 63 from rfl]
  have hb : Flt.sgn s = Nat.testBit s 63 := by
    unfold Flt.sgn; rw [Nat.testBit_eq_decide_div_mod_eq, Bool.eq_iff_iff]; simp
  rw [hb]
  apply Nat.eq_of_testBit_eq
  intro i
  rw [Nat.testBit_and, Nat.testBit_two_pow]
  by_cases hi : 63 = i
  · subst hi
    cases s.testBit 63
    · rfl
    · rw [if_pos rfl, Nat.testBit_two_pow]; simp
  · cases s.testBit 63
    · simp [hi]
    · rw [if_pos rfl, Nat.testBit_two_pow]; simp [hi]
theorem word_or (t r : Nat) (b : Bool) (ht : t = if b then 2 ^ 63 else 0) (hr : r < 2 ^ 63) : bits .or .u64 (r : Int) (t : Int) = ((Flt.word b r : Nat) : Int) := by
  rw [u64_or_nat r t (by omega) (by subst ht; split <;> omega)]
  congr 1
  subst ht
  unfold Flt.word
  cases b
  · simp
  · simp only [if_true]
    have := Nat.two_pow_add_eq_or_of_lt hr 1
    rw [Nat.mul_one] at this
    rw [Nat.or_comm, this]

set_option maxRecDepth 100000 in
theorem copysign_any (x s : Nat) (hx : x < 2 ^ 64) (hs : s < 2 ^ 64) (w : World) : Calls Try.prog 105 #[.float .f64 x, .float .f64 s] w fun e w' => e = .returned (.float .f64 (Flt.word (Flt.sgn s) (Flt.rg x))) ∧ w = w' := by
  have e1 : bits .andNot .u64 (x : Int) 9223372036854775808 = ((Flt.rg x : Nat) : Int) := by
    have := u64_andNot_nat x 9223372036854775808 (by omega) (by omega)
    rw [show ((9223372036854775808 : Nat) : Int) = 9223372036854775808 from rfl] at this
    rw [this]
    congr 1
    exact Nat.and_two_pow_sub_one_eq_mod x 63
  have e2 := sign_and s hs
  obtain ⟨t, ht⟩ : ∃ t : Nat, t = if Flt.sgn s then 2 ^ 63 else 0 := ⟨_, rfl⟩
  rw [← ht] at e2
  have e3 := word_or t (Flt.rg x) (Flt.sgn s) ht (by unfold Flt.rg; omega)
  clear ht
  generalize hR : Flt.word (Flt.sgn s) (Flt.rg x) = R at e3 ⊢
  have HR := Lib.hid hR
  clear hR
  go_enter Try.func105, Try.ntmps105
  go_wp2
  go_ret
  exact ⟨by rfl, rfl⟩

def RetF (w : World) (r : Nat) (e : Ending) (w' : World) : Prop := e = .returned (.float .f64 r) ∧ w = w'

theorem ref_minus_float (x : Nat) (hx : x < 2 ^ 64) (w : World) : Calls Try.prog 82 #[.float .f64 x] w fun e w' => e = .returned (.float .f64 (2 ^ 63 + Flt.rg x)) ∧ w = w' := by
  go_enter Try.func82, Try.ntmps82
  go_wp2_with (go_at_call 105; refine (copysign_any _ _ hx (by decide) _).mono ?_; rintro e w' ⟨rfl, rfl⟩)
  go_ret
  exact ⟨rfl, rfl⟩

theorem ref_above_any (x : Nat) (hx : x < 2 ^ 63) (w : World) : Calls Try.prog 62 #[.float .f64 x] w fun e w' => e = .returned (.float .f64 (x + 1)) ∧ w = w' := by
  have e1 : IntKind.u64.wrap ((x : Int) + 1) = (x : Int) + 1 := IntWalk.u64_in _ (by omega)
  go_enter Try.func62, Try.ntmps62
  go_wp2
  go_ret
  exact ⟨rfl, rfl⟩

theorem ref_finite_any (x : Nat) (hx : x < 2 ^ 64) (w : World) : Calls Try.prog 37 #[.float .f64 x] w fun e w' => e = .returned (.bool (Flt.finB x)) ∧ w = w' := by
  rw [Flt.finB_eq]
  cases h : Flt.nanB x with
  | true =>
    go_enter Try.func37, Try.ntmps37
    go_wp2_with (first | (go_at_call 64; refine (isNaN_any _ _).mono ?_; rintro e w' ⟨rfl, rfl⟩; rw [h]) | (go_at_call 66; refine (isInf0_any _ hx _).mono ?_; rintro e w' ⟨rfl, rfl⟩))
    go_ret
    exact ⟨rfl, rfl⟩
  | false =>
    go_enter Try.func37, Try.ntmps37
    go_wp2_with (first | (go_at_call 64; refine (isNaN_any _ _).mono ?_; rintro e w' ⟨rfl, rfl⟩; rw [h]) | (go_at_call 66; refine (isInf0_any _ hx _).mono ?_; rintro e w' ⟨rfl, rfl⟩))
    go_ret
    exact ⟨rfl, rfl⟩

theorem ref_sign_of (neg : Bool) (A : Option Addr) (n c : Nat) (z s : Int) (w : World) (h : IsInt w neg A n c z) (hs : Hid (z.sign = s)) :
    Calls Try.prog 43 #[.agg #[.bool neg, .slice A n c]] w (RetV w (.int .i64 s)) := by
  have := ref_sign_any neg A n c z w h
  rwa [hs.out] at this

def lst (x e y f : Int) : Int := if x = 0 then f else if y = 0 then e else if f < e then f else e

set_option maxHeartbeats 800000 in
theorem ref_least_any (neg neg' : Bool) (A A' : Option Addr) (n c n' c' : Nat) (x y e f : Int) (w : World) (hx : IsInt w neg A n c x) (hy : IsInt w neg' A' n' c' y) :
    Calls Try.prog 39 #[.agg #[.bool neg, .slice A n c], .int .i64 e, .agg #[.bool neg', .slice A' n' c'], .int .i64 f] w (RetV w (.int .i64 (lst x e y f))) := by
  have hx2 := (hx.alloc (.cells #[.bool neg, .slice A n c] 32)).alloc (.cells #[.bool neg', .slice A' n' c'] 32)
  have hy2 := (hy.alloc (.cells #[.bool neg, .slice A n c] 32)).alloc (.cells #[.bool neg', .slice A' n' c'] 32)
  obtain ⟨s, hs⟩ : ∃ s, x.sign = s := ⟨_, rfl⟩
  obtain ⟨t, ht⟩ : ∃ t, y.sign = t := ⟨_, rfl⟩
  have hs0 : (s = 0) ↔ x = 0 := by rw [← hs]; exact Int.sign_eq_zero_iff_zero
  have ht0 : (t = 0) ↔ y = 0 := by rw [← ht]; exact Int.sign_eq_zero_iff_zero
  obtain ⟨v, hv⟩ : ∃ v, lst x e y f = v := ⟨_, rfl⟩
  rw [hv]
  have HS := Lib.hid hs
  have HT := Lib.hid ht
  clear hs ht
  by_cases h0 : s = 0
  · have hvf : v = f := by rw [← hv]; unfold lst; rw [if_pos (hs0.1 h0)]
    have HV := Lib.hid hvf
    clear hv hvf hs0 ht0
    go_enter Try.func39, Try.ntmps39
    go_wp2_with (go_at_call 43; refine (ref_sign_of _ _ _ _ _ s _ (by exact hx2) HS).mono ?_; rintro e1 w1 ⟨rfl, hb1⟩)
    go_ret
    exact ⟨by rw [HV.out]; rfl, below_box (below_box hb1)⟩
  · by_cases h1 : t = 0
    · have hvf : v = e := by rw [← hv]; unfold lst; rw [if_neg (fun h => h0 (hs0.2 h)), if_pos (ht0.1 h1)]
      have HV := Lib.hid hvf
      clear hv hvf hs0 ht0
      go_enter Try.func39, Try.ntmps39
      go_wp2_with fail
      refine (ref_sign_of _ _ _ _ _ s _ (by exact hx2) HS).mono ?_
      rintro e1 w1 ⟨rfl, hb1⟩
      obtain ⟨hc1, hf1⟩ := bcell hb1
      have k0 := hc1 (w.heap.size + 1) 0 (by simp <;> omega)
      have k1 := hc1 (w.heap.size + 1) 1 (by simp <;> omega)
      have hy3 := hy2.below hb1
      go_wp2_with fail
      refine (ref_sign_of _ _ _ _ _ t _ (by exact hy3) HT).mono ?_
      rintro e2 w2 ⟨rfl, hb2⟩
      go_wp2_with fail
      go_ret
      exact ⟨by rw [HV.out]; rfl, below_next (below_box (below_box hb1)) hb2⟩
    · have hvf : v = if f < e then f else e := by rw [← hv]; unfold lst; rw [if_neg (fun h => h0 (hs0.2 h)), if_neg (fun h => h1 (ht0.2 h))]
      have HV := Lib.hid hvf
      clear hv hvf hs0 ht0
      go_enter Try.func39, Try.ntmps39
      go_wp2_with fail
      refine (ref_sign_of _ _ _ _ _ s _ (by exact hx2) HS).mono ?_
      rintro e1 w1 ⟨rfl, hb1⟩
      obtain ⟨hc1, hf1⟩ := bcell hb1
      have k0 := hc1 (w.heap.size + 1) 0 (by simp <;> omega)
      have k1 := hc1 (w.heap.size + 1) 1 (by simp <;> omega)
      have hy3 := hy2.below hb1
      go_wp2_with fail
      refine (ref_sign_of _ _ _ _ _ t _ (by exact hy3) HT).mono ?_
      rintro e2 w2 ⟨rfl, hb2⟩
      go_wp2_with fail
      all_goals go_ret
      · exact ⟨by rw [HV.out, if_pos (by omega)]; rfl, below_next (below_box (below_box hb1)) hb2⟩
      · exact ⟨by rw [HV.out, if_neg (by omega)]; rfl, below_next (below_box (below_box hb1)) hb2⟩

def hiR (num den r : Nat) : Nat := if Flt.val r * den = num then r else r + 1
def RetBeside (W : World) (s : Bool) (num den : Nat) (e : Ending) (w' : World) : Prop :=
  ∃ r, e = .returned (.tuple #[.float .f64 (if s then 2 ^ 63 + hiR num den r else r), .float .f64 (if s then 2 ^ 63 + r else hiR num den r)]) ∧ Flt.Dn num den r ∧ Below W.heap.size W w'

set_option maxHeartbeats 1600000 in
theorem ref_beside_of (neg negq : Bool) (A Aq : Option Addr) (n c nq cq : Nat) (z q e : Int) (num den : Nat) (w : World) (hp : IsInt w neg A n c z) (hq : IsInt w negq Aq nq cq q) (hn : n ≤ 1000000)
    (hU : ∀ (W : World) (neg' : Bool) (A' : Option Addr) (n' c' : Nat), IsInt W neg' A' n' c' (z.natAbs : Nat) → IsInt W negq Aq nq cq q →
      Calls Try.prog 61 #[.agg #[.bool neg', .slice A' n' c'], .agg #[.bool negq, .slice Aq nq cq], .int .i64 e] W (RetUnder W num den)) (hnum : z ≠ 0 → 0 < num) :
    Calls Try.prog 44 #[.agg #[.bool neg, .slice A n c], .agg #[.bool negq, .slice Aq nq cq], .int .i64 e] w (RetBeside w (decide (z < 0)) num den) := by
  have HU := Lib.hid hU
  clear hU
  have hp2 := (hp.alloc (.cells #[.bool neg, .slice A n c] 32)).alloc (.cells #[.bool negq, .slice Aq nq cq] 32)
  have hq2 := (hq.alloc (.cells #[.bool neg, .slice A n c] 32)).alloc (.cells #[.bool negq, .slice Aq nq cq] 32)
  obtain ⟨s, hs⟩ : ∃ s, z.sign = s := ⟨_, rfl⟩
  have hs0 : s < 0 ↔ z < 0 := by rw [← hs]; exact Int.sign_neg_iff
  have HS := Lib.hid hs
  clear hs
  go_enter Try.func44, Try.ntmps44
  go_wp2_with fail
  go_region_held3 (fun w' => w'.cell? ⟨w.heap.size, 0, none⟩ = some (.bool neg) ∧ w'.cell? ⟨w.heap.size, 1, none⟩ = some (.slice A n c) ∧ w'.cell? ⟨w.heap.size + 1, 0, none⟩ = some (.bool negq) ∧ w'.cell? ⟨w.heap.size + 1, 1, none⟩ = some (.slice Aq nq cq))
    (go_keep)
    (first | (go_at_call 58; (with_reducible refine (ref_size_any _ A _ _ z _ ?_ ?_).mono ?_); exact hp2.drewN 1; omega; rintro e1 w1 ⟨neg1, A1, n1, c1, rfl, hI1, hb1⟩; obtain ⟨hc1, hf1⟩ := bcell hb1; have a0 := hc1 (w.heap.size) 0 (by simp <;> omega); have a1 := hc1 (w.heap.size) 1 (by simp <;> omega); have a2 := hc1 (w.heap.size + 1) 0 (by simp <;> omega); have a3 := hc1 (w.heap.size + 1) 1 (by simp <;> omega); have hz1 : w.heap.size + 1 < w1.heap.size := (by have := hb1.size; simp at this; omega); have hq3 := (hq2.drewN 1).below hb1; have hp3 := (hp2.drewN 1).below hb1; have hbw1 : Below w.heap.size w w1 := below_box (below_box (below_of_drew hb1))) | (go_at_call 61; refine (HU.out _ _ _ _ _ hI1 hq3).mono ?_; rintro e2 w2 ⟨r, b, rfl, hD, hbD, hb2⟩; obtain ⟨hc2, hf2⟩ := bcell hb2; have b0 := hc2 (w.heap.size) 0 (by omega); have b1 := hc2 (w.heap.size) 1 (by omega); have b2 := hc2 (w.heap.size + 1) 0 (by omega); have b3 := hc2 (w.heap.size + 1) 1 (by omega); have hz2 : w.heap.size + 1 < w2.heap.size := (by have := hb2.size; omega); have hp4 := hp3.below hb2; have hbw2 := below_next hbw1 hb2))
  have y0 : w2.cell? ⟨w.heap.size, 0, none⟩ = some (.bool neg) := b0.trans (a0.trans (by simp [go_sem]))
  have y1 : w2.cell? ⟨w.heap.size, 1, none⟩ = some (.slice A n c) := b1.trans (a1.trans (by simp [go_sem]))
  clear a0 a1 a2 a3 b0 b1 b2 b3 hc1 hf1 hc2 hf2 hb1 hb2
  have hr : r < Flt.inf := hD.1
  have hr63 : r < 2 ^ 63 := by have := Flt.inf_lt; omega
  have hr64 : r < 2 ^ 64 := by omega
  obtain ⟨h, hh⟩ : ∃ h, h = hiR num den r := ⟨_, rfl⟩
  have hsub : z < 0 → Ieee.double.sub 0 h = some (2 ^ 63 + h) := by
    intro hz
    have hn0 := hnum (by omega)
    apply sub_zero_neg
    · rw [hh]; unfold hiR; split
      · rename_i hx
        rcases Nat.eq_zero_or_pos r with rfl | h0
        · rw [Flt.val_zero] at hx; omega
        · exact h0
      · omega
    · rw [hh]; unfold hiR; split <;> omega
  have hrg : Flt.rg r = r := by unfold Flt.rg; omega
  obtain ⟨b, hb⟩ : ∃ b, b = decide (Flt.val r * den = num) := ⟨_, rfl⟩
  rw [← hb]
  have HB := Lib.hid hb
  have HH := Lib.hid hh
  have HD := Lib.hid hD
  have HR := Lib.hid hrg
  clear hb hh hD hrg hr hnum
  by_cases hz : z < 0
  · have hs1 : s < 0 := hs0.2 hz
    have HSUB := hsub hz
    have HZ : Hid (decide (z < 0) = true) := Lib.hid (decide_eq_true hz)
    rw [HZ.out]
    clear hsub hs0 hz
    cases b with
    | true =>
      have hhr : h = r := by rw [HH.out]; unfold hiR; rw [if_pos (of_decide_eq_true HB.out.symm)]
      rw [hhr] at HSUB
      have HHR := Lib.hid hhr
      have hrun : ∀ W : World, (binOp .sub 22 (.float .f64 0) (.float .f64 r)).run Try.prog W = .ok (.float .f64 (2 ^ 63 + r)) W := fun W => run_float_arith W .sub _ .f64 0 r _ HSUB
      clear hhr
      go_wp2_with (first | (go_at_call 43; refine (ref_sign_of _ _ _ _ _ s _ hp4 HS).mono ?_; rintro e3 w3 ⟨rfl, hb3⟩) | (go_at_call 82; refine (ref_minus_float _ hr64 _).mono ?_; rintro e4 w4 ⟨rfl, rfl⟩))
      go_ret2
      exact ⟨r, by rw [HZ.out, ← HH.out, HHR.out, HR.out]; rfl, HD.out, below_next hbw2 hb3⟩
    | false =>
      have hhr : h = r + 1 := by rw [HH.out]; unfold hiR; rw [if_neg (of_decide_eq_false HB.out.symm)]
      rw [hhr] at HSUB
      have HHR := Lib.hid hhr
      have hrun : ∀ W : World, (binOp .sub 22 (.float .f64 0) (.float .f64 (r + 1))).run Try.prog W = .ok (.float .f64 (2 ^ 63 + (r + 1))) W := fun W => run_float_arith W .sub _ .f64 0 (r + 1) _ HSUB
      clear hhr
      go_wp2_with (first | (go_at_call 62; refine (ref_above_any _ hr63 _).mono ?_; rintro e4 w4 ⟨rfl, rfl⟩) | (go_at_call 43; refine (ref_sign_of _ _ _ _ _ s _ hp4 HS).mono ?_; rintro e3 w3 ⟨rfl, hb3⟩) | (go_at_call 82; refine (ref_minus_float _ hr64 _).mono ?_; rintro e4 w4 ⟨rfl, rfl⟩))
      go_ret2
      exact ⟨r, by rw [HZ.out, ← HH.out, HHR.out, HR.out]; rfl, HD.out, below_next hbw2 hb3⟩
  · have hs1 : ¬ s < 0 := fun h => hz (hs0.1 h)
    have HZ : Hid (decide (z < 0) = false) := Lib.hid (decide_eq_false hz)
    rw [HZ.out]
    clear hsub hs0 hz
    cases b with
    | true =>
      have hhr : h = r := by rw [HH.out]; unfold hiR; rw [if_pos (of_decide_eq_true HB.out.symm)]
      have HHR := Lib.hid hhr
      clear hhr
      go_wp2_with (first | (go_at_call 43; refine (ref_sign_of _ _ _ _ _ s _ hp4 HS).mono ?_; rintro e3 w3 ⟨rfl, hb3⟩) | (go_at_call 82; refine (ref_minus_float _ hr64 _).mono ?_; rintro e4 w4 ⟨rfl, rfl⟩))
      go_ret2
      exact ⟨r, by rw [HZ.out, ← HH.out, HHR.out]; rfl, HD.out, below_next hbw2 hb3⟩
    | false =>
      have hhr : h = r + 1 := by rw [HH.out]; unfold hiR; rw [if_neg (of_decide_eq_false HB.out.symm)]
      have HHR := Lib.hid hhr
      clear hhr
      go_wp2_with (first | (go_at_call 62; refine (ref_above_any _ hr63 _).mono ?_; rintro e4 w4 ⟨rfl, rfl⟩) | (go_at_call 43; refine (ref_sign_of _ _ _ _ _ s _ hp4 HS).mono ?_; rintro e3 w3 ⟨rfl, hb3⟩) | (go_at_call 82; refine (ref_minus_float _ hr64 _).mono ?_; rintro e4 w4 ⟨rfl, rfl⟩))
      go_ret2
      exact ⟨r, by rw [HZ.out, ← HH.out, HHR.out]; rfl, HD.out, below_next hbw2 hb3⟩
end Go.Proofs.Ythddodhcpfponaa
