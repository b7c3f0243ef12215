import Derived.Test.YthddodhcpfponaaFltB

namespace Go.Proofs.Ythddodhcpfponaa.Flt
open Ieee

/-! ### the order -/
theorem sv_fin_lt {x : Nat} (h : rg x ≤ inf) : -(val inf : Int) ≤ sv x ∧ sv x ≤ val inf := by
  have := val_le h
  unfold sv; split <;> omega

theorem cmp_lt {a b : Int} : (compare a b = .lt) ↔ a < b := by
  simp [compare, compareOfLessAndEq]; split <;> (try split) <;> simp_all
theorem cmp_eq {a b : Int} : (compare a b = .eq) ↔ a = b := by
  simp [compare, compareOfLessAndEq]; split <;> (try split) <;> simp_all <;> omega
theorem cmp_gt {a b : Int} : (compare a b = .gt) ↔ b < a := by
  simp [compare, compareOfLessAndEq]; split <;> (try split) <;> simp_all <;> omega

theorem cmp_scale (a b : Int) (p : Int) (hp : 0 < p) : compare (a * p) (b * p) = compare a b := by
  rcases Int.lt_trichotomy a b with h | h | h
  · rw [cmp_lt.2 h, cmp_lt.2 (Int.mul_lt_mul_of_pos_right h hp)]
  · rw [h]; rw [cmp_eq.2 rfl, cmp_eq.2 rfl]
  · rw [cmp_gt.2 h, cmp_gt.2 (Int.mul_lt_mul_of_pos_right h hp)]

theorem order_num (s t : Bool) (m n i j : Nat) :
    Datum.order (.number s m ((i : Int) - 1074)) (.number t n ((j : Int) - 1074)) =
      some (compare (if s then -((m * 2 ^ i : Nat) : Int) else ((m * 2 ^ i : Nat) : Int)) (if t then -((n * 2 ^ j : Nat) : Int) else ((n * 2 ^ j : Nat) : Int))) := by
  unfold Datum.order
  simp only
  have : min ((i : Int) - 1074) ((j : Int) - 1074) = ((min i j : Nat) : Int) - 1074 := by omega
  rw [this]
  have e1 : ((i : Int) - 1074 - (((min i j : Nat) : Int) - 1074)).toNat = i - min i j := by omega
  have e2 : ((j : Int) - 1074 - (((min i j : Nat) : Int) - 1074)).toNat = j - min i j := by omega
  rw [e1, e2, signed_scale, signed_scale]
  have hp : (0 : Int) < ((2 ^ (min i j) : Nat) : Int) := by have := Nat.two_pow_pos (min i j); omega
  rw [← cmp_scale _ _ _ hp]
  have h1 : m * 2 ^ i = m * 2 ^ (i - min i j) * 2 ^ (min i j) := by rw [Nat.mul_assoc, ← Nat.pow_add]; congr 2; omega
  have h2 : n * 2 ^ j = n * 2 ^ (j - min i j) * 2 ^ (min i j) := by rw [Nat.mul_assoc, ← Nat.pow_add]; congr 2; omega
  rw [h1, h2]
  generalize 2 ^ (min i j) = p
  generalize m * 2 ^ (i - min i j) = u
  generalize n * 2 ^ (j - min i j) = v
  congr 2
  · split <;> simp [Int.neg_mul]
  · split <;> simp [Int.neg_mul]

theorem order_fin {x y : Nat} (hx : Fin x) (hy : Fin y) : double.order x y = some (compare (sv x) (sv y)) := by
  obtain ⟨m, i, hm, hmv⟩ := read_fin hx
  obtain ⟨n, j, hn, hnv⟩ := read_fin hy
  unfold Format.order
  rw [hm, hn, order_num, hmv, hnv]; rfl

theorem val_inf_gt {x : Nat} (h : Fin x) : val (rg x) < val inf := val_lt h

theorem order_spec {x y : Nat} (hx : ¬ Nan x) (hy : ¬ Nan y) : double.order x y = some (compare (sv x) (sv y)) := by
  unfold Nan at hx hy
  by_cases fx : Fin x
  · by_cases fy : Fin y
    · exact order_fin fx fy
    · have iy : rg y = inf := by unfold Fin at fy; omega
      obtain ⟨m, i, hm, hmv⟩ := read_fin fx
      have hv := val_inf_gt fx
      unfold Format.order
      rw [hm, read_inf iy]
      unfold Datum.order
      have hsx : -(val inf : Int) < sv x ∧ sv x < val inf := by unfold sv; split <;> omega
      have hy' : sv y = if sgn y then -(val inf : Int) else val inf := by unfold sv; rw [iy]
      rw [hy']
      cases sgn y
      · simp only [Bool.false_eq_true, if_false]; rw [cmp_lt.2 hsx.2]
      · simp only [if_true]; rw [cmp_gt.2 hsx.1]
  · have ix : rg x = inf := by unfold Fin at fx; omega
    have hx' : sv x = if sgn x then -(val inf : Int) else val inf := by unfold sv; rw [ix]
    by_cases fy : Fin y
    · obtain ⟨n, j, hn, hnv⟩ := read_fin fy
      have hv := val_inf_gt fy
      unfold Format.order
      rw [hn, read_inf ix]
      unfold Datum.order
      have hsy : -(val inf : Int) < sv y ∧ sv y < val inf := by unfold sv; split <;> omega
      rw [hx']
      cases sgn x
      · simp only [Bool.false_eq_true, if_false]; rw [cmp_gt.2 hsy.2]
      · simp only [if_true]; rw [cmp_lt.2 hsy.1]
    · have iy : rg y = inf := by unfold Fin at fy; omega
      have hy' : sv y = if sgn y then -(val inf : Int) else val inf := by unfold sv; rw [iy]
      have hp : 0 < val inf := by have := val_lt (show 0 < inf by rw [inf_eq]; omega); omega
      unfold Format.order
      rw [read_inf iy, read_inf ix, hx', hy']
      unfold Datum.order
      cases sgn x <;> cases sgn y <;> simp only [Bool.false_eq_true, if_false, if_true, Bool.toNat_true, Bool.toNat_false]
      · rw [cmp_eq.2 rfl]; rfl
      · rw [cmp_gt.2 (by omega)]; rfl
      · rw [cmp_lt.2 (by omega)]; rfl
      · rw [cmp_eq.2 rfl]; rfl

theorem order_nan_left {x y : Nat} (hx : Nan x) : double.order x y = none := by
  obtain ⟨f, h⟩ := read_nan hx
  unfold Format.order Datum.order
  rw [h]
theorem order_nan_right {x y : Nat} (hy : Nan y) : double.order x y = none := by
  obtain ⟨f, h⟩ := read_nan hy
  unfold Format.order Datum.order
  rw [h]
  split <;> simp_all

def flt (x y : Nat) : Bool := double.order x y == some .lt
def fle (x y : Nat) : Bool := double.order x y == some .lt || double.order x y == some .eq
def feq (x y : Nat) : Bool := double.order x y == some .eq

theorem ord_beq (c d : Ordering) : ((some c : Option Ordering) == some d) = decide (c = d) := by cases c <;> cases d <;> rfl

theorem lt_spec {x y : Nat} (hx : ¬ Nan x) (hy : ¬ Nan y) : (double.order x y == some .lt) = decide (sv x < sv y) := by
  rw [order_spec hx hy, ord_beq]; simp only [cmp_lt]
theorem eq_spec {x y : Nat} (hx : ¬ Nan x) (hy : ¬ Nan y) : (double.order x y == some .eq) = decide (sv x = sv y) := by
  rw [order_spec hx hy, ord_beq]; simp only [cmp_eq]
theorem gt_spec {x y : Nat} (hx : ¬ Nan x) (hy : ¬ Nan y) : (double.order x y == some .gt) = decide (sv y < sv x) := by
  rw [order_spec hx hy, ord_beq]; simp only [cmp_gt]

/-! ### exactness -/
theorem Near.exact {r : Nat} (h : r ≤ inf) : Near (val r) 1 r := by
  refine ⟨h, fun hr => ?_, fun hr => ?_⟩
  · have := val_lt_succ r; omega
  · have := val_lt (show r - 1 < r by omega); omega

theorem near_eq {n r s : Nat} (h : Near n 1 s) (hr : r ≤ inf) (hv : val r = n) : s = r := by
  subst hv
  exact h.unique (by decide) (Near.exact hr)

theorem near_best {n s : Nat} (h : Near n 1 s) (hs : s < inf) (r : Nat) : ((n : Int) - val s).natAbs ≤ ((n : Int) - val r).natAbs := by
  obtain ⟨_, h2, h3⟩ := h
  have a := (h2 hs).1
  rcases Nat.lt_trichotomy r s with hr | hr | hr
  · have b := (h3 (by omega)).1
    have m1 : val r ≤ val (s - 1) := val_le (by omega)
    have m2 : val r < val s := val_lt hr
    omega
  · subst hr; omega
  · have m1 : val (s + 1) ≤ val r := val_le (by omega)
    have m2 : val s < val r := val_lt hr
    omega

theorem near_ulp {n s : Nat} (h : Near n 1 s) (hs : s < inf) : 2 * n ≤ 2 * val s + ulp s ∧ 2 * val s ≤ 2 * n + ulp s := by
  obtain ⟨_, h2, h3⟩ := h
  have a := (h2 hs).1
  have e := val_succ s
  constructor
  · omega
  · by_cases h0 : 0 < s
    · have b := (h3 h0).1
      have e' := val_succ (s - 1)
      rw [show s - 1 + 1 = s by omega] at e'
      have m : ulp (s - 1) ≤ ulp s := ulp_mono (by omega)
      omega
    · have : s = 0 := by omega
      subst this
      rw [val_zero]; omega

def Rep (n : Nat) : Prop := ∃ r, val r = n
/-- The exponent of a rung. -/
def ex (r : Nat) : Nat := r / 2 ^ 52 - 1
theorem ulp_eq (r : Nat) : ulp r = 2 ^ ex r := rfl
theorem val_form (r : Nat) : ∃ m, m < 2 ^ 53 ∧ val r = m * 2 ^ ex r := by
  unfold val ex
  split
  · exact ⟨r, by omega, rfl⟩
  · exact ⟨_, by omega, rfl⟩
theorem ex_mono {r s : Nat} (h : r ≤ s) : ex r ≤ ex s := by
  unfold ex; have := Nat.div_le_div_right (c := 2 ^ 52) h; omega

theorem rep_mk (e : Nat) : ∀ m, m ≤ 2 ^ 53 → Rep (m * 2 ^ e) := by
  induction e with
  | zero => intro m hm; exact ⟨0 * 2 ^ 52 + m, by rw [val_at 0 m hm (Or.inl rfl)]⟩
  | succ e ih =>
    intro m hm
    by_cases h : 2 ^ 52 ≤ m
    · exact ⟨(e + 1) * 2 ^ 52 + m, by rw [val_at (e + 1) m hm (Or.inr h)]⟩
    · have := ih (2 * m) (by omega)
      rwa [Nat.mul_comm 2, Nat.mul_assoc, ← Nat.pow_succ'] at this

/-- A multiple of 2^e that is at most 2^53 times that is the worth of a rung. -/
theorem rep_of {n e k : Nat} (hk : n = k * 2 ^ e) (hn : n ≤ 2 ^ 53 * 2 ^ e) : Rep n := by
  subst hk
  exact rep_mk e k (Nat.le_of_mul_le_mul_right hn (Nat.two_pow_pos _))

theorem pow_split {f e : Nat} (h : f ≤ e) : 2 ^ e = 2 ^ (e - f) * 2 ^ f := by rw [← Nat.pow_add]; congr 1; omega

/-- The theorem of the sum and what it has lost. a, b: the greater and the lesser one. -/
theorem fast_two {ra rb rs : Nat} {A B S : Int} (hA : A.natAbs = val ra) (hB : B.natAbs = val rb) (hS : S.natAbs = val rs) (hle : rb ≤ ra) (hs : rs < inf)
    (hn : Near (A + B).natAbs 1 rs) (h0 : A + B = 0 → S = 0) (hpos : 0 < A + B → 0 ≤ S) (hneg : A + B < 0 → S ≤ 0) :
    Rep (S - A).natAbs ∧ Rep (A + B - S).natAbs ∧ (A + B - S).natAbs ≤ B.natAbs := by
  have hvle : val rb ≤ val ra := val_le hle
  obtain ⟨ma, hma, hva⟩ := val_form ra
  obtain ⟨mb, hmb, hvb⟩ := val_form rb
  obtain ⟨ms, hms, hvs⟩ := val_form rs
  have hex : ex rb ≤ ex ra := ex_mono hle
  obtain ⟨u1, u2⟩ := near_ulp hn hs
  rw [ulp_eq] at u1 u2
  have hbest := near_best hn hs ra
  -- the distance between A + B and S
  have hdist : ((A + B) - S).natAbs = (((A + B).natAbs : Int) - val rs).natAbs := by omega
  have hdistB : ((A + B) - S).natAbs ≤ B.natAbs := by omega
  -- multiples
  have dA : ((2 ^ ex ra : Nat) : Int) ∣ A := by
    rw [Int.ofNat_dvd_left, hA, hva]; exact ⟨ma, Nat.mul_comm _ _⟩
  have dB : ((2 ^ ex rb : Nat) : Int) ∣ B := by
    rw [Int.ofNat_dvd_left, hB, hvb]; exact ⟨mb, Nat.mul_comm _ _⟩
  have dS : ((2 ^ ex rs : Nat) : Int) ∣ S := by
    rw [Int.ofNat_dvd_left, hS, hvs]; exact ⟨ms, Nat.mul_comm _ _⟩
  have dpow : ∀ {i j : Nat}, i ≤ j → ((2 ^ i : Nat) : Int) ∣ ((2 ^ j : Nat) : Int) := by
    intro i j h
    rw [Int.natCast_dvd_natCast]; exact Nat.pow_dvd_pow 2 h
  have torep : ∀ {z : Int} {e : Nat}, ((2 ^ e : Nat) : Int) ∣ z → z.natAbs ≤ 2 ^ 53 * 2 ^ e → Rep z.natAbs := by
    intro z e hd hb
    rw [Int.ofNat_dvd_left] at hd
    obtain ⟨k, hk⟩ := hd
    exact rep_of (k := k) (by rw [hk, Nat.mul_comm]) hb
  have hBb : B.natAbs ≤ (2 ^ 53 - 1) * 2 ^ ex rb := by rw [hB, hvb]; exact Nat.mul_le_mul_right _ (by omega)
  have hAb : A.natAbs ≤ (2 ^ 53 - 1) * 2 ^ ex ra := by rw [hA, hva]; exact Nat.mul_le_mul_right _ (by omega)
  have hSb : S.natAbs ≤ (2 ^ 53 - 1) * 2 ^ ex rs := by rw [hS, hvs]; exact Nat.mul_le_mul_right _ (by omega)
  by_cases hgf : ex rs ≤ ex rb
  · -- the sum is exact
    have hd : ((2 ^ ex rs : Nat) : Int) ∣ A + B := Int.dvd_add (Int.dvd_trans (dpow (Nat.le_trans hgf hex)) dA) (Int.dvd_trans (dpow hgf) dB)
    have hrep : Rep (A + B).natAbs := by
      have hd' := hd
      rw [Int.ofNat_dvd_left] at hd'
      obtain ⟨k, hk⟩ := hd'
      refine rep_of (e := ex rs) (k := k) (by rw [hk, Nat.mul_comm]) ?_
      have hp : 0 < 2 ^ ex rs := Nat.two_pow_pos _
      rw [hk] at u1 ⊢
      rw [← hS] at u1
      rw [Nat.mul_comm (2 ^ ex rs) k] at *
      have h1 : 2 * (k * 2 ^ ex rs) ≤ (2 * (2 ^ 53 - 1) + 1) * 2 ^ ex rs := by
        have e1 : (2 * (2 ^ 53 - 1) + 1) * 2 ^ ex rs = 2 * ((2 ^ 53 - 1) * 2 ^ ex rs) + 2 ^ ex rs := by
          rw [Nat.add_mul, Nat.mul_assoc, Nat.one_mul]
        omega
      rw [← Nat.mul_assoc] at h1
      have h2 := Nat.le_of_mul_le_mul_right h1 hp
      exact Nat.mul_le_mul_right _ (by omega)
    obtain ⟨r, hr⟩ := hrep
    have hri : r ≤ inf := by
      rcases Nat.lt_or_ge inf r with h | h
      · -- then the nearest would be infinity
        exfalso
        have := (hn.2.1 hs).1
        have m1 : val (rs + 1) < val r := Nat.lt_of_le_of_lt (val_le (by omega)) (val_lt h)
        have m2 := val_lt_succ rs
        omega
      · exact h
    have hrs : rs = r := near_eq hn hri hr
    subst hrs
    have hSeq : S = A + B := by omega
    subst hSeq
    refine ⟨?_, ?_, hdistB⟩
    · rw [show A + B - A = B by omega, hB]; exact ⟨rb, rfl⟩
    · rw [show A + B - (A + B) = 0 by omega]; exact ⟨0, val_zero⟩
  · have hgf' : ex rb + 1 ≤ ex rs := by omega
    -- the error
    have herr : 2 * (A + B - S).natAbs ≤ 2 ^ ex rs := by omega
    have hge : ex rs ≤ ex ra + 1 := by
      rcases Nat.lt_or_ge (ex ra + 1) (ex rs) with h | h
      · exfalso
        have hr1 : (ex ra + 3) * 2 ^ 52 ≤ rs := by
          have h5 : ex ra + 3 ≤ rs / 2 ^ 52 := by unfold ex at h ⊢; omega
          exact Nat.le_trans (Nat.mul_le_mul_right _ h5) (Nat.div_mul_le_self rs (2 ^ 52))
        have v1 : val ((ex ra + 3) * 2 ^ 52) = 2 ^ 52 * 2 ^ (ex ra + 2) := by
          rw [show (ex ra + 3) * 2 ^ 52 = (ex ra + 2) * 2 ^ 52 + 2 ^ 52 by omega]
          exact val_at (ex ra + 2) (2 ^ 52) (by omega) (Or.inr (Nat.le_refl _))
        have v2 : val ((ex ra + 3) * 2 ^ 52 - 1) = (2 ^ 53 - 1) * 2 ^ (ex ra + 1) := by
          rw [show (ex ra + 3) * 2 ^ 52 - 1 = (ex ra + 1) * 2 ^ 52 + (2 ^ 53 - 1) by omega]
          exact val_at (ex ra + 1) (2 ^ 53 - 1) (by omega) (Or.inr (by omega))
        have m1 := val_le hr1
        have m2 : val ((ex ra + 3) * 2 ^ 52 - 1) ≤ val (rs - 1) := val_le (by omega)
        have lo := (hn.2.2 (by omega)).1
        rw [v1] at m1
        rw [v2] at m2
        have p1 : 2 ^ (ex ra + 2) = 4 * 2 ^ ex ra := by rw [Nat.pow_add, Nat.mul_comm]
        have p2 : 2 ^ (ex ra + 1) = 2 * 2 ^ ex ra := by rw [Nat.pow_add, Nat.mul_comm]
        rw [p1] at m1
        rw [p2] at m2
        have hp : 0 < 2 ^ ex ra := Nat.two_pow_pos _
        have : (A + B).natAbs ≤ 2 * ((2 ^ 53 - 1) * 2 ^ ex ra) := by omega
        generalize 2 ^ ex ra = p at *
        omega
      · exact h
    have hpf : 2 ^ ex rs = 2 ^ (ex rs - ex rb - 1) * (2 * 2 ^ ex rb) := by
      rw [← Nat.pow_succ', ← Nat.pow_add]; congr 1; omega
    have hpf2 : 2 * 2 ^ ex rb ≤ 2 ^ ex rs := by
      rw [hpf]; exact Nat.le_mul_of_pos_left _ (Nat.two_pow_pos _)
    have hSA : (S - A).natAbs ≤ (A + B - S).natAbs + B.natAbs := by omega
    refine ⟨?_, ?_, hdistB⟩
    · by_cases hcase : ex rs ≤ ex ra
      · refine torep (e := ex rs) (Int.dvd_sub dS (Int.dvd_trans (dpow hcase) dA)) ?_
        generalize 2 ^ ex rs = p at *
        generalize 2 ^ ex rb = q at *
        omega
      · have he : ex rs = ex ra + 1 := by omega
        refine torep (e := ex ra) (Int.dvd_sub (Int.dvd_trans (dpow (by omega)) dS) dA) ?_
        rw [he, Nat.pow_succ] at herr
        generalize 2 ^ ex ra = p at *
        omega
    · refine torep (e := ex rb) (Int.dvd_sub (Int.dvd_add (Int.dvd_trans (dpow hex) dA) dB) (Int.dvd_trans (dpow (by omega)) dS)) ?_
      generalize 2 ^ ex rb = q at *
      omega
end Go.Proofs.Ythddodhcpfponaa.Flt
