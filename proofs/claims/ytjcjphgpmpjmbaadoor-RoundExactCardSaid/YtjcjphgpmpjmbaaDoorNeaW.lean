/-
  RoundExact, plainly: what is told of the four operations and of a root stands about the exact result.
  RoundNear answers true.
-/
import Derived.Test.YtjcjphgpmpjmbaaDoorWhoP
import Derived.Test.YtjcjphgpmpjmbaaDoorRootW
import Derived.Test.YtjcjphgpmpjmbaaDoorBtw
import Derived.Test.YtjcjphgpmpjmbaaDoorMem
import Derived.Test.YtjcjphgpmpjmbaaDoorZero
import Derived.Test.YtjcjphgpmpjmbaaDoorSpnP
namespace Go.Proofs.YtjcjphgpmpjmbaaDoor
open Go.RowKit

theorem Down.cross {z z' : Int} {n n' d : Nat} (hn : 0 < n) (hn' : 0 < n') (he : z * (n' : Int) = z' * (n : Int)) (h : Down z n d) : Down z' n' d := by
  obtain ⟨h1, h2, h3, h4, h5⟩ := h
  have sw : ∀ s : Int, s * (n' : Int) * n = s * n * n' := fun s => by rw [Int.mul_assoc, Int.mul_comm (n' : Int), ← Int.mul_assoc]
  refine ⟨h1, h2, fun hf => ?_, h4, fun t ht hle => h5 t ht ?_⟩
  · have := (mul_cut hn' (a := Flt.sv d * n) (b := z)).2 (h3 hf)
    refine (mul_cut hn).1 ?_
    rw [sw]
    omega
  · refine (mul_cut hn').1 ?_
    have := (mul_cut hn (a := Flt.sv t * n') (b := z')).2 hle
    rw [sw] at this
    omega
theorem Up.cross {z z' : Int} {n n' u : Nat} (hn : 0 < n) (hn' : 0 < n') (he : z * (n' : Int) = z' * (n : Int)) (h : Up z n u) : Up z' n' u := by
  obtain ⟨h1, h2, h3, h4, h5⟩ := h
  have sw : ∀ s : Int, s * (n' : Int) * n = s * n * n' := fun s => by rw [Int.mul_assoc, Int.mul_comm (n' : Int), ← Int.mul_assoc]
  refine ⟨h1, h2, fun hf => ?_, h4, fun t ht hle => h5 t ht ?_⟩
  · have := (mul_cut hn' (a := z) (b := Flt.sv u * n)).2 (h3 hf)
    refine (mul_cut hn).1 ?_
    rw [sw]
    omega
  · refine (mul_cut hn').1 ?_
    have := (mul_cut hn (a := z') (b := Flt.sv t * n')).2 hle
    rw [sw] at this
    omega
/-- Told of a fraction over units. -/
def AtQ (r : Rat) (d u : Nat) : Prop := Down (r.num * ((2 ^ Flt.K74 : Nat) : Int)) r.den d ∧ Up (r.num * ((2 ^ Flt.K74 : Nat) : Int)) r.den u
theorem atQ_of {r : Rat} {z : Int} {n d u : Nat} (hn : 0 < n) (hr : r = Rat.divInt z ((n * 2 ^ Flt.K74 : Nat) : Int)) (h : Down z n d ∧ Up z n u) : AtQ r d u := by
  have hp : ((n * 2 ^ Flt.K74 : Nat) : Int) ≠ 0 := by
    have := Nat.mul_pos hn (Nat.two_pow_pos Flt.K74)
    omega
  have h1 := Rat.num_divInt_den r
  have h2 : Rat.divInt r.num (r.den : Int) = Rat.divInt z ((n * 2 ^ Flt.K74 : Nat) : Int) := h1.trans hr
  rw [Rat.divInt_eq_divInt_iff (by have := r.den_nz; omega) hp] at h2
  have he : z * (r.den : Int) = r.num * ((2 ^ Flt.K74 : Nat) : Int) * (n : Int) := by
    rw [Int.mul_assoc, ← Int.natCast_mul, Nat.mul_comm]
    exact h2.symm
  have hd : 0 < r.den := Nat.pos_of_ne_zero r.den_nz
  exact ⟨Down.cross hn hd he h.1, Up.cross hn hd he h.2⟩
theorem kpos : (0 : Rat) < ((2 ^ Flt.K74 : Nat) : Rat) := Rat.natCast_pos.2 (Nat.two_pow_pos _)
theorem atQ_add {a b d u : Nat} (h : IsSum a b d u) (ha : Flt.Fin a) (hb : Flt.Fin b) : AtQ (fr a + fr b) d u := by
  refine atQ_of (by decide) ?_ (sum_down h ha hb)
  have hp := kpos
  rw [fr_rat, fr_rat, Rat.divInt_eq_div, Nat.one_mul, Rat.intCast_add]
  show _ = _ / ((2 ^ Flt.K74 : Nat) : Rat)
  generalize ((2 ^ Flt.K74 : Nat) : Rat) = K at hp ⊢
  grind
theorem atQ_sub {a b d u : Nat} (h : IsSum a (Flt.opp b) d u) (ha : Flt.Fin a) (hb : Flt.Fin b) : AtQ (fr a - fr b) d u := by
  refine atQ_of (by decide) ?_ (sum_down h ha (Flt.fin_opp.2 hb))
  have hp := kpos
  rw [fr_rat, fr_rat, Rat.divInt_eq_div, Nat.one_mul, Rat.intCast_add, Flt.sv_opp, Rat.intCast_neg]
  show _ = _ / ((2 ^ Flt.K74 : Nat) : Rat)
  generalize ((2 ^ Flt.K74 : Nat) : Rat) = K at hp ⊢
  grind
theorem atQ_mul {a b d u : Nat} (h : IsProd a b d u) (ha : Flt.Fin a) (hb : Flt.Fin b) : AtQ (fr a * fr b) d u := by
  refine atQ_of (Nat.two_pow_pos _) ?_ (prod_down h ha hb)
  have hp := kpos
  rw [fr_rat, fr_rat, Rat.divInt_eq_div, Rat.intCast_mul]
  show _ = _ / ((2 ^ Flt.K74 * 2 ^ Flt.K74 : Nat) : Rat)
  rw [Rat.natCast_mul]
  generalize ((2 ^ Flt.K74 : Nat) : Rat) = K at hp ⊢
  grind
theorem atQ_quo {a b d u : Nat} (h : IsDiv a b d u) (ha : Flt.Fin a) (hb : Flt.Fin b) (h0 : Flt.rg b ≠ 0) : AtQ (fr a / fr b) d u := by
  refine atQ_of (val_pos h0) ?_ (div_down h ha hb h0)
  have hp := kpos
  have hv := val_pos h0
  have hsv : Flt.sv b = if Flt.sgn b then -(Flt.val (Flt.rg b) : Int) else Flt.val (Flt.rg b) := rfl
  rw [fr_rat, fr_rat, Rat.divInt_eq_div, hsv]
  show _ = _ / ((Flt.val (Flt.rg b) * 2 ^ Flt.K74 : Nat) : Rat)
  rw [Rat.natCast_mul]
  unfold qn
  obtain ⟨V, hV⟩ : ∃ V, Flt.val (Flt.rg b) = V := ⟨_, rfl⟩
  rw [hV] at hv ⊢
  have hvr : (0 : Rat) < (V : Rat) := Rat.natCast_pos.2 hv
  generalize Flt.sv a = x
  rw [Rat.intCast_mul, Rat.intCast_natCast]
  generalize ((2 ^ Flt.K74 : Nat) : Rat) = K at hp ⊢
  cases Flt.sgn b with
  | true =>
    simp only [if_true, Rat.intCast_neg, Rat.intCast_natCast]
    grind
  | false =>
    simp only [Bool.false_eq_true, if_false, Rat.intCast_natCast]
    grind
theorem fr_ne0 {b : Nat} (h0 : Flt.rg b ≠ 0) : fr b ≠ 0 := by
  intro h
  have h1 : Flt.sv b = 0 := by
    have hp := kpos
    rw [fr_rat] at h
    have h2 : (Flt.sv b : Rat) = 0 := by
      generalize ((2 ^ Flt.K74 : Nat) : Rat) = K at hp h
      grind
    exact Rat.intCast_eq_zero_iff.1 h2
  exact h0 (Flt.sv_zero_iff.1 h1)
/-! ### squares -/
theorem sq_wide (d a : Nat) : fr d * fr d = Rat.divInt (Flt.sv d * Flt.sv d) (((2 ^ Flt.K74 : Nat) : Int) * ((2 ^ Flt.K74 : Nat) : Int)) ∧ fr a = Rat.divInt (Flt.sv a * ((2 ^ Flt.K74 : Nat) : Int)) (((2 ^ Flt.K74 : Nat) : Int) * ((2 ^ Flt.K74 : Nat) : Int)) := by
  constructor
  · unfold fr
    exact Rat.divInt_mul_divInt _ _
  · unfold fr
    rw [Rat.divInt_mul_right unit_ne]
theorem unit2_pos : 0 < ((2 ^ Flt.K74 : Nat) : Int) * ((2 ^ Flt.K74 : Nat) : Int) := by
  have := Nat.two_pow_pos Flt.K74
  exact Int.mul_pos (by omega) (by omega)
theorem rcmp_sq {d a : Nat} : (Flt.sv d * Flt.sv d < Flt.sv a * ((2 ^ Flt.K74 : Nat) : Int) → rcmp (fr d * fr d) (fr a) = -1) ∧ (Flt.sv a * ((2 ^ Flt.K74 : Nat) : Int) < Flt.sv d * Flt.sv d → rcmp (fr d * fr d) (fr a) = 1) ∧ (Flt.sv d * Flt.sv d = Flt.sv a * ((2 ^ Flt.K74 : Nat) : Int) → rcmp (fr d * fr d) (fr a) = 0) := by
  obtain ⟨e1, e2⟩ := sq_wide d a
  have l1 := divInt_lt (a := Flt.sv d * Flt.sv d) (b := Flt.sv a * ((2 ^ Flt.K74 : Nat) : Int)) unit2_pos
  have l2 := divInt_lt (a := Flt.sv a * ((2 ^ Flt.K74 : Nat) : Int)) (b := Flt.sv d * Flt.sv d) unit2_pos
  rw [← e1, ← e2] at l1 l2
  refine ⟨fun h => ?_, fun h => ?_, fun h => ?_⟩
  · unfold rcmp; rw [if_pos (l1.2 h)]
  · unfold rcmp; rw [if_neg (fun k => by have := l1.1 k; omega), if_pos (l2.2 h)]
  · unfold rcmp; rw [if_neg (fun k => by have := l1.1 k; omega), if_neg (fun k => by have := l2.1 k; omega)]
theorem sqrt_noughts : Ieee.double.sqrt 0 = some 0 ∧ Ieee.double.sqrt (2 ^ 63) = some (2 ^ 63) := by
  constructor <;> decide +kernel
theorem root_below {x r : Nat} (hx : Flt.Fin x) (k1 : Flt.val r * Flt.val r ≤ Flt.val (Flt.rg x) * 2 ^ Flt.K74) (hr1 : r < Flt.inf) : r + 1 < Flt.inf := by
  have hil := Flt.inf_lt
  have hlt : Flt.rg x < Flt.inf := hx
  rcases Nat.lt_or_ge (r + 1) Flt.inf with h' | h'
  · exact h'
  · exfalso
    have e : r = Flt.inf - 1 := by omega
    have k2 := Flt.val_le (show Flt.rg x ≤ Flt.inf - 1 by omega)
    have k3 : 2 ^ Flt.K74 < Flt.val (Flt.inf - 1) := by
      have h1 := Flt.val_whole (m := 2) (by decide)
      have h2 : Flt.whole 2 < Flt.inf - 1 := by rw [Flt.inf_eq]; decide +kernel
      have h3 := Flt.val_lt h2
      have h4 : 0 < 2 ^ Flt.K74 := Nat.two_pow_pos _
      omega
    rw [e] at k1
    have k4 : Flt.val (Flt.rg x) * 2 ^ Flt.K74 ≤ Flt.val (Flt.inf - 1) * 2 ^ Flt.K74 := Nat.mul_le_mul_right _ k2
    have k5 : Flt.val (Flt.inf - 1) * 2 ^ Flt.K74 < Flt.val (Flt.inf - 1) * Flt.val (Flt.inf - 1) := Nat.mul_lt_mul_of_pos_left k3 (Nat.lt_of_le_of_lt (Nat.zero_le _) k3)
    omega
/-- What is told of a root. -/
theorem root_btw {a d u : Nat} (ha : a < 2 ^ 64) (hf : Flt.Fin a) (h0 : 0 ≤ Flt.sv a) (h : IsRoot a d u) :
    Flt.Fin d ∧ Flt.Fin u ∧ d < 2 ^ 64 ∧ u < 2 ^ 64 ∧ ∃ L H : Int, rcmp (fr d * fr d) (fr a) = L ∧ rcmp (fr u * fr u) (fr a) = H ∧
      ((L = 0 ∧ H = 0 ∧ (Ieee.double.order d u == some .eq) = true) ∨ (L = -1 ∧ H = 1 ∧ (Ieee.double.order d u == some .eq) = false)) := by
  have hil := Flt.inf_lt
  by_cases hP : Pos a
  · obtain ⟨r, h1, rfl, h2⟩ := h.2 hP
    obtain ⟨hr, k1, k2⟩ := h1
    have sa : Flt.sv a = (Flt.val (Flt.rg a) : Int) := by unfold Flt.sv; rw [hP.2.1]; rfl
    have word : ∀ q, q ≤ Flt.inf → Flt.sv q = (Flt.val q : Int) ∧ Flt.rg q = q := fun q hq => by
      have e : Flt.word false q = q := rfl
      have s1 := Flt.sv_word (s := false) (r := q) (by omega)
      have s2 := Flt.rg_word false q (by omega)
      rw [e] at s1 s2
      exact ⟨s1, s2⟩
    obtain ⟨d1, d2⟩ := word d (by omega)
    have fd : Flt.Fin d := by unfold Flt.Fin; rw [d2]; exact hr
    generalize hV : Flt.val (Flt.rg a) * 2 ^ Flt.K74 = V at k1 k2 h2
    have sV : Flt.sv a * ((2 ^ Flt.K74 : Nat) : Int) = (V : Int) := by rw [sa, ← Int.natCast_mul, hV]
    have sd : Flt.sv d * Flt.sv d = ((Flt.val d * Flt.val d : Nat) : Int) := by rw [d1, Int.natCast_mul]
    have nd : ¬ Flt.Nan d := by unfold Flt.Nan; rw [d2]; omega
    by_cases e : Flt.val d * Flt.val d = V
    · rw [if_pos e] at h2
      subst h2
      have hz := (rcmp_sq (d := u) (a := a)).2.2 (by rw [sd, sV, e])
      exact ⟨fd, fd, by omega, by omega, 0, 0, hz, hz, .inl ⟨rfl, rfl, by rw [Flt.eq_spec nd nd]; simp⟩⟩
    · rw [if_neg e] at h2
      subst h2
      obtain ⟨u1, u2⟩ := word (d + 1) (by omega)
      have su : Flt.sv (d + 1) * Flt.sv (d + 1) = ((Flt.val (d + 1) * Flt.val (d + 1) : Nat) : Int) := by rw [u1, Int.natCast_mul]
      have nu : ¬ Flt.Nan (d + 1) := by unfold Flt.Nan; rw [u2]; omega
      have hlt := Flt.val_lt (show d < d + 1 by omega)
      have fu : Flt.Fin (d + 1) := by
        rcases Nat.lt_or_ge (d + 1) Flt.inf with q | q
        · unfold Flt.Fin; rw [u2]; exact q
        · exact absurd (root_below hf (by rw [hV]; exact k1) hr) (by omega)
      have hz1 := (rcmp_sq (d := d) (a := a)).1 (by rw [sd, sV]; omega)
      have hz2 := (rcmp_sq (d := d + 1) (a := a)).2.1 (by rw [su, sV]; omega)
      exact ⟨fd, fu, by omega, by omega, -1, 1, hz1, hz2, .inr ⟨rfl, rfl, by rw [Flt.eq_spec nd nu, decide_eq_false (by rw [d1, u1]; omega)]⟩⟩
  · obtain ⟨z, h1, rfl, rfl⟩ := h.1 hP
    have hr0 : Flt.rg a = 0 := by
      rcases Nat.eq_zero_or_pos (Flt.rg a) with q | q
      · exact q
      · exfalso
        refine hP ⟨hf, ?_, by omega⟩
        cases hs : Flt.sgn a with
        | false => rfl
        | true =>
          have : Flt.sv a = -(Flt.val (Flt.rg a) : Int) := by unfold Flt.sv; rw [hs]; rfl
          have := val_pos (r := Flt.rg a) (by omega)
          omega
    have hz : u = a := by
      have hw := Flt.word_eq a ha
      rw [hr0] at hw
      obtain ⟨q1, q2⟩ := sqrt_noughts
      have hm := h1.2
      cases hs : Flt.sgn a with
      | false =>
        rw [hs] at hw
        have : a = 0 := hw.symm
        subst this
        rw [q1] at hm
        exact hm
      | true =>
        rw [hs] at hw
        have : a = 2 ^ 63 := hw.symm
        subst this
        rw [q2] at hm
        exact hm
    subst hz
    have s0 : Flt.sv u = 0 := Flt.sv_zero_iff.2 hr0
    have nd : ¬ Flt.Nan u := by unfold Flt.Nan; rw [hr0]; omega
    have hz := (rcmp_sq (d := u) (a := u)).2.2 (by rw [s0, Int.zero_mul, Int.zero_mul])
    exact ⟨hf, hf, ha, ha, 0, 0, hz, hz, .inl ⟨rfl, rfl, by rw [Flt.eq_spec nd nd]; simp⟩⟩
theorem sub_num {v t : Nat} (ht : IsOp Ieee.double.sub v v t) (hf : Flt.Fin v) : Flt.nanB t = false := by
  have h := sub_self ht
  rw [Flt.finB_iff.2 hf] at h
  cases hn : Flt.nanB t with
  | false => rfl
  | true =>
    rw [Flt.order_nan_left (Flt.nanB_iff.1 hn)] at h
    cases h
end Go.Proofs.YtjcjphgpmpjmbaaDoor

namespace Go.Proofs.YtjcjphgpmpjmbaaDoor
open Go.RowKit

/-- Any exact result between what is told of it. -/
theorem law_between (neg : Bool) (A : Option Addr) (n c : Nat) (l : List Nat) (neg' : Bool) (A' : Option Addr) (n' c' : Nat) (l' : List Nat) (r : Rat) (d u : Nat) (w : World) (hO : OkF w ((neg, A, n, c, l), (neg', A', n', c', l')) r) (hT : Tab w) (h : Down (r.num * ((2 ^ Flt.K74 : Nat) : Int)) r.den d) (k : Up (r.num * ((2 ^ Flt.K74 : Nat) : Int)) r.den u) :
    Calls Tryd.prog 11 #[.agg #[.bool neg, .slice A n c, .bool neg', .slice A' n' c'], .float .f64 d, .float .f64 u] w (RetV w (.bool true)) := by
  obtain ⟨n1, n2, s1, s2, L, H, a1, a2, a3, a4, a5⟩ := btw_of h k
  exact law_between_core neg A n c l neg' A' n' c' l' r d u L H w h.1 k.1 hO hT n1 n2 s1 s2 a1 a2 a3 a4 a5
end Go.Proofs.YtjcjphgpmpjmbaaDoor
