/-
  Products and quotients (round).
  The references floats (polestarref04): Add, Mul, Quo.
  Roots, rounded down and up (round.Sqrt).
  Roots, rounded down and up (round.Sqrt): the walks.
-/
import Derived.Test.YtgekmbfmfiikkaaGreatDoorEdgU
import Derived.Test.YtgekmbfmfiikkaaGreatDoorRndU
import Derived.Test.YtgekmbfmfiikkaaGreatDoorRefW
import Derived.Test.YtgekmbfmfiikkaaGreatDoorFlt
/-! Products, rounded down and up (round.Mul). -/
namespace Go.Proofs.YtgekmbfmfiikkaaGreatDoor
open Go.RowKit
/-! ### plain: pairs beside a fraction, however that is written -/
theorem val_pos {r : Nat} (h : r ≠ 0) : 0 < Flt.val r := by have := Flt.val_lt (show 0 < r by omega); rw [Flt.val_zero] at this; exact this
/-! ### parts of a float; its sign -/
end Go.Proofs.YtgekmbfmfiikkaaGreatDoor
/-! math/bits.Div64 of a number of 64 bits with 64 noughts behind it. -/
namespace Go.Proofs.YtgekmbfmfiikkaaGreatDoor
open Go.RowKit
/-! ### plain: one digit of 32 bits -/
end Go.Proofs.YtgekmbfmfiikkaaGreatDoor
/-! The references' floats (polestarref04): the product. -/
namespace Go.Proofs.YtgekmbfmfiikkaaGreatDoor
open Go.RowKit
theorem sv_abs (x : Nat) : (Flt.sv x).natAbs = Flt.val (Flt.rg x) := by unfold Flt.sv; split <;> omega
theorem sv_neg {x : Nat} (h : Flt.rg x ≠ 0) : decide (Flt.sv x < 0) = Flt.sgn x := by
 have := val_pos h
 unfold Flt.sv
 cases Flt.sgn x
 ·exact decide_eq_false (by simp)
 ·exact decide_eq_true (by simp; omega)
end Go.Proofs.YtgekmbfmfiikkaaGreatDoor
/-! The references' whole numbers and floats: Divide by any number; quotients by any number. -/
namespace Go.Proofs.YtgekmbfmfiikkaaGreatDoor
open Go.RowKit
theorem isInt_lt {w : World} {neg : Bool} {A : Option Addr} {n c : Nat} {z : Int} (h : IsInt w neg A n c z) : z.natAbs < Lm.B ^ n := by
 obtain ⟨l, hl, _, _, rfl⟩ := h
 have h1 : (sgnd neg (Lm.lv l)).natAbs = Lm.lv l := by unfold sgnd; split <;> omega
 rw [h1, ← hl.len]
 exact Lm.lv_lt hl.ok
end Go.Proofs.YtgekmbfmfiikkaaGreatDoor
namespace Go.Proofs.YtgekmbfmfiikkaaGreatDoor
open Go.RowKit
/-! ### plain -/
def DnSq (V r : Nat) : Prop := r < Flt.inf ∧ Flt.val r * Flt.val r ≤ V ∧ V < Flt.val (r + 1) * Flt.val (r + 1)
theorem DnSq.unique {V r s : Nat} (h : DnSq V r) (k : DnSq V s) : r = s := by
 have key : ∀ {r s : Nat}, DnSq V r → DnSq V s → ¬ r < s := by
  intro r s h k hlt
  have h1 : Flt.val (r + 1) * Flt.val (r + 1) ≤ Flt.val s * Flt.val s := Nat.mul_le_mul (Flt.val_le hlt) (Flt.val_le hlt)
  have := h.2.2
  have := k.2.1
  omega
 have := key h k
 have := key k h
 omega
def IsSq (x z : Nat) : Prop := z < 2 ^ 64 ∧ (match Ieee.double.sqrt x with | some r => z = r | none => Flt.Nan z)
def Pos (x : Nat) : Prop := Flt.Fin x ∧ Flt.sgn x = false ∧ Flt.rg x ≠ 0
def IsRoot (x d u : Nat) : Prop :=
 (¬ Pos x → ∃ z, IsSq x z ∧ d = z ∧ u = z) ∧
 (Pos x → ∃ r, DnSq (Flt.val (Flt.rg x) * 2 ^ Flt.K74) r ∧ d = r ∧ u = if Flt.val r * Flt.val r = Flt.val (Flt.rg x) * 2 ^ Flt.K74 then r else r + 1)
theorem val_pow (E : Nat) : Flt.val ((E + 1) * 2 ^ 52) = 2 ^ (52 + E) := by
 have v := Flt.val_tail (m := 1) (by decide) (by decide) E
 have e1 : Flt.tail52 1 = 0 := by decide
 rw [e1, Nat.add_zero, Nat.one_mul] at v
 rw [v, show Nat.log2 1 = 0 by decide]
theorem root_fin {v r : Nat} (hv : v < Flt.inf) (h : Flt.NearSq (Flt.val v * 2 ^ Flt.K74) 1 r) : r < Flt.inf := by
 rcases Nat.lt_or_ge r Flt.inf with h' | h'
 ·exact h'
 ·exfalso
  have hr : r = Flt.inf := by have := h.1; omega
  have hi := Flt.inf_eq
  have h3 := (h.2.2 (by omega)).1
  rw [Nat.mul_one, hr] at h3
  have hm : 2 * Flt.val (Flt.inf - 1) ≤ Flt.mid (Flt.inf - 1) := by rw [Flt.mid_eq]; omega
  have h4 : 2 * Flt.val (Flt.inf - 1) * (2 * Flt.val (Flt.inf - 1)) ≤ Flt.mid (Flt.inf - 1) * Flt.mid (Flt.inf - 1) := Nat.mul_le_mul hm hm
  have h5 : Flt.val v ≤ Flt.val (Flt.inf - 1) := Flt.val_le (by omega)
  have h6 : Flt.val v * 2 ^ Flt.K74 ≤ Flt.val (Flt.inf - 1) * 2 ^ Flt.K74 := Nat.mul_le_mul_right _ h5
  have h7 : 2 ^ Flt.K74 < Flt.val (Flt.inf - 1) := by
   obtain ⟨E, hE⟩ : ∃ E : Nat, E = 1022 := ⟨_, rfl⟩
   have h8 := val_pow E
   have hK := Flt.K74_eq
   rw [show 52 + E = Flt.K74 by omega] at h8
   rw [← h8]
   exact Flt.val_lt (by omega)
  have h9 : Flt.val (Flt.inf - 1) * 2 ^ Flt.K74 < Flt.val (Flt.inf - 1) * Flt.val (Flt.inf - 1) := Nat.mul_lt_mul_of_pos_left h7 (by have := Nat.two_pow_pos Flt.K74; omega)
  have h10 : 2 * Flt.val (Flt.inf - 1) * (2 * Flt.val (Flt.inf - 1)) = 4 * (Flt.val (Flt.inf - 1) * Flt.val (Flt.inf - 1)) := by rw [Nat.mul_mul_mul_comm]
  generalize Flt.val (Flt.inf - 1) * Flt.val (Flt.inf - 1) = A at *
  generalize Flt.val (Flt.inf - 1) * 2 ^ Flt.K74 = B at *
  omega
theorem root_at {V r : Nat} {k : Int} (hr : r < Flt.inf) (hn : Flt.NearSq V 1 r) (h1 : 0 < k ↔ Flt.val r * Flt.val r < V) (h2 : k < 0 ↔ V < Flt.val r * Flt.val r) :
  ∃ s, DnSq V s ∧ (atd r k).1 = s ∧ (atd r k).2 = if Flt.val s * Flt.val s = V then s else s + 1 := by
 have up := (hn.2.1 hr).1
 have hlt := Flt.val_lt_succ r
 have hmid : Flt.mid r = Flt.val r + Flt.val (r + 1) := rfl
 have dn : Flt.val r * Flt.val r ≤ V → DnSq V r := fun h => by
  refine ⟨hr, h, ?_⟩
  have h3 : Flt.mid r * Flt.mid r < 2 * Flt.val (r + 1) * (2 * Flt.val (r + 1)) := Nat.mul_lt_mul'' (by omega) (by omega)
  rw [Nat.mul_mul_mul_comm] at h3
  rw [Nat.mul_one] at up
  omega
 unfold atd
 rcases Int.lt_trichotomy k 0 with hk | hk | hk
 ·have hV := h2.1 hk
  have h0 : 0 < r := by
   rcases Nat.eq_zero_or_pos r with h | h
   ·rw [h, Flt.val_zero] at hV; omega
   ·exact h
  rw [if_neg (by omega), if_pos hk]
  have e := nxt_pos_down h0 hr
  rw [show Flt.word false r = r from rfl] at e
  rw [e]
  have hd := (hn.2.2 h0).1
  have hm2 : Flt.mid (r - 1) = Flt.val (r - 1) + Flt.val r := Flt.mid_pred h0
  have hlt2 := Flt.val_lt (show r - 1 < r by omega)
  have h3 : Flt.val (r - 1) * Flt.val (r - 1) < V := by
   have h4 : 2 * Flt.val (r - 1) * (2 * Flt.val (r - 1)) < Flt.mid (r - 1) * Flt.mid (r - 1) := Nat.mul_lt_mul'' (by omega) (by omega)
   rw [Nat.mul_mul_mul_comm] at h4
   rw [Nat.mul_one] at hd
   omega
  refine ⟨r - 1, ⟨by omega, by omega, by rw [show r - 1 + 1 = r by omega]; exact hV⟩, rfl, ?_⟩
  rw [if_neg (by omega)]
  show r = r - 1 + 1
  omega
 ·have a : ¬ Flt.val r * Flt.val r < V := fun h => by have := h1.2 h; omega
  have b : ¬ V < Flt.val r * Flt.val r := fun h => by have := h2.2 h; omega
  rw [if_neg (by omega), if_neg (by omega)]
  exact ⟨r, dn (by omega), rfl, by rw [if_pos (by omega)]⟩
 ·have hV := h1.1 hk
  rw [if_pos hk]
  have e := nxt_pos_up hr
  rw [show Flt.word false r = r from rfl] at e
  rw [e]
  exact ⟨r, dn (by omega), rfl, by rw [if_neg (by omega)]⟩
theorem root_low {V r E : Nat} (hn : Flt.NearSq V 1 r) (hr : r < Flt.inf) (hV : 2 ^ (E + E) ≤ V) (hE : 1 ≤ E) : 2 ^ (E - 1) ≤ Flt.val r := by
 have up := (hn.2.1 hr).1
 rw [Nat.mul_one] at up
 have h0 : 0 < r := by
  rcases Nat.eq_zero_or_pos r with h | h
  ·subst h
   have e : Flt.mid 0 = 1 := by decide
   rw [e] at up
   have := Nat.two_pow_pos (E + E)
   omega
  ·exact h
 have hu : Flt.ulp r ≤ Flt.val r := by
  have h1 := Flt.val_lt h0
  rw [Flt.val_zero] at h1
  obtain ⟨m, hm, hv⟩ := Flt.val_form r
  rw [hv, Flt.ulp_eq]
  have : m ≠ 0 := by rintro rfl; rw [Nat.zero_mul] at hv; omega
  exact Nat.le_mul_of_pos_left _ (by omega)
 have hm : Flt.mid r ≤ 3 * Flt.val r := by rw [Flt.mid_eq]; omega
 have h2 : Flt.mid r * Flt.mid r ≤ 3 * Flt.val r * (3 * Flt.val r) := Nat.mul_le_mul hm hm
 rcases Nat.lt_or_ge (Flt.val r) (2 ^ (E - 1)) with h | h
 ·exfalso
  have h3 : 3 * Flt.val r * (3 * Flt.val r) < 3 * 2 ^ (E - 1) * (3 * 2 ^ (E - 1)) := Nat.mul_lt_mul'' (by omega) (by omega)
  have e1 : 2 ^ (E + E) = 4 * (2 ^ (E - 1) * 2 ^ (E - 1)) := by
   rw [← Nat.pow_add, show (4 : Nat) = 2 ^ 2 by decide, ← Nat.pow_add]; congr 1; omega
  rw [Nat.mul_mul_mul_comm 3 (2 ^ (E - 1))] at h3
  generalize 2 ^ (E - 1) * 2 ^ (E - 1) = A at *
  omega
 ·exact h
theorem fma_sign {x z : Nat} (hx : Flt.Fin x) (hz : Flt.Fin z) {K L : Nat} (hKL : K = 1074 ∧ L = 590) (hlow : 2 ^ L ≤ Flt.val (Flt.rg x)) : ∃ l, Ieee.double.fma x x z = some l ∧ l < 2 ^ 64 ∧ ¬ Flt.Nan l ∧ (0 < Flt.sv l ↔ 0 < Flt.fex x x z) ∧ (Flt.sv l < 0 ↔ Flt.fex x x z < 0) := by
 obtain ⟨s, r, h1, h2, h3⟩ := Flt.fma_fin hx hx hz
 have hrl := Flt.near_lt h2
 have hri := h2.1
 have hz0 : Flt.fex x x z ≠ 0 → r ≠ 0 := fun h => by
  rintro rfl
  have h4 := (h2.2.1 (by rw [Flt.inf_eq]; omega)).1
  have e1 : Flt.val 0 + Flt.val (0 + 1) = 1 := by decide
  rw [e1, Nat.one_mul] at h4
  have hdvd : ((2 ^ Flt.K74 : Nat) : Int) ∣ Flt.fex x x z := by
   unfold Flt.fex
   refine Int.dvd_add ?_ ⟨Flt.sv z, by rw [Int.mul_comm]⟩
   rw [Flt.sv_mul]
   have hd : 2 ^ Flt.K74 ∣ Flt.val (Flt.rg x) * Flt.val (Flt.rg x) := by
    obtain ⟨m, hm, hv⟩ := Flt.val_form (Flt.rg x)
    rw [hv] at hlow ⊢
    have hex : K / 2 ≤ Flt.ex (Flt.rg x) := by
     rcases Nat.lt_or_ge (Flt.ex (Flt.rg x)) (K / 2) with h' | h'
     ·have h5 : 2 ^ Flt.ex (Flt.rg x) ≤ 2 ^ (K / 2) := Nat.pow_le_pow_right (by decide) (by omega)
      have h6 : m * 2 ^ Flt.ex (Flt.rg x) < 2 ^ 53 * 2 ^ (K / 2) := Nat.mul_lt_mul_of_lt_of_le hm h5 (Nat.two_pow_pos _)
      rw [← Nat.pow_add] at h6
      have h7 : 2 ^ (53 + K / 2) ≤ 2 ^ L := Nat.pow_le_pow_right (by decide) (by omega)
      omega
     ·exact h'
    rw [Nat.mul_mul_mul_comm, ← Nat.pow_add]
    have hK := Flt.K74_eq
    exact Nat.dvd_trans (Nat.pow_dvd_pow 2 (by omega)) (Nat.dvd_mul_left _ _)
   split
   ·exact Int.dvd_neg.2 (Int.natCast_dvd_natCast.2 hd)
   ·exact Int.natCast_dvd_natCast.2 hd
  have h5 := Int.natAbs_dvd_natAbs.2 hdvd
  rw [Int.natAbs_natCast] at h5
  have h6 := Nat.le_of_dvd (by omega) h5
  have := Nat.two_pow_pos Flt.K74
  omega
 have hsv := Flt.sv_word (s := s) hrl
 have hrg : Flt.rg (Flt.word s r) = r := Flt.rg_word _ _ hrl
 refine ⟨Flt.word s r, h1, Flt.word_lt _ hrl, by unfold Flt.Nan; rw [hrg]; omega, ?_, ?_⟩
 ·rw [hsv]
  by_cases h0 : Flt.fex x x z = 0
  ·rw [h0] at h2
   have hr0 : r = 0 := h2.unique (Nat.two_pow_pos _) Flt.near_zero
   rw [hr0, Flt.val_zero, h0]; split <;> simp
  ·have hp := val_pos (hz0 h0)
   rw [h3 h0]
   by_cases hn : Flt.fex x x z < 0
   ·rw [decide_eq_true hn]; simp; omega
   ·rw [decide_eq_false hn]; simp; omega
 ·rw [hsv]
  by_cases h0 : Flt.fex x x z = 0
  ·rw [h0] at h2
   have hr0 : r = 0 := h2.unique (Nat.two_pow_pos _) Flt.near_zero
   rw [hr0, Flt.val_zero, h0]; split <;> simp
  ·have hp := val_pos (hz0 h0)
   rw [h3 h0]
   by_cases hn : Flt.fex x x z < 0
   ·rw [decide_eq_true hn]; simp; omega
   ·rw [decide_eq_false hn]; simp; omega
end Go.Proofs.YtgekmbfmfiikkaaGreatDoor
namespace Go.Proofs.YtgekmbfmfiikkaaGreatDoor
open Go.RowKit
theorem sqrt_eq (x : Nat) : Extern.MathSqrt.sqrt #[.float .f64 x] = (match Ieee.double.sqrt x with | some r => pure (.float .f64 r) | none => do pure (.float .f64 (← choose (.nanBits .f64 x x)))) := rfl
theorem sqrt_run (x : Nat) (w : World) : ∃ z n, (callFunc 362 #[.float .f64 x]).run Tryz.prog w = .ok (.value (.float .f64 z)) (w.drewN n) ∧ IsSq x z := by
 rw [run_callFunc_extern Tryz.func362 (by kernel_rfl) (by kernel_rfl) (by kernel_rfl) (e := Extern.MathSqrt.sqrt) (by kernel_rfl), sqrt_eq]
 cases h : Ieee.double.sqrt x with
 | some r => exact ⟨r, 0, by rw [World.drewN_zero]; simp, Ieee.Format.sqrt_lt _ h, by rw [h]⟩
 | none =>
  refine ⟨(Question.nanBits .f64 x x).cut (w.tape w.drawn (Question.nanBits .f64 x x)), 1, ?_, ?_⟩
  ·have e : (Question.nanBits .f64 x x).forced = false := rfl
   simp [e]
   rfl
  ·exact ⟨(nan_cut x x _).2, by rw [h]; exact (nan_cut x x _).1⟩
def RetSq (w : World) (x : Nat) (e : Ending) (w' : World) : Prop := ∃ z d, e = .returned (.float .f64 z) ∧ IsSq x z ∧ w.drewN d = w'
theorem sqrt_any (x : Nat) (w : World) : Calls Tryz.prog 325 #[.float .f64 x] w (RetSq w x) := by
 obtain ⟨z, n, hrun, hz⟩ := sqrt_run x w
 have HZ := Lib.hid hz
 clear hz
 go_enter Tryz.func325, Tryz.ntmps325
 go_wp2
 go_ret
 exact ⟨z, n, rfl, HZ.out, rfl⟩
theorem fma_eq {x y z l : Nat} (h : Ieee.double.fma x y z = some l) : Extern.MathFMA.fma #[.float .f64 x, .float .f64 y, .float .f64 z] = pure (.float .f64 l) := by
 have e : Extern.MathFMA.fma #[.float .f64 x, .float .f64 y, .float .f64 z] = (match Ieee.double.fma x y z with | some r => pure (.float .f64 r) | none => (let p := if Extern.MathFMA.isNaN x then (x, y) else if Extern.MathFMA.isNaN y then (y, z) else (z, z); do pure (.float .f64 (← choose (.nanBits .f64 p.1 p.2))))) := rfl
 rw [e, h]
theorem fma_run {x y z l : Nat} (h : Ieee.double.fma x y z = some l) (w : World) : (callFunc 355 #[.float .f64 x, .float .f64 y, .float .f64 z]).run Tryz.prog w = .ok (.value (.float .f64 l)) w := by
 rw [run_callFunc_extern Tryz.func355 (by kernel_rfl) (by kernel_rfl) (by kernel_rfl) (e := Extern.MathFMA.fma) (by kernel_rfl), fma_eq h]
 simp
theorem leq_zero {x : Nat} (hx : Flt.Fin x) : ((Ieee.double.order x 0 == some .lt) = decide (Flt.sv x < 0)) ∧ ((Ieee.double.order x 0 == some .eq) = decide (Flt.sv x = 0)) := by
 have hn : ¬ Flt.Nan x := by unfold Flt.Nan; unfold Flt.Fin at hx; omega
 have h1 := Flt.lt_spec hn nan_zero
 have h2 := Flt.eq_spec hn nan_zero
 rw [sv_zero] at h1 h2
 exact ⟨h1, h2⟩
theorem pos_sv {x : Nat} : (Flt.Fin x ∧ 0 < Flt.sv x) ↔ Pos x := by
 unfold Pos
 constructor
 ·rintro ⟨h1, h2⟩
  refine ⟨h1, ?_, fun h => ?_⟩
  ·unfold Flt.sv at h2
   cases hs : Flt.sgn x with
   | false => rfl
   | true => rw [hs] at h2; simp at h2; omega
  ·rw [Flt.sv_zero_iff.2 h] at h2; omega
 ·rintro ⟨h1, h2, h3⟩
  refine ⟨h1, ?_⟩
  have := val_pos h3
  unfold Flt.sv
  rw [h2]; simp; omega
theorem pos_word {x : Nat} (hx : x < 2 ^ 64) (h : Pos x) : Flt.rg x = x := by
 have := Flt.word_eq x hx
 rw [h.2.1] at this
 exact this
theorem rg_small {r : Nat} (h : r < Flt.inf) : Flt.rg r = r ∧ Flt.sgn r = false ∧ Flt.Fin r := by
 have hi := Flt.inf_lt
 have e : Flt.word false r = r := rfl
 have h1 := Flt.rg_word false r (by omega)
 have h2 := Flt.sgn_word false r (by omega)
 rw [e] at h1 h2
 exact ⟨h1, h2, by unfold Flt.Fin; rw [h1]; exact h⟩
theorem sv_small {r : Nat} (h : r < Flt.inf) : Flt.sv r = Flt.val r := by
 obtain ⟨h1, h2, _⟩ := rg_small h
 unfold Flt.sv; rw [h1, h2]; rfl
theorem root_loss {x r : Nat} (hx : x < 2 ^ 64) (hp : Pos x) (hr : r < Flt.inf) {K L : Nat} (hKL : K = 1074 ∧ L = 590) (hlow : 2 ^ L ≤ Flt.val r) :
  ∃ l, Ieee.double.fma r r (neg64 x) = some l ∧ ¬ Flt.Nan (neg64 l) ∧ (0 < Flt.sv (neg64 l) ↔ Flt.val r * Flt.val r < Flt.val x * 2 ^ Flt.K74) ∧ (Flt.sv (neg64 l) < 0 ↔ Flt.val x * 2 ^ Flt.K74 < Flt.val r * Flt.val r) := by
 obtain ⟨g1, g2, g3⟩ := rg_small hr
 have hxr := pos_word hx hp
 obtain ⟨l, h1, h2, h3, h4, h5⟩ := fma_sign (x := r) (z := Flt.opp x) g3 (Flt.fin_opp.2 hp.1) hKL (by rw [g1]; exact hlow)
 have hfex : Flt.fex r r (Flt.opp x) = ((Flt.val r * Flt.val r : Nat) : Int) - ((Flt.val x * 2 ^ Flt.K74 : Nat) : Int) := by
  unfold Flt.fex
  rw [sv_small hr, Flt.sv_opp]
  have : Flt.sv x = Flt.val x := by unfold Flt.sv; rw [hp.2.1, hxr]; rfl
  rw [this, Int.neg_mul, Int.natCast_mul, Int.natCast_mul, Int.sub_eq_add_neg]
 rw [hfex] at h4 h5
 refine ⟨l, by rw [neg64_eq x hx]; exact h1, ?_, ?_, ?_⟩
 ·rw [neg64_eq l h2, Flt.nan_opp]; exact h3
 ·rw [neg64_eq l h2, Flt.sv_opp]; omega
 ·rw [neg64_eq l h2, Flt.sv_opp]; omega
theorem scaled_up {r c k E : Nat} (hr : r < Flt.inf) (hc : c = (E + 1) * 2 ^ 52) (hcb : c < Flt.inf) (hE : 52 + E = k + Flt.K74) (hb : Flt.val r * 2 ^ k < Flt.val Flt.inf) : ∃ s, s < Flt.inf ∧ Ieee.double.mul r c = some s ∧ Flt.val s = Flt.val r * 2 ^ k := by
 obtain ⟨m, hm, hv⟩ := Flt.val_form r
 obtain ⟨s, hs⟩ := Flt.rep_mk (Flt.ex r + k) m (by omega)
 have hs2 : Flt.val s = Flt.val r * 2 ^ k := by rw [hs, hv, Nat.pow_add, Nat.mul_assoc]
 have hsi : s < Flt.inf := Flt.lt_of_val (by rw [hs2]; exact hb)
 obtain ⟨g1, g2, g3⟩ := rg_small hr
 obtain ⟨k1, k2, k3⟩ := rg_small hcb
 have h := Flt.mul_exact (x := r) (y := c) (r := s) g3 k3 (by omega) (by rw [g1, k1, hs2, hc, val_pow, hE, Nat.pow_add, Nat.mul_assoc])
 rw [g2, k2] at h
 exact ⟨s, hsi, h, hs2⟩
theorem root_loss_small {x r : Nat} (hx : x < 2 ^ 64) (hp : Pos x) (hn : Flt.NearSq (Flt.val x * 2 ^ Flt.K74) 1 r) (hr : r < Flt.inf) {K L a4 a2 a474 a800 a500 : Nat} (hKL : K = 1074 ∧ L = 590) (hA : a4 = 400 ∧ a2 = 200 ∧ a474 = 474 ∧ a800 = 800 ∧ a500 = 500) (hs : Flt.val x < 2 ^ a474) :
  ∃ x4 r2 l, Ieee.double.mul x 6408622269748215808 = some x4 ∧ Ieee.double.mul r 5507902344274116608 = some r2 ∧ Ieee.double.fma r2 r2 (neg64 x4) = some l ∧ ¬ Flt.Nan (neg64 l) ∧
   (0 < Flt.sv (neg64 l) ↔ Flt.val r * Flt.val r < Flt.val x * 2 ^ Flt.K74) ∧ (Flt.sv (neg64 l) < 0 ↔ Flt.val x * 2 ^ Flt.K74 < Flt.val r * Flt.val r) := by
 have hxr := pos_word hx hp
 have hxi : x < Flt.inf := by have := hp.1; unfold Flt.Fin at this; rw [hxr] at this; exact this
 have hx0 : 0 < Flt.val x := val_pos (by have := hp.2.2; rw [hxr] at this; exact this)
 have hK := Flt.K74_eq
 obtain ⟨E, hE⟩ : ∃ E : Nat, E = 2045 := ⟨_, rfl⟩
 have hinf : Flt.val Flt.inf = 2 ^ (52 + E + 1) := by
  have := val_pow (E + 1)
  rw [show (E + 1 + 1) * 2 ^ 52 = Flt.inf by rw [Flt.inf_eq]; omega] at this
  rw [this]; congr 1
 obtain ⟨E4, hE4⟩ : ∃ E : Nat, E = 1422 := ⟨_, rfl⟩
 obtain ⟨E2, hE2⟩ : ∃ E : Nat, E = 1222 := ⟨_, rfl⟩
 have il := Flt.inf_eq
 have hb4 : Flt.val x * 2 ^ a4 < Flt.val Flt.inf := by
  rw [hinf]
  have h1 : Flt.val x * 2 ^ a4 < 2 ^ a474 * 2 ^ a4 := Nat.mul_lt_mul_of_pos_right hs (Nat.two_pow_pos _)
  rw [← Nat.pow_add] at h1
  have h2 : 2 ^ (a474 + a4) ≤ 2 ^ (52 + E + 1) := Nat.pow_le_pow_right (by decide) (by omega)
  omega
 obtain ⟨x4, x4i, x4m, x4v⟩ := scaled_up (r := x) (c := 6408622269748215808) (k := a4) (E := E4) hxi (by omega) (by omega) (by omega) hb4
 -- the root is less than 2^800
 have hrb : Flt.val r < 2 ^ a800 := by
  rcases Nat.lt_or_ge (Flt.val r) (2 ^ a800) with h | h
  ·exact h
  ·exfalso
   have h0 : 0 < r := by
    rcases Nat.eq_zero_or_pos r with h' | h'
    ·rw [h', Flt.val_zero] at h; have := Nat.two_pow_pos a800; omega
    ·exact h'
   have h3 := (hn.2.2 h0).1
   rw [Nat.mul_one] at h3
   have h4 : 2 ^ a800 ≤ Flt.mid (r - 1) := by rw [Flt.mid_pred h0]; omega
   have h5 : 2 ^ a800 * 2 ^ a800 ≤ Flt.mid (r - 1) * Flt.mid (r - 1) := Nat.mul_le_mul h4 h4
   have h6 : Flt.val x * 2 ^ Flt.K74 < 2 ^ a474 * 2 ^ Flt.K74 := Nat.mul_lt_mul_of_pos_right hs (Nat.two_pow_pos _)
   rw [← Nat.pow_add] at h5 h6
   have h7 : 4 * 2 ^ (a474 + Flt.K74) ≤ 2 ^ (a800 + a800) := by
    rw [show (4 : Nat) = 2 ^ 2 by decide, ← Nat.pow_add]
    exact Nat.pow_le_pow_right (by decide) (by omega)
   omega
 have hb2 : Flt.val r * 2 ^ a2 < Flt.val Flt.inf := by
  rw [hinf]
  have h1 : Flt.val r * 2 ^ a2 < 2 ^ a800 * 2 ^ a2 := Nat.mul_lt_mul_of_pos_right hrb (Nat.two_pow_pos _)
  rw [← Nat.pow_add] at h1
  have h2 : 2 ^ (a800 + a2) ≤ 2 ^ (52 + E + 1) := Nat.pow_le_pow_right (by decide) (by omega)
  omega
 obtain ⟨r2, r2i, r2m, r2v⟩ := scaled_up (r := r) (c := 5507902344274116608) (k := a2) (E := E2) hr (by omega) (by omega) (by omega) hb2
 have hrl : 2 ^ a500 ≤ Flt.val r := by
  have h1 : 2 ^ (a500 + 1 + (a500 + 1)) ≤ Flt.val x * 2 ^ Flt.K74 := by
   have h2 : 1 * 2 ^ Flt.K74 ≤ Flt.val x * 2 ^ Flt.K74 := Nat.mul_le_mul_right _ hx0
   have h3 : 2 ^ (a500 + 1 + (a500 + 1)) ≤ 2 ^ Flt.K74 := Nat.pow_le_pow_right (by decide) (by omega)
   omega
  have := root_low hn hr h1 (by omega)
  exact this
 have hlow : 2 ^ L ≤ Flt.val r2 := by
  rw [r2v]
  have h1 : 2 ^ a500 * 2 ^ a2 ≤ Flt.val r * 2 ^ a2 := Nat.mul_le_mul_right _ hrl
  rw [← Nat.pow_add] at h1
  have h2 : 2 ^ L ≤ 2 ^ (a500 + a2) := Nat.pow_le_pow_right (by decide) (by omega)
  omega
 obtain ⟨g1, g2, g3⟩ := rg_small x4i
 have hp4 : Pos x4 := ⟨g3, g2, by rw [g1]; rintro rfl; rw [Flt.val_zero] at x4v; have := Nat.mul_pos hx0 (Nat.two_pow_pos a4); omega⟩
 obtain ⟨l, l1, l2, l3, l4⟩ := root_loss (x := x4) (r := r2) (by omega) hp4 r2i hKL hlow
 have e1 : Flt.val r2 * Flt.val r2 = Flt.val r * Flt.val r * 2 ^ a4 := by rw [r2v, Nat.mul_mul_mul_comm, ← Nat.pow_add, show a2 + a2 = a4 by omega]
 have e2 : Flt.val x4 * 2 ^ Flt.K74 = Flt.val x * 2 ^ Flt.K74 * 2 ^ a4 := by rw [x4v, Nat.mul_right_comm]
 rw [e1, e2] at l3 l4
 refine ⟨x4, r2, l, x4m, r2m, l1, l2, l3.trans ?_, l4.trans ?_⟩
 ·exact Nat.mul_lt_mul_right (Nat.two_pow_pos a4)
 ·exact Nat.mul_lt_mul_right (Nat.two_pow_pos a4)
theorem root_ret {x r : Nat} {k : Int} (hx : x < 2 ^ 64) (hp : Pos x) (hr : r < Flt.inf) (hn : Flt.NearSq (Flt.val x * 2 ^ Flt.K74) 1 r) (h1 : 0 < k ↔ Flt.val r * Flt.val r < Flt.val x * 2 ^ Flt.K74) (h2 : k < 0 ↔ Flt.val x * 2 ^ Flt.K74 < Flt.val r * Flt.val r) :
  IsRoot x (atd r k).1 (atd r k).2 := by
 refine ⟨fun h => absurd hp h, fun _ => ?_⟩
 rw [pos_word hx hp]
 exact root_at hr hn h1 h2
set_option maxRecDepth 100000 in
set_option maxHeartbeats 1600000 in
theorem rnd_sqrt_any (x : Nat) (hx : x < 2 ^ 64) (w : World) : Calls Tryz.prog 312 #[.float .f64 x] w (RetPair w (IsRoot x)) := by
 cases hf : Flt.finB x with
 | false =>
  have hc : Hid (¬ Pos x) := Lib.hid (fun h => absurd h.1 (Flt.finB_false.1 hf))
  have HF := Lib.hid hf
  clear hf
  go_enter Tryz.func312, Tryz.ntmps312
  go_wp2_with (go_at_call 325; refine (sqrt_any x _).mono ?_; rintro e w' ⟨z, d, rfl, hz, rfl⟩; have HZ := Lib.hid hz; clear hz)
  refine (rnd_finite_one w.heap.size x _ hx (cell_new1 (w.drewN d) _ _)).mono ?_
  rintro e1 w1 ⟨rfl, rfl⟩
  rw [HF.out]
  go_wp2_with fail
  go_ret2
  exact ⟨z, z, rfl, ⟨fun _ => ⟨z, HZ.out, rfl, rfl⟩, fun h => absurd h hc.out⟩, (below_drewN (Below.refl _ _) d).alloc (Nat.le_refl _) _⟩
 | true =>
  have hfx := Flt.finB_iff.1 hf
  have HF := Lib.hid hf
  obtain ⟨c1, c2⟩ := leq_zero hfx
  clear hf
  by_cases hp : Pos x
  ·have hsv := (pos_sv.2 hp).2
   rw [decide_eq_false (by omega)] at c1 c2
   obtain ⟨r, hsq, hn⟩ := Flt.sqrt_fin hfx hp.2.1
   have hxr := pos_word hx hp
   rw [hxr] at hn
   have hxi : x < Flt.inf := by have := hp.1; unfold Flt.Fin at this; rw [hxr] at this; exact this
   have hr := root_fin hxi hn
   have HQ : Hid (∀ z, IsSq x z → z = r) := Lib.hid (fun z h => by have := h.2; rw [hsq] at this; exact this)
   have hc3 : (Ieee.double.order x 1905022642377719808 == some .lt) = decide (Flt.val x < Flt.val 1905022642377719808) := by
    rw [Flt.lt_spec (by unfold Flt.Nan; rw [hxr]; omega) (by unfold Flt.Nan Flt.rg; rw [Flt.inf_eq]; omega), sv_small hxi, sv_small (by rw [Flt.inf_eq]; omega), decide_eq_decide]
    omega
   have hr64 : r < 2 ^ 64 := by have := Flt.inf_lt; omega
   by_cases hs : Flt.val x < Flt.val 1905022642377719808
   ·rw [decide_eq_true hs] at hc3
    obtain ⟨a474, h474⟩ : ∃ a : Nat, a = 474 := ⟨_, rfl⟩
    obtain ⟨E, hE⟩ : ∃ E : Nat, E = 422 := ⟨_, rfl⟩
    have hv := val_pow E
    rw [show (E + 1) * 2 ^ 52 = 1905022642377719808 by omega, show 52 + E = a474 by omega] at hv
    rw [hv] at hs
    obtain ⟨x4, r2, l, m1, m2, hl, h1, h2, h3⟩ := root_loss_small (K := 1074) (L := 590) (a4 := 400) (a2 := 200) (a474 := a474) (a800 := 800) (a500 := 500) hx hp hn hr ⟨rfl, rfl⟩ ⟨rfl, rfl, h474, rfl, rfl⟩ hs
    have HR : Hid (IsRoot x (atd r (Flt.sv (neg64 l))).1 (atd r (Flt.sv (neg64 l))).2) := Lib.hid (root_ret hx hp hr hn h2 h3)
    have hrun := @fma_run _ _ _ _ hl
    have HM1 := Lib.hid m1
    have HM2 := Lib.hid m2
    have HNL := Lib.hid h1
    clear hsv hsq hn hxr hxi hr hs hv h474 hE m1 m2 hl h1 h2 h3 hp hfx
    go_enter Tryz.func312, Tryz.ntmps312
    go_wp2_with (go_at_call 325; refine (sqrt_any x _).mono ?_; rintro e w' ⟨z, d, rfl, hz, rfl⟩; have hzr : z = r := (HQ.out z hz); subst hzr; clear hz)
    refine (rnd_finite_one w.heap.size x _ hx (cell_new1 (w.drewN d) _ _)).mono ?_
    rintro e1 w1 ⟨rfl, rfl⟩
    rw [HF.out]
    have hbw : Below w.heap.size w ((w.drewN d).alloc (.cells #[.float .f64 x] 129)) := (below_drewN (Below.refl _ _) d).alloc (Nat.le_refl _) _
    generalize (w.drewN d).alloc (.cells #[.float .f64 x] 129) = w2 at hbw ⊢
    have hk1 : Hid (∀ t, IsOp Ieee.double.mul x 6408622269748215808 t → t = x4) := Lib.hid (fun t h => by have := h.2; rw [HM1.out] at this; exact this)
    have hk2 : Hid (∀ t, IsOp Ieee.double.mul z 5507902344274116608 t → t = r2) := Lib.hid (fun t h => by have := h.2; rw [HM2.out] at this; exact this)
    clear HM1 HM2
    go_wp2_with (first | (refine wpList_fmul _ rfl rfl ?_; intro t1 d1 hs1; have e1 := hk1.out _ hs1; subst e1; clear hs1 hk1) | (refine wpList_fmul _ rfl rfl ?_; intro t2 d2 hs2; have e2 := hk2.out _ hs2; subst e2; clear hs2 hk2) | (go_at_call 354; refine (rnd_at_any _ _ hr64 HNL.out _).mono ?_; rintro e5 w5 ⟨rfl, rfl⟩))
    go_ret2
    exact ⟨_, _, rfl, HR.out, by first | exact below_drewN hbw _ | exact below_drewN (below_drewN hbw _) _⟩
   ·rw [decide_eq_false hs] at hc3
    obtain ⟨a474, h474⟩ : ∃ a : Nat, a = 474 := ⟨_, rfl⟩
    obtain ⟨E, hE⟩ : ∃ E : Nat, E = 422 := ⟨_, rfl⟩
    have hv := val_pow E
    rw [show (E + 1) * 2 ^ 52 = 1905022642377719808 by omega, show 52 + E = a474 by omega] at hv
    rw [hv] at hs
    obtain ⟨L, hL⟩ : ∃ L : Nat, L = 590 := ⟨_, rfl⟩
    have hlow : 2 ^ L ≤ Flt.val r := by
     have hK := Flt.K74_eq
     have h1 : 2 ^ (L + 1 + (L + 1)) ≤ Flt.val x * 2 ^ Flt.K74 := by
      have h2 : 2 ^ a474 * 2 ^ Flt.K74 ≤ Flt.val x * 2 ^ Flt.K74 := Nat.mul_le_mul_right _ (by omega)
      rw [← Nat.pow_add] at h2
      have h3 : 2 ^ (L + 1 + (L + 1)) ≤ 2 ^ (a474 + Flt.K74) := Nat.pow_le_pow_right (by decide) (by omega)
      omega
     exact root_low hn hr h1 (by omega)
    obtain ⟨l, hl, h1, h2, h3⟩ := root_loss (K := 1074) (L := L) hx hp hr ⟨rfl, hL⟩ hlow
    have HR : Hid (IsRoot x (atd r (Flt.sv (neg64 l))).1 (atd r (Flt.sv (neg64 l))).2) := Lib.hid (root_ret hx hp hr hn h2 h3)
    have hrun := @fma_run _ _ _ _ hl
    have HNL := Lib.hid h1
    clear hsv hsq hn hxr hxi hr hs hv h474 hE hl h1 h2 h3 hp hfx hlow hL
    go_enter Tryz.func312, Tryz.ntmps312
    go_wp2_with (go_at_call 325; refine (sqrt_any x _).mono ?_; rintro e w' ⟨z, d, rfl, hz, rfl⟩; have hzr : z = r := (HQ.out z hz); subst hzr; clear hz)
    refine (rnd_finite_one w.heap.size x _ hx (cell_new1 (w.drewN d) _ _)).mono ?_
    rintro e1 w1 ⟨rfl, rfl⟩
    rw [HF.out]
    have hbw : Below w.heap.size w ((w.drewN d).alloc (.cells #[.float .f64 x] 129)) := (below_drewN (Below.refl _ _) d).alloc (Nat.le_refl _) _
    generalize (w.drewN d).alloc (.cells #[.float .f64 x] 129) = w2 at hbw ⊢
    go_wp2_with (go_at_call 354; refine (rnd_at_any _ _ hr64 HNL.out _).mono ?_; rintro e5 w5 ⟨rfl, rfl⟩)
    go_ret2
    exact ⟨_, _, rfl, HR.out, hbw⟩
  ·have hc := Lib.hid hp
   have hsv : ¬ 0 < Flt.sv x := fun h => hp (pos_sv.1 ⟨hfx, h⟩)
   by_cases h0 : Flt.sv x < 0
   ·rw [decide_eq_true h0] at c1
    clear c2 hp hsv h0 hfx
    go_enter Tryz.func312, Tryz.ntmps312
    go_wp2_with (go_at_call 325; refine (sqrt_any x _).mono ?_; rintro e w' ⟨z, d, rfl, hz, rfl⟩; have HZ := Lib.hid hz; clear hz)
    refine (rnd_finite_one w.heap.size x _ hx (cell_new1 (w.drewN d) _ _)).mono ?_
    rintro e1 w1 ⟨rfl, rfl⟩
    rw [HF.out]
    go_wp2_with fail
    go_ret2
    exact ⟨z, z, rfl, ⟨fun _ => ⟨z, HZ.out, rfl, rfl⟩, fun h => absurd h hc.out⟩, (below_drewN (Below.refl _ _) d).alloc (Nat.le_refl _) _⟩
   ·rw [decide_eq_false h0] at c1
    rw [decide_eq_true (by omega)] at c2
    clear hp hsv h0 hfx
    go_enter Tryz.func312, Tryz.ntmps312
    go_wp2_with (go_at_call 325; refine (sqrt_any x _).mono ?_; rintro e w' ⟨z, d, rfl, hz, rfl⟩; have HZ := Lib.hid hz; clear hz)
    refine (rnd_finite_one w.heap.size x _ hx (cell_new1 (w.drewN d) _ _)).mono ?_
    rintro e1 w1 ⟨rfl, rfl⟩
    rw [HF.out]
    go_wp2_with fail
    go_ret2
    exact ⟨z, z, rfl, ⟨fun _ => ⟨z, HZ.out, rfl, rfl⟩, fun h => absurd h hc.out⟩, (below_drewN (Below.refl _ _) d).alloc (Nat.le_refl _) _⟩
end Go.Proofs.YtgekmbfmfiikkaaGreatDoor
