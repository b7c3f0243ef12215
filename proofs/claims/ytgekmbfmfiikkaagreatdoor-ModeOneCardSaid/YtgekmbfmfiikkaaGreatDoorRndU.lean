/-
  Floats rounded down and up (round): Two, Next, Add, Sub.
-/
import Derived.Test.YtgekmbfmfiikkaaGreatDoorRefW
set_option maxHeartbeats 3200000
/-! Floats beside an exact value: the pair that is told of a fraction, and the pair that a nearest float and what it has lost give. -/
namespace Go.Proofs.YtgekmbfmfiikkaaGreatDoor
open Go.RowKit
def Brk (s : Bool) (num den d u : Nat) : Prop :=
 ∃ r, Flt.Dn num den r ∧ d = (if s then 2 ^ 63 + hiR num den r else r) ∧ u = (if s then 2 ^ 63 + r else hiR num den r)
theorem Brk.unique {s : Bool} {num den d u d' u' : Nat} (h : Brk s num den d u) (k : Brk s num den d' u') : d = d' ∧ u = u' := by
 obtain ⟨r, h1, rfl, rfl⟩ := h
 obtain ⟨r', k1, rfl, rfl⟩ := k
 have := h1.unique k1
 subst this
 exact ⟨rfl, rfl⟩
def nxt (x : Nat) (up : Bool) : Nat :=
 if Flt.nanB x then x else if Flt.rg x = 0 then (if up then 1 else 2 ^ 63 + 1) else if Flt.infB x && (Flt.sgn x != up) then x else if (!Flt.sgn x) == up then x + 1 else x - 1
def atd (own : Nat) (k : Int) : Nat × Nat := if 0 < k then (own, nxt own true) else if k < 0 then (nxt own false, own) else (own, own)
theorem nxt_pos_up {r : Nat} (h : r < Flt.inf) : nxt (Flt.word false r) true = r + 1 := by
 have hl : r < 2 ^ 63 := by have := Flt.inf_lt; omega
 have h1 : Flt.rg r = r := by unfold Flt.rg; omega
 have h2 : Flt.sgn r = false := by unfold Flt.sgn; rw [show r / 2 ^ 63 = 0 by omega]; rfl
 have h3 : Flt.nanB r = false := by unfold Flt.nanB; rw [h1]; exact decide_eq_false (by omega)
 have h4 : Flt.infB r = false := by unfold Flt.infB; rw [h1]; exact decide_eq_false (by omega)
 unfold nxt
 rw [show Flt.word false r = r from rfl, h1, h2, h3, h4]
 by_cases h0 : r = 0
 ·subst h0; rfl
 ·simp [h0]
theorem nxt_pos_down {r : Nat} (h0 : 0 < r) (h : r < Flt.inf) : nxt (Flt.word false r) false = r - 1 := by
 have hl : r < 2 ^ 63 := by have := Flt.inf_lt; omega
 have h1 : Flt.rg r = r := by unfold Flt.rg; omega
 have h2 : Flt.sgn r = false := by unfold Flt.sgn; rw [show r / 2 ^ 63 = 0 by omega]; rfl
 have h3 : Flt.nanB r = false := by unfold Flt.nanB; rw [h1]; exact decide_eq_false (by omega)
 have h4 : Flt.infB r = false := by unfold Flt.infB; rw [h1]; exact decide_eq_false (by omega)
 unfold nxt
 rw [show Flt.word false r = r from rfl, h1, h2, h3, h4]
 simp [Nat.ne_of_gt h0]
theorem nxt_neg_down {r : Nat} (h : r < Flt.inf) : nxt (Flt.word true r) false = 2 ^ 63 + (r + 1) := by
 have hl : r < 2 ^ 63 := by have := Flt.inf_lt; omega
 have h1 : Flt.rg (Flt.word true r) = r := Flt.rg_word _ _ hl
 have h2 : Flt.sgn (Flt.word true r) = true := Flt.sgn_word _ _ hl
 have h3 : Flt.nanB (Flt.word true r) = false := by unfold Flt.nanB; rw [h1]; exact decide_eq_false (by omega)
 have h4 : Flt.infB (Flt.word true r) = false := by unfold Flt.infB; rw [h1]; exact decide_eq_false (by omega)
 unfold nxt
 rw [h1, h2, h3, h4]
 by_cases h0 : r = 0
 ·subst h0; rfl
 ·simp [h0, Flt.word, Nat.add_assoc]
theorem nxt_neg_up {r : Nat} (h0 : 0 < r) (h : r < Flt.inf) : nxt (Flt.word true r) true = 2 ^ 63 + (r - 1) := by
 have hl : r < 2 ^ 63 := by have := Flt.inf_lt; omega
 have h1 : Flt.rg (Flt.word true r) = r := Flt.rg_word _ _ hl
 have h2 : Flt.sgn (Flt.word true r) = true := Flt.sgn_word _ _ hl
 have h3 : Flt.nanB (Flt.word true r) = false := by unfold Flt.nanB; rw [h1]; exact decide_eq_false (by omega)
 have h4 : Flt.infB (Flt.word true r) = false := by unfold Flt.infB; rw [h1]; exact decide_eq_false (by omega)
 unfold nxt
 rw [h1, h2, h3, h4]
 have : r ≠ 0 := by omega
 simp [this, Flt.word]
 omega
theorem near_dn {num den r : Nat} (hd : 0 < den) (hn : Flt.Near num den r) (hr : r < Flt.inf) (h : Flt.val r * den ≤ num) : Flt.Dn num den r := by
 refine ⟨hr, h, fun _ => ?_⟩
 have h2 := (hn.2.1 hr).1
 have h3 := Nat.mul_lt_mul_of_pos_right (Flt.val_lt (show r < r + 1 by omega)) hd
 rw [Nat.add_mul] at h2
 omega
theorem near_up {num den r : Nat} (hd : 0 < den) (hn : Flt.Near num den r) (h0 : 0 < r) (h : num < Flt.val r * den) : Flt.Dn num den (r - 1) ∧ Flt.val (r - 1) * den < num := by
 have h2 := (hn.2.2 h0).1
 have h3 := Nat.mul_lt_mul_of_pos_right (Flt.val_lt (show r - 1 < r by omega)) hd
 rw [Nat.add_mul] at h2
 have h4 : Flt.val (r - 1) * den < num := by omega
 refine ⟨⟨by have := hn.1; omega, by omega, fun _ => by rw [show r - 1 + 1 = r by omega]; exact h⟩, h4⟩
theorem near_inf {num den : Nat} (hd : 0 < den) (hn : Flt.Near num den Flt.inf) : Flt.Dn num den (Flt.inf - 1) ∧ Flt.val (Flt.inf - 1) * den < num := by
 have hi : 0 < Flt.inf := by rw [Flt.inf_eq]; omega
 have h2 := (hn.2.2 hi).1
 have h3 := Nat.mul_lt_mul_of_pos_right (Flt.val_lt (show Flt.inf - 1 < Flt.inf by omega)) hd
 rw [Nat.add_mul] at h2
 have h4 : Flt.val (Flt.inf - 1) * den < num := by omega
 exact ⟨⟨by omega, by omega, fun h => absurd h (by omega)⟩, h4⟩
theorem at_brk {Z k : Int} {den r own : Nat} (hd : 0 < den) (_hZ : Z ≠ 0) (hn : Flt.Near Z.natAbs den r) (hr : r < Flt.inf) (ho : own = Flt.word (decide (Z < 0)) r)
  (h1 : 0 < k ↔ Flt.sv own * (den : Int) < Z) (h2 : k < 0 ↔ Z < Flt.sv own * (den : Int)) : Brk (decide (Z < 0)) Z.natAbs den (atd own k).1 (atd own k).2 := by
 have hl : r < 2 ^ 63 := by have := Flt.inf_lt; omega
 have hv : ((Flt.val r * den : Nat) : Int) = (Flt.val r : Int) * den := Int.natCast_mul _ _
 have hr0 : ¬ (r = 0 ∧ Z.natAbs < Flt.val r * den) := by rintro ⟨rfl, h⟩; rw [Flt.val_zero, Nat.zero_mul] at h; omega
 by_cases hz : Z < 0
 ·rw [decide_eq_true hz] at ho ⊢
  have hs : Flt.sv own = -(Flt.val r : Int) := by rw [ho, Flt.sv_word hl]; rfl
  rw [hs, Int.neg_mul, ← hv] at h1 h2
  generalize hm : Flt.val r * den = m at *
  unfold atd
  rcases Int.lt_trichotomy k 0 with hk | hk | hk
  ·have hlt : m < Z.natAbs := by have := h2.1 hk; omega
   rw [if_neg (by omega), if_pos hk, ho, nxt_neg_down hr]
   have hh : hiR Z.natAbs den r = r + 1 := by unfold hiR; rw [hm, if_neg (by omega)]
   exact ⟨r, near_dn hd hn hr (by omega), by rw [hh]; rfl, rfl⟩
  ·have heq : m = Z.natAbs := by
    have a : ¬ (-(m : Int) < Z) := fun h => by have := h1.2 h; omega
    have b : ¬ (Z < -(m : Int)) := fun h => by have := h2.2 h; omega
    omega
   rw [if_neg (by omega), if_neg (by omega), ho]
   have hh : hiR Z.natAbs den r = r := by unfold hiR; rw [hm, if_pos heq]
   exact ⟨r, near_dn hd hn hr (by omega), by rw [hh]; rfl, rfl⟩
  ·have hlt : Z.natAbs < m := by have := h1.1 hk; omega
   have h0 : 0 < r := by
    rcases Nat.eq_zero_or_pos r with h | h
    ·exact absurd ⟨h, hlt⟩ hr0
    ·exact h
   rw [if_pos hk, ho, nxt_neg_up h0 hr]
   obtain ⟨a, b⟩ := near_up hd hn h0 (by rw [hm]; exact hlt)
   have hh : hiR Z.natAbs den (r - 1) = r := by unfold hiR; rw [if_neg (by omega)]; omega
   exact ⟨r - 1, a, by rw [hh]; rfl, rfl⟩
 ·rw [decide_eq_false hz] at ho ⊢
  have hs : Flt.sv own = (Flt.val r : Int) := by rw [ho, Flt.sv_word hl]; rfl
  rw [hs, ← hv] at h1 h2
  generalize hm : Flt.val r * den = m at *
  unfold atd
  rcases Int.lt_trichotomy k 0 with hk | hk | hk
  ·have hlt : Z.natAbs < m := by have := h2.1 hk; omega
   have h0 : 0 < r := by
    rcases Nat.eq_zero_or_pos r with h | h
    ·exact absurd ⟨h, hlt⟩ hr0
    ·exact h
   rw [if_neg (by omega), if_pos hk, ho, nxt_pos_down h0 hr]
   obtain ⟨a, b⟩ := near_up hd hn h0 (by rw [hm]; exact hlt)
   have hh : hiR Z.natAbs den (r - 1) = r := by unfold hiR; rw [if_neg (by omega)]; omega
   exact ⟨r - 1, a, rfl, by rw [hh]; rfl⟩
  ·have heq : m = Z.natAbs := by
    have a : ¬ ((m : Int) < Z) := fun h => by have := h1.2 h; omega
    have b : ¬ (Z < (m : Int)) := fun h => by have := h2.2 h; omega
    omega
   rw [if_neg (by omega), if_neg (by omega), ho]
   have hh : hiR Z.natAbs den r = r := by unfold hiR; rw [hm, if_pos heq]
   exact ⟨r, near_dn hd hn hr (by omega), rfl, by rw [hh]; rfl⟩
  ·have hlt : m < Z.natAbs := by have := h1.1 hk; omega
   rw [if_pos hk, ho, nxt_pos_up hr]
   have hh : hiR Z.natAbs den r = r + 1 := by unfold hiR; rw [hm, if_neg (by omega)]
   exact ⟨r, near_dn hd hn hr (by omega), rfl, by rw [hh]; rfl⟩
def bey (own : Nat) : Nat × Nat := if Flt.sgn own then (own, 2 ^ 63 + (Flt.inf - 1)) else (Flt.inf - 1, own)
theorem bey_brk {Z : Int} {den own : Nat} (hd : 0 < den) (hn : Flt.Near Z.natAbs den Flt.inf) (ho : own = Flt.word (decide (Z < 0)) Flt.inf) : Brk (decide (Z < 0)) Z.natAbs den (bey own).1 (bey own).2 := by
 obtain ⟨a, b⟩ := near_inf hd hn
 have hi : Flt.inf - 1 + 1 = Flt.inf := by rw [Flt.inf_eq]
 have hh : hiR Z.natAbs den (Flt.inf - 1) = Flt.inf := by unfold hiR; rw [if_neg (by omega), hi]
 have hs : Flt.sgn own = decide (Z < 0) := by rw [ho]; exact Flt.sgn_word _ _ Flt.inf_lt
 unfold bey
 rw [hs]
 refine ⟨Flt.inf - 1, a, ?_, ?_⟩
 ·rw [hh, ho]; by_cases h : Z < 0 <;> simp [h, Flt.word]
 ·rw [hh, ho]; by_cases h : Z < 0 <;> simp [h, Flt.word]
end Go.Proofs.YtgekmbfmfiikkaaGreatDoor
/-! What is told of a sum. -/
namespace Go.Proofs.YtgekmbfmfiikkaaGreatDoor
open Go.RowKit
def IsSum (x y d u : Nat) : Prop :=
 ∃ s, Flt.IsAdd x y s ∧ ((¬ (Flt.Fin x ∧ Flt.Fin y) ∨ Flt.sv x + Flt.sv y = 0) → d = s ∧ u = s) ∧
  (Flt.Fin x → Flt.Fin y → Flt.sv x + Flt.sv y ≠ 0 → Brk (decide (Flt.sv x + Flt.sv y < 0)) (Flt.sv x + Flt.sv y).natAbs 1 d u)
theorem sum_own {x y s : Nat} (h : Flt.IsAdd x y s) (hc : ¬ (Flt.Fin x ∧ Flt.Fin y)) : IsSum x y s s :=
 ⟨s, h, fun _ => ⟨rfl, rfl⟩, fun a b _ => absurd ⟨a, b⟩ hc⟩
theorem isAdd_near {x y s : Nat} (h : Flt.IsAdd x y s) (hx : Flt.Fin x) (hy : Flt.Fin y) (hz : Flt.sv x + Flt.sv y ≠ 0) : ∃ r, s = Flt.word (decide (Flt.sv x + Flt.sv y < 0)) r ∧ Flt.Near (Flt.sv x + Flt.sv y).natAbs 1 r := by
 obtain ⟨z, hz', r, hw, hn⟩ := Flt.add_fin hx hy
 have hs : s = z := by have := h.2; rw [hz'] at this; exact this
 rw [if_neg hz] at hw
 exact ⟨r, hs.trans hw, hn⟩
theorem sum_bey {x y s : Nat} (h : Flt.IsAdd x y s) (hx : Flt.Fin x) (hy : Flt.Fin y) (hs : ¬ Flt.Fin s) : IsSum x y (bey s).1 (bey s).2 := by
 have hz : Flt.sv x + Flt.sv y ≠ 0 := by
  intro e
  obtain ⟨z, hz', r, hw, hn⟩ := Flt.add_fin hx hy
  have hs' : s = z := by have := h.2; rw [hz'] at this; exact this
  have hr : r = 0 := Flt.near_eq hn (by omega) (by rw [e]; exact Flt.val_zero)
  apply hs
  unfold Flt.Fin
  rw [hs', hw, Flt.rg_word _ _ (Flt.near_lt hn), hr, Flt.inf_eq]
  omega
 obtain ⟨r, hw, hn⟩ := isAdd_near h hx hy hz
 have hr : r = Flt.inf := by
  have h1 : ¬ r < Flt.inf := fun hlt => hs (by unfold Flt.Fin; rw [hw, Flt.rg_word _ _ (Flt.near_lt hn)]; exact hlt)
  have := hn.1
  omega
 subst hr
 exact ⟨s, h, fun hc => by rcases hc with hc | hc; exact absurd ⟨hx, hy⟩ hc; exact absurd hc hz, fun _ _ _ => bey_brk (by decide) hn hw⟩
theorem sum_at {x y s l : Nat} (h : Flt.IsTwo x y s l) (hs : Flt.Fin s) : IsSum x y (atd s (Flt.sv l)).1 (atd s (Flt.sv l)).2 := by
 obtain ⟨hA, _, h2, _⟩ := h
 obtain ⟨_, hl, _⟩ := h2 hs
 have hsum : Ieee.double.add x y = some s := by
  have := hA.2
  cases e : Ieee.double.add x y with
  | some t => rw [e] at this; exact congrArg some this.symm
  | none => rw [e] at this; exact absurd hs (Flt.not_fin_nan this)
 obtain ⟨fx, fy⟩ := Flt.add_some_fin hsum hs
 by_cases hz : Flt.sv x + Flt.sv y = 0
 ·have hss : Flt.sv s = 0 := by
   obtain ⟨z, hz', r, hw, hn⟩ := Flt.add_fin fx fy
   rw [hsum] at hz'
   injection hz' with hz'
   have hr : r = 0 := Flt.near_eq hn (by omega) (by rw [hz]; exact Flt.val_zero)
   rw [hz', hw, hr, Flt.sv_word (by decide), Flt.val_zero]; simp
  have : atd s (Flt.sv l) = (s, s) := by unfold atd; rw [if_neg (by omega), if_neg (by omega)]
  rw [this]
  exact ⟨s, hA, fun _ => ⟨rfl, rfl⟩, fun _ _ k => absurd hz k⟩
 ·obtain ⟨r, hw, hn⟩ := isAdd_near hA fx fy hz
  have hr : r < Flt.inf := by have := hs; unfold Flt.Fin at this; rw [hw, Flt.rg_word _ _ (Flt.near_lt hn)] at this; exact this
  refine ⟨s, hA, fun hc => by rcases hc with hc | hc; exact absurd ⟨fx, fy⟩ hc; exact absurd hc hz, fun _ _ _ => ?_⟩
  exact at_brk (by decide) hz hn hr hw (by rw [hl, Int.natCast_one, Int.mul_one]; omega) (by rw [hl, Int.natCast_one, Int.mul_one]; omega)
end Go.Proofs.YtgekmbfmfiikkaaGreatDoor
/-! Floats, rounded down and up (round): finite; the sum and what it has lost. -/
namespace Go.Proofs.YtgekmbfmfiikkaaGreatDoor
open Go.RowKit
theorem rnd_finite_row (g n : Nat) (l : List Nat) (w : World) (hl : l.length = n) (hn : n ≤ 1000) (hc : ∀ k (h : k < l.length), w.cell? ⟨g, k, none⟩ = some (.float .f64 l[k]) ∧ l[k] < 2 ^ 64) :
  Calls Tryz.prog 353 #[.slice (some ⟨g, 0, none⟩) n n] w fun e w' => e = .returned (.bool (l.all Flt.finB)) ∧ w = w' := by
 have HC := Lib.hid hc
 have HL := Lib.hid hl
 clear hc hl
 go_enter Tryz.func353, Tryz.ntmps353
 go_wp2
 go_loop [4, 7] (fun v i => ∃ k : Nat, k ≤ n ∧ i = .int .i64 k ∧ Hid ((l.take k).all Flt.finB = true)) (fun _ i => n - (intOf i).toNat)
 case atStart => exact ⟨0, by omega, rfl, by rw [List.take_zero]; exact rfl⟩
 case round =>
  obtain ⟨k, hk, rfl, hrel⟩ := hrel
  by_cases h0 : k < n
  ·have hkl : k < l.length := by have := HL.out; omega
   obtain ⟨hx, hx64⟩ := HC.out k hkl
   have hd : ((k : Int) < (n : Int)) := by omega
   have htk : l.take (k + 1) = l.take k ++ [l[k]] := List.take_succ_eq_append_getElem hkl
   have HTK := Lib.hid htk
   clear htk
   cases h1 : Flt.nanB l[k] with
   | true =>
    have hfin : Hid (l.all Flt.finB = false) := by
     have : Flt.finB l[k] = false := by rw [Flt.finB_eq, h1]; rfl
     refine Lib.hid (List.all_eq_false.2 ⟨l[k], List.getElem_mem hkl, by rw [this]; decide⟩)
    go_wp2_with (first | (go_at_call 321; refine (isNaN_any _ _).mono ?_; rintro e w' ⟨rfl, rfl⟩; rw [h1]) | (go_at_call 319; refine (isInf0_any _ hx64 _).mono ?_; rintro e w' ⟨rfl, rfl⟩))
    go_ret
    exact ⟨by rw [hfin.out]; rfl, rfl⟩
   | false =>
    cases h2 : Flt.infB l[k] with
    | true =>
     have hfin : Hid (l.all Flt.finB = false) := by
      have : Flt.finB l[k] = false := by rw [Flt.finB_eq, h1, h2]; rfl
      refine Lib.hid (List.all_eq_false.2 ⟨l[k], List.getElem_mem hkl, by rw [this]; decide⟩)
     go_wp2_with (first | (go_at_call 321; refine (isNaN_any _ _).mono ?_; rintro e w' ⟨rfl, rfl⟩; rw [h1]) | (go_at_call 319; refine (isInf0_any _ hx64 _).mono ?_; rintro e w' ⟨rfl, rfl⟩; rw [h2]))
     go_ret
     exact ⟨by rw [hfin.out]; rfl, rfl⟩
    | false =>
     have hfin : Flt.finB l[k] = true := by rw [Flt.finB_eq, h1, h2]; rfl
     have HF := Lib.hid hfin
     clear hfin
     go_wp2_with (first | (go_at_call 321; refine (isNaN_any _ _).mono ?_; rintro e w' ⟨rfl, rfl⟩; rw [h1]) | (go_at_call 319; refine (isInf0_any _ hx64 _).mono ?_; rintro e w' ⟨rfl, rfl⟩; rw [h2]))
     refine ⟨⟨k + 1, by omega, by simp, ?_⟩, by simp [intOf]; omega⟩
     rw [HTK.out, List.all_append, hrel.out]
     exact Lib.hid (by simp [HF.out])
  ·obtain rfl : k = n := by omega
   have hd : ¬ ((k : Int) < (k : Int)) := by omega
   have hfin : Hid (l.all Flt.finB = true) := by
    rw [← HL.out, List.take_length] at hrel; exact hrel
   go_wp2
   go_ret
   exact ⟨by rw [hfin.out]; rfl, rfl⟩
theorem rnd_finite_one (g x : Nat) (w : World) (hx : x < 2 ^ 64) (hc : w.cell? ⟨g, 0, none⟩ = some (.float .f64 x)) :
  Calls Tryz.prog 353 #[.slice (some ⟨g, 0, none⟩) 1 1] w fun e w' => e = .returned (.bool (Flt.finB x)) ∧ w = w' := by
 have := rnd_finite_row g 1 [x] w rfl (by decide) (fun k hk => by
  have : k = 0 := by simp at hk; omega
  subst this; exact ⟨hc, hx⟩)
 simpa using this
theorem rnd_finite_two (g x y : Nat) (w : World) (hx : x < 2 ^ 64) (hy : y < 2 ^ 64) (hc : w.cell? ⟨g, 0, none⟩ = some (.float .f64 x)) (hd : w.cell? ⟨g, 1, none⟩ = some (.float .f64 y)) :
  Calls Tryz.prog 353 #[.slice (some ⟨g, 0, none⟩) 2 2] w fun e w' => e = .returned (.bool (Flt.finB x && Flt.finB y)) ∧ w = w' := by
 have := rnd_finite_row g 2 [x, y] w rfl (by decide) (fun k hk => by
  have : k = 0 ∨ k = 1 := by simp at hk; omega
  rcases this with rfl | rfl
  ·exact ⟨hc, hx⟩
  ·exact ⟨hd, hy⟩)
 simpa using this
theorem cell_new1 (w : World) (v : Value) (t : TypeId) : (w.alloc (.cells #[v] t)).cell? ⟨w.heap.size, 0, none⟩ = some v := by simp [go_sem]
theorem cell_new2 (w : World) (v u : Value) (t : TypeId) : (w.alloc (.cells #[v, u] t)).cell? ⟨w.heap.size, 0, none⟩ = some v ∧ (w.alloc (.cells #[v, u] t)).cell? ⟨w.heap.size, 1, none⟩ = some u := by constructor <;> simp [go_sem]
theorem add_comm_fin {x y s : Nat} (hx : Flt.Fin x) (hy : Flt.Fin y) (h : Ieee.double.add x y = some s) : Ieee.double.add y x = some s := by
 obtain ⟨z, hz, r, hzw, hn⟩ := Flt.add_fin hx hy
 obtain ⟨z', hz', r', hzw', hn'⟩ := Flt.add_fin hy hx
 rw [h] at hz
 injection hz with hz
 subst hz
 rw [Int.add_comm] at hn' hzw'
 have : r' = r := Flt.Near.unique (by decide) hn' hn
 rw [hz', hzw', hzw, this, Bool.and_comm]
theorem two_runs {x y s : Nat} (hs : Ieee.double.add x y = some s) (hsf : Flt.Fin s) (hle : Flt.rg y ≤ Flt.rg x) :
  ∃ t u l, Ieee.double.sub s x = some t ∧ Ieee.double.sub y t = some u ∧ Ieee.double.add u 0 = some l ∧ l < 2 ^ 64 ∧ Flt.Fin l ∧ Flt.sv l = Flt.sv x + Flt.sv y - Flt.sv s ∧ (Flt.sv l = 0 → l = 0) := by
 obtain ⟨fx, fy⟩ := Flt.add_some_fin hs hsf
 obtain ⟨t, ht, r, htw, hn⟩ := Flt.add_fin hsf (Flt.fin_opp.2 fx)
 have hr : Flt.rg t = r := by rw [htw]; exact Flt.rg_word _ _ (Flt.near_lt hn)
 have hrl : r ≤ Flt.inf := hn.1
 have hu : ∃ u, Ieee.double.sub y t = some u := by
  rw [Flt.sub_eq]
  rcases Nat.lt_or_ge r Flt.inf with h | h
  ·obtain ⟨u, hu, _⟩ := Flt.add_fin fy (Flt.fin_opp.2 (show Flt.Fin t by unfold Flt.Fin; omega))
   exact ⟨u, hu⟩
  ·exact ⟨_, Flt.add_inf_right fy (by rw [Flt.rg_opp]; omega)⟩
 obtain ⟨u, hu⟩ := hu
 have ht' : Ieee.double.sub s x = some t := by rw [Flt.sub_eq]; exact ht
 obtain ⟨l, h1, h2⟩ := Flt.two_way hs hsf hle ht' hu
 exact ⟨t, u, l, ht', hu, h1, h2⟩
theorem isOp_some {x y s : Nat} (h : IsOp Ieee.double.add x y s) (hf : Flt.Fin s) : Ieee.double.add x y = some s := by
 obtain ⟨_, h2⟩ := h
 cases e : Ieee.double.add x y with
 | some t => rw [e] at h2; exact congrArg some h2.symm
 | none => rw [e] at h2; exact absurd hf (Flt.not_fin_nan h2)
theorem rnd_two_any (x y : Nat) (hx : x < 2 ^ 64) (hy : y < 2 ^ 64) (w : World) : Calls Tryz.prog 357 #[.float .f64 x, .float .f64 y] w (RetTwo4 w x y) := by
 go_enter Tryz.func357, Tryz.ntmps357
 go_wp2_with fail
 refine upon_fadd ?_
 intro s d hs
 have hs64 : s < 2 ^ 64 := hs.1
 have HA := Lib.hid hs
 clear hs
 cases hf : Flt.finB s with
 | false =>
  have hfs := Lib.hid (Flt.finB_false.1 hf)
  have HF := Lib.hid hf
  clear hf
  go_wp2_with fail
  refine (rnd_finite_one w.heap.size s _ hs64 (cell_new1 (w.drewN d) _ _)).mono ?_
  rintro e1 w1 ⟨rfl, rfl⟩
  rw [HF.out]
  go_wp2_with fail
  go_ret2
  exact ⟨_, _, rfl, two_zero HA.out (fun h => absurd h hfs.out), (below_drewN (Below.refl _ _) d).alloc (Nat.le_refl _) _⟩
 | true =>
  have hsf : Flt.Fin s := Flt.finB_iff.1 hf
  have hsum := isOp_some HA.out hsf
  obtain ⟨fx, fy⟩ := Flt.add_some_fin hsum hsf
  have ho : (Ieee.double.order (Flt.rg x) (Flt.rg y) == some .lt) = decide (Flt.rg x < Flt.rg y) := by
   have nx : ¬ Flt.Nan (Flt.rg x) := by unfold Flt.Nan; rw [Flt.rg_abs]; unfold Flt.Fin at fx; omega
   have ny : ¬ Flt.Nan (Flt.rg y) := by unfold Flt.Nan; rw [Flt.rg_abs]; unfold Flt.Fin at fy; omega
   rw [Flt.lt_spec nx ny, Flt.sv_rg, Flt.sv_rg]
   congr 1
   rw [eq_iff_iff]
   constructor
   ·intro h; exact Flt.lt_of_val (by omega)
   ·intro h; have := Flt.val_lt h; omega
  have HF := Lib.hid hf
  have hxr : Flt.rg x < 2 ^ 64 := by unfold Flt.rg; omega
  have hyr : Flt.rg y < 2 ^ 64 := by unfold Flt.rg; omega
  by_cases hlt : Flt.rg x < Flt.rg y
  ·obtain ⟨t, u, l, r1, r2, r3, l1, l2, l3, l4⟩ := two_runs (add_comm_fin fx fy hsum) hsf (Nat.le_of_lt hlt)
   have hr1 : ∀ W : World, (binOp .sub 129 (.float .f64 s) (.float .f64 y)).run Tryz.prog W = .ok (.float .f64 t) W := fun W => run_float_arith W .sub _ .f64 s y _ r1
   have hr2 : ∀ W : World, (binOp .sub 129 (.float .f64 x) (.float .f64 t)).run Tryz.prog W = .ok (.float .f64 u) W := fun W => run_float_arith W .sub _ .f64 x t _ r2
   have hr3 : ∀ W : World, (binOp .add 129 (.float .f64 u) (.float .f64 0)).run Tryz.prog W = .ok (.float .f64 l) W := fun W => run_float_arith W .add _ .f64 u 0 _ r3
   have HT : Hid (Flt.IsTwo x y s l) := Lib.hid ⟨HA.out, l1, fun _ => ⟨l2, by rw [l3, Int.add_comm], l4⟩, fun h => absurd hsf h⟩
   rw [decide_eq_true hlt] at ho
   clear r1 r2 r3 l1 l2 l3 l4 hsum fx fy hsf hf hlt
   go_wp2_with fail
   refine (rnd_finite_one w.heap.size s _ hs64 (cell_new1 (w.drewN d) _ _)).mono ?_
   rintro e1 w1 ⟨rfl, rfl⟩
   rw [HF.out]
   go_wp2_with (first | (go_at_call 318; (with_reducible refine (abs_any x hx _).mono ?_); rintro e2 w2 ⟨rfl, rfl⟩) | (go_at_call 318; (with_reducible refine (abs_any y hy _).mono ?_); rintro e2 w2 ⟨rfl, rfl⟩))
   go_ret2
   exact ⟨_, _, rfl, HT.out, (below_drewN (Below.refl _ _) d).alloc (Nat.le_refl _) _⟩
  ·obtain ⟨t, u, l, r1, r2, r3, l1, l2, l3, l4⟩ := two_runs hsum hsf (by omega)
   have hr1 : ∀ W : World, (binOp .sub 129 (.float .f64 s) (.float .f64 x)).run Tryz.prog W = .ok (.float .f64 t) W := fun W => run_float_arith W .sub _ .f64 s x _ r1
   have hr2 : ∀ W : World, (binOp .sub 129 (.float .f64 y) (.float .f64 t)).run Tryz.prog W = .ok (.float .f64 u) W := fun W => run_float_arith W .sub _ .f64 y t _ r2
   have hr3 : ∀ W : World, (binOp .add 129 (.float .f64 u) (.float .f64 0)).run Tryz.prog W = .ok (.float .f64 l) W := fun W => run_float_arith W .add _ .f64 u 0 _ r3
   have HT : Hid (Flt.IsTwo x y s l) := Lib.hid ⟨HA.out, l1, fun _ => ⟨l2, l3, l4⟩, fun h => absurd hsf h⟩
   rw [decide_eq_false hlt] at ho
   clear r1 r2 r3 l1 l2 l3 l4 hsum fx fy hsf hf hlt
   go_wp2_with fail
   refine (rnd_finite_one w.heap.size s _ hs64 (cell_new1 (w.drewN d) _ _)).mono ?_
   rintro e1 w1 ⟨rfl, rfl⟩
   rw [HF.out]
   go_wp2_with (first | (go_at_call 318; (with_reducible refine (abs_any x hx _).mono ?_); rintro e2 w2 ⟨rfl, rfl⟩) | (go_at_call 318; (with_reducible refine (abs_any y hy _).mono ?_); rintro e2 w2 ⟨rfl, rfl⟩))
   go_ret2
   exact ⟨_, _, rfl, HT.out, (below_drewN (Below.refl _ _) d).alloc (Nat.le_refl _) _⟩
end Go.Proofs.YtgekmbfmfiikkaaGreatDoor
/-! Floats, rounded down and up (round): the float beside. -/
namespace Go.Proofs.YtgekmbfmfiikkaaGreatDoor
open Go.RowKit
theorem isInf1_any (x : Nat) (w : World) : Calls Tryz.prog 319 #[.float .f64 x, .int .i64 1] w fun e w' => e = .returned (.bool (Flt.infB x && !Flt.sgn x)) ∧ w = w' := by
 go_enter Tryz.func319, Tryz.ntmps319
 go_wp2
 go_ret
 exact ⟨by rw [← Flt.order_max]; rfl, rfl⟩
theorem isInf2_any (x : Nat) (hx : x < 2 ^ 64) (w : World) : Calls Tryz.prog 319 #[.float .f64 x, .int .i64 (-1)] w fun e w' => e = .returned (.bool (Flt.infB x && Flt.sgn x)) ∧ w = w' := by
 have e1 : (Flt.infB x && Flt.sgn x) = (Flt.infB (neg64 x) && !Flt.sgn (neg64 x)) := by
  rw [neg64_eq x hx, Flt.sgn_opp]; unfold Flt.infB; rw [Flt.rg_opp, Bool.not_not]
 have E := Lib.hid e1
 clear e1
 rw [E.out]
 go_enter Tryz.func319, Tryz.ntmps319
 go_wp2
 go_ret
 exact ⟨by rw [← Flt.order_max]; rfl, rfl⟩
theorem nan_zero : ¬ Flt.Nan 0 := by unfold Flt.Nan Flt.rg; rw [Flt.inf_eq]; omega
theorem sv_zero : Flt.sv 0 = 0 := Flt.sv_zero_iff.2 rfl
theorem eq_zero {x : Nat} (h : Flt.nanB x = false) : (Ieee.double.order x 0 == some .eq) = decide (Flt.rg x = 0) := by
 have hx : ¬ Flt.Nan x := fun k => by rw [Flt.nanB_iff.2 k] at h; cases h
 rw [Flt.eq_spec hx nan_zero, sv_zero]
 congr 1
 rw [eq_iff_iff]
 exact Flt.sv_zero_iff
theorem gt_zero {x : Nat} (h : Flt.nanB x = false) (h0 : Flt.rg x ≠ 0) : (Ieee.double.order x 0 == some .gt) = !Flt.sgn x := by
 have hx : ¬ Flt.Nan x := fun k => by rw [Flt.nanB_iff.2 k] at h; cases h
 rw [Flt.gt_spec hx nan_zero, sv_zero]
 have hv : 0 < Flt.val (Flt.rg x) := by have := Flt.le_val (Flt.rg x); omega
 unfold Flt.sv
 cases Flt.sgn x
 ·simp <;> omega
 ·simp <;> omega
theorem rnd_next_any (x : Nat) (hx : x < 2 ^ 64) (up : Bool) (w : World) : Calls Tryz.prog 369 #[.float .f64 x, .bool up] w fun e w' => e = .returned (.float .f64 (nxt x up)) ∧ w = w' := by
  cases hn : Flt.nanB x with
  | true =>
    have hv : Hid (nxt x up = x) := Lib.hid (by unfold nxt; rw [hn]; rfl)
    rw [hv.out]
    go_enter Tryz.func369, Tryz.ntmps369
    go_wp2_with (go_at_call 321; refine (isNaN_any _ _).mono ?_; rintro e w' ⟨rfl, rfl⟩; rw [hn])
    go_ret
    exact ⟨rfl, rfl⟩
  | false =>
    have ho := eq_zero hn
    by_cases h0 : Flt.rg x = 0
    · rw [decide_eq_true h0] at ho
      cases up with
      | true =>
        have hv : Hid (nxt x true = 1) := Lib.hid (by unfold nxt; rw [hn]; simp [h0])
        rw [hv.out]
        clear h0
        go_enter Tryz.func369, Tryz.ntmps369
        go_wp2_with (go_at_call 321; refine (isNaN_any _ _).mono ?_; rintro e w' ⟨rfl, rfl⟩; rw [hn])
        go_ret
        exact ⟨rfl, rfl⟩
      | false =>
        have hv : Hid (nxt x false = 2 ^ 63 + 1) := Lib.hid (by unfold nxt; rw [hn]; simp [h0])
        rw [hv.out]
        clear h0
        go_enter Tryz.func369, Tryz.ntmps369
        go_wp2_with (go_at_call 321; refine (isNaN_any _ _).mono ?_; rintro e w' ⟨rfl, rfl⟩; rw [hn])
        go_ret
        exact ⟨rfl, rfl⟩
    · rw [decide_eq_false h0] at ho
      have hg := gt_zero hn h0
      have hxr : x ≤ 2 ^ 63 + Flt.inf := by
        have : ¬ Flt.inf < Flt.rg x := by unfold Flt.nanB at hn; exact of_decide_eq_false hn
        unfold Flt.rg at this; rw [Flt.inf_eq] at this ⊢; omega
      have hx0 : 0 < x := by rcases Nat.eq_zero_or_pos x with h | h; · subst h; exact absurd rfl h0
                             · exact h
      have e1 : IntKind.u64.wrap ((x : Int) + 1) = (x : Int) + 1 := IntWalk.u64_in _ (by rw [Flt.inf_eq] at hxr; omega)
      have e2 : IntKind.u64.wrap ((x : Int) - 1) = (x : Int) - 1 := IntWalk.u64_in _ (by omega)
      have t1 : Hid (((x : Int) + 1).toNat = x + 1) := Lib.hid (by omega)
      have t2 : Hid (((x : Int) - 1).toNat = x - 1) := Lib.hid (by omega)
      have hnx : ∀ up, nxt x up = if Flt.infB x && (Flt.sgn x != up) then x else if (!Flt.sgn x) == up then x + 1 else x - 1 := by
        intro up; unfold nxt; rw [hn, if_neg (by simp), if_neg h0]
      have hv := hnx up
      clear hnx
      cases hi : Flt.infB x <;> cases hs : Flt.sgn x <;> cases up <;>
      (rw [hi, hs] at hv
       have HV := Lib.hid hv
       rw [hs] at hg
       clear hv hxr h0
       go_enter Tryz.func369, Tryz.ntmps369
       go_wp2_with (first | (go_at_call 321; refine (isNaN_any _ _).mono ?_; rintro e w' ⟨rfl, rfl⟩; rw [hn]) | (go_at_call 319; (with_reducible refine (isInf1_any x _).mono ?_); rintro e w' ⟨rfl, rfl⟩; rw [hi, hs]) | (go_at_call 319; (with_reducible refine (isInf2_any x hx _).mono ?_); rintro e w' ⟨rfl, rfl⟩; rw [hi, hs]))
       go_ret
       refine ⟨?_, rfl⟩
       first
         | (rw [HV.out]; rfl)
         | (rw [HV.out]; show Ending.returned (.float .f64 ((x : Int) + 1).toNat) = _; rw [t1.out]; rfl)
         | (rw [HV.out]; show Ending.returned (.float .f64 ((x : Int) - 1).toNat) = _; rw [t2.out]; rfl))
end Go.Proofs.YtgekmbfmfiikkaaGreatDoor
/-! Floats, rounded down and up (round): sums and differences. -/
namespace Go.Proofs.YtgekmbfmfiikkaaGreatDoor
open Go.RowKit
def RetPair (W : World) (p : Nat → Nat → Prop) (e : Ending) (w' : World) : Prop :=
 ∃ d u, e = .returned (.tuple #[.float .f64 d, .float .f64 u]) ∧ p d u ∧ Below W.heap.size W w'
theorem cmp_zero {x : Nat} (h : ¬ Flt.Nan x) : (Ieee.double.order x 0 == some .gt) = decide (0 < Flt.sv x) ∧ (Ieee.double.order x 0 == some .lt) = decide (Flt.sv x < 0) := by
 rw [Flt.gt_spec h nan_zero, Flt.lt_spec h nan_zero, sv_zero]
 exact ⟨rfl, rfl⟩
theorem rnd_at_any (own l : Nat) (ho : own < 2 ^ 64) (hl : ¬ Flt.Nan l) (w : World) : Calls Tryz.prog 354 #[.float .f64 own, .float .f64 l] w fun e w' => e = .returned (.tuple #[.float .f64 (atd own (Flt.sv l)).1, .float .f64 (atd own (Flt.sv l)).2]) ∧ w = w' := by
 obtain ⟨c1, c2⟩ := cmp_zero hl
 by_cases h1 : 0 < Flt.sv l
 ·have hv : Hid (atd own (Flt.sv l) = (own, nxt own true)) := Lib.hid (by unfold atd; rw [if_pos h1])
  rw [hv.out, decide_eq_true h1] at *
  clear c2 h1 hl
  go_enter Tryz.func354, Tryz.ntmps354
  go_wp2_with (go_at_call 369; refine (rnd_next_any _ ho _ _).mono ?_; rintro e w' ⟨rfl, rfl⟩)
  go_ret2
  exact ⟨rfl, rfl⟩
 ·rw [decide_eq_false h1] at c1
  by_cases h2 : Flt.sv l < 0
  ·have hv : Hid (atd own (Flt.sv l) = (nxt own false, own)) := Lib.hid (by unfold atd; rw [if_neg h1, if_pos h2])
   rw [hv.out]
   rw [decide_eq_true h2] at c2
   clear h1 h2 hl
   go_enter Tryz.func354, Tryz.ntmps354
   go_wp2_with (go_at_call 369; refine (rnd_next_any _ ho _ _).mono ?_; rintro e w' ⟨rfl, rfl⟩)
   go_ret2
   exact ⟨rfl, rfl⟩
  ·have hv : Hid (atd own (Flt.sv l) = (own, own)) := Lib.hid (by unfold atd; rw [if_neg h1, if_neg h2])
   rw [hv.out]
   rw [decide_eq_false h2] at c2
   clear h1 h2 hl
   go_enter Tryz.func354, Tryz.ntmps354
   go_wp2
   go_ret2
   exact ⟨rfl, rfl⟩
theorem rnd_beyond_any (own : Nat) (hi : Flt.rg own = Flt.inf) (w : World) : Calls Tryz.prog 356 #[.float .f64 own] w fun e w' => e = .returned (.tuple #[.float .f64 (bey own).1, .float .f64 (bey own).2]) ∧ w = w' := by
 have hn : Flt.nanB own = false := by unfold Flt.nanB; rw [hi]; exact decide_eq_false (by omega)
 have hg := gt_zero hn (by rw [hi, Flt.inf_eq]; omega)
 clear hn hi
 cases hs : Flt.sgn own with
 | true =>
  have hv : Hid (bey own = (own, 18442240474082181119)) := Lib.hid (by unfold bey; rw [hs, Flt.inf_eq]; rfl)
  rw [hv.out]
  rw [hs] at hg
  clear hs
  go_enter Tryz.func356, Tryz.ntmps356
  go_wp2
  go_ret2
  exact ⟨rfl, rfl⟩
 | false =>
  have hv : Hid (bey own = (9218868437227405311, own)) := Lib.hid (by unfold bey; rw [hs, Flt.inf_eq]; rfl)
  rw [hv.out]
  rw [hs] at hg
  clear hs
  go_enter Tryz.func356, Tryz.ntmps356
  go_wp2
  go_ret2
  exact ⟨rfl, rfl⟩
theorem rnd_add_any (x y : Nat) (hx : x < 2 ^ 64) (hy : y < 2 ^ 64) (w : World) : Calls Tryz.prog 317 #[.float .f64 x, .float .f64 y] w (RetPair w (IsSum x y)) := by
 go_enter Tryz.func317, Tryz.ntmps317
 go_wp2_with fail
 refine upon_fadd ?_
 intro s d hs
 have hs64 : s < 2 ^ 64 := hs.1
 have HA : Hid (Flt.IsAdd x y s) := Lib.hid hs
 clear hs
 cases hf : (Flt.finB x && Flt.finB y) with
 | false =>
  have hc : Hid (¬ (Flt.Fin x ∧ Flt.Fin y)) := Lib.hid (by rintro ⟨a, b⟩; rw [Flt.finB_iff.2 a, Flt.finB_iff.2 b] at hf; cases hf)
  have HF := Lib.hid hf
  clear hf
  go_wp2_with fail
  refine (rnd_finite_two w.heap.size x y _ hx hy (cell_new2 (w.drewN d) _ _ _).1 (cell_new2 (w.drewN d) _ _ _).2).mono ?_
  rintro e1 w1 ⟨rfl, rfl⟩
  rw [HF.out]
  go_wp2_with fail
  go_ret2
  exact ⟨_, _, rfl, sum_own HA.out hc.out, (below_drewN (Below.refl _ _) d).alloc (Nat.le_refl _) _⟩
 | true =>
  have hfx : Flt.Fin x ∧ Flt.Fin y := by rw [Bool.and_eq_true] at hf; exact ⟨Flt.finB_iff.1 hf.1, Flt.finB_iff.1 hf.2⟩
  have HX := Lib.hid hfx
  have HF := Lib.hid hf
  clear hf hfx
  go_wp2_with fail
  refine (rnd_finite_two w.heap.size x y _ hx hy (cell_new2 (w.drewN d) _ _ _).1 (cell_new2 (w.drewN d) _ _ _).2).mono ?_
  rintro e1 w1 ⟨rfl, rfl⟩
  rw [HF.out]
  have hb1 : Below w.heap.size w ((w.drewN d).alloc (.cells #[.float .f64 x, .float .f64 y] 129)) := (below_drewN (Below.refl _ _) d).alloc (Nat.le_refl _) _
  generalize (w.drewN d).alloc (.cells #[.float .f64 x, .float .f64 y] 129) = w2 at hb1 ⊢
  cases hf2 : Flt.finB s with
  | false =>
   have HS := Lib.hid (Flt.finB_false.1 hf2)
   have HF2 := Lib.hid hf2
   clear hf2
   have hi : Flt.rg s = Flt.inf := by
    rcases Flt.kinds s with h | h | h
    ·exact absurd h HS.out
    ·exact h
    ·exfalso
     obtain ⟨z, hz, r, hw, hn⟩ := Flt.add_fin HX.out.1 HX.out.2
     have e := HA.out.2
     rw [hz] at e
     have e : s = z := e
     unfold Flt.Nan at h
     rw [e, hw, Flt.rg_word _ _ (Flt.near_lt hn)] at h
     have := hn.1
     omega
   have HI := Lib.hid hi
   clear hi
   go_wp2_with fail
   refine (rnd_finite_one w2.heap.size s _ hs64 (cell_new1 w2 _ _)).mono ?_
   rintro e3 w3 ⟨rfl, rfl⟩
   rw [HF2.out]
   go_wp2_with (go_at_call 356; refine (rnd_beyond_any _ HI.out _).mono ?_; rintro e4 w4 ⟨rfl, rfl⟩)
   go_ret2
   exact ⟨_, _, rfl, sum_bey HA.out HX.out.1 HX.out.2 HS.out, below_next hb1 ((Below.refl _ _).alloc (Nat.le_refl _) _)⟩
  | true =>
   have HS := Lib.hid (Flt.finB_iff.1 hf2)
   have HF2 := Lib.hid hf2
   clear hf2
   go_wp2_with fail
   refine (rnd_finite_one w2.heap.size s _ hs64 (cell_new1 w2 _ _)).mono ?_
   rintro e3 w3 ⟨rfl, rfl⟩
   rw [HF2.out]
   go_wp2_with fail
   refine (rnd_two_any x y hx hy _).mono ?_
   rintro e4 w4 ⟨s', l, rfl, hT, hb4⟩
   have hss : s' = s := by
    obtain ⟨z, hz, _⟩ := Flt.add_fin HX.out.1 HX.out.2
    have a := HA.out.2
    have b := hT.1.2
    rw [hz] at a b
    exact b.trans a.symm
   rw [hss] at hT
   have hfl : Flt.Fin l := (hT.2.2.1 HS.out).1
   have hnl : ¬ Flt.Nan l := fun h => Flt.not_fin_nan h hfl
   have HT := Lib.hid hT
   have hb5 := below_next hb1 (below_box hb4)
   clear hT hfl hss
   go_wp2_with (go_at_call 354; refine (rnd_at_any s l hs64 hnl _).mono ?_; rintro e5 w5 ⟨rfl, rfl⟩)
   go_ret2
   exact ⟨_, _, rfl, sum_at HT.out HS.out, hb5⟩
theorem rnd_sub_any (x y : Nat) (hx : x < 2 ^ 64) (hy : y < 2 ^ 64) (w : World) : Calls Tryz.prog 247 #[.float .f64 x, .float .f64 y] w (RetPair w (IsSum x (Flt.opp y))) := by
 have hn : Hid (neg64 y = Flt.opp y) := Lib.hid (neg64_eq y hy)
 go_enter Tryz.func247, Tryz.ntmps247
 go_wp2_with fail
 rw [hn.out]
 refine (rnd_add_any x (Flt.opp y) hx (Flt.opp_lt y) _).mono ?_
 rintro e1 w1 ⟨d, u, rfl, hS, hb1⟩
 go_wp2_with fail
 go_ret2
 exact ⟨_, _, rfl, hS, hb1⟩
end Go.Proofs.YtgekmbfmfiikkaaGreatDoor
