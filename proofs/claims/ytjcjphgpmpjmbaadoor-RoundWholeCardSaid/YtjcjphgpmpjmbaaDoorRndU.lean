/-
  Floats rounded down and up (round): Two, Next, Add, Sub.
-/
import Derived.Test.YtjcjphgpmpjmbaaDoorRefW
/-! Floats beside an exact value: the pair that is told of a fraction, and the pair that a nearest float and what it has lost give. -/
namespace Go.Proofs.YtjcjphgpmpjmbaaDoor
open Go.RowKit

def Brk (s : Bool) (num den d u : Nat) : Prop :=
  ∃ r, Flt.Dn num den r ∧ d = (if s then 2 ^ 63 + hiR num den r else r) ∧ u = (if s then 2 ^ 63 + r else hiR num den r)
theorem Brk.unique {s : Bool} {num den d u d' u' : Nat} (h : Brk s num den d u) (k : Brk s num den d' u') : d = d' ∧ u = u' := by
  obtain ⟨r, h1, rfl, rfl⟩ := h
  obtain ⟨r', k1, rfl, rfl⟩ := k
  have := h1.unique k1
  subst this
  exact ⟨rfl, rfl⟩

/-- The float beside, upward or downward. -/
def nxt (x : Nat) (up : Bool) : Nat :=
  if Flt.nanB x then x else if Flt.rg x = 0 then (if up then 1 else 2 ^ 63 + 1) else if Flt.infB x && (Flt.sgn x != up) then x else if (!Flt.sgn x) == up then x + 1 else x - 1
def atd (own : Nat) (k : Int) : Nat × Nat := if 0 < k then (own, nxt own true) else if k < 0 then (nxt own false, own) else (own, own)

theorem nxt_pos_up {r : Nat} (h : r < Flt.inf) : nxt (Flt.word false r) true = r + 1 := by
  have hl : r < 2 ^ 63 := by have := Flt.inf_lt; omega
  have h1 : Flt.rg r = r := by unfold Flt.rg; omega
  have h2 : Flt.sgn r = false := by unfold Flt.sgn; rw [show r / 2 ^ 63 = 0 by omega]; rfl
  have h3 : Flt.nanB r = false := by unfold Flt.nanB; rw [h1]; exact decide_eq_false (by omega)
  have h4 : Flt.infB r = false := by unfold Flt.infB; rw [h1]; exact decide_eq_false (by omega)
  unfold nxt
  rw [show Flt.word false r = r from rfl, h1, h2, h3, h4]
  by_cases h0 : r = 0
  · subst h0; rfl
  · simp [h0]
theorem nxt_pos_down {r : Nat} (h0 : 0 < r) (h : r < Flt.inf) : nxt (Flt.word false r) false = r - 1 := by
  have hl : r < 2 ^ 63 := by have := Flt.inf_lt; omega
  have h1 : Flt.rg r = r := by unfold Flt.rg; omega
  have h2 : Flt.sgn r = false := by unfold Flt.sgn; rw [show r / 2 ^ 63 = 0 by omega]; rfl
  have h3 : Flt.nanB r = false := by unfold Flt.nanB; rw [h1]; exact decide_eq_false (by omega)
  have h4 : Flt.infB r = false := by unfold Flt.infB; rw [h1]; exact decide_eq_false (by omega)
  unfold nxt
  rw [show Flt.word false r = r from rfl, h1, h2, h3, h4]
  simp [Nat.ne_of_gt h0]
end Go.Proofs.YtjcjphgpmpjmbaaDoor

/-! What is told of a sum. -/
namespace Go.Proofs.YtjcjphgpmpjmbaaDoor
open Go.RowKit

def IsSum (x y d u : Nat) : Prop :=
  ∃ s, Flt.IsAdd x y s ∧ ((¬ (Flt.Fin x ∧ Flt.Fin y) ∨ Flt.sv x + Flt.sv y = 0) → d = s ∧ u = s) ∧
    (Flt.Fin x → Flt.Fin y → Flt.sv x + Flt.sv y ≠ 0 → Brk (decide (Flt.sv x + Flt.sv y < 0)) (Flt.sv x + Flt.sv y).natAbs 1 d u)
theorem IsSum.same {x y d u d' u' : Nat} (h : IsSum x y d u) (k : IsSum x y d' u') : Flt.Same d d' ∧ Flt.Same u u' := by
  obtain ⟨s, h1, h2, h3⟩ := h
  obtain ⟨t, k1, k2, k3⟩ := k
  have hst := h1.same k1
  by_cases hc : ¬ (Flt.Fin x ∧ Flt.Fin y) ∨ Flt.sv x + Flt.sv y = 0
  · obtain ⟨rfl, rfl⟩ := h2 hc
    obtain ⟨rfl, rfl⟩ := k2 hc
    exact ⟨hst, hst⟩
  · have hf : Flt.Fin x ∧ Flt.Fin y := by
      by_cases hf : Flt.Fin x ∧ Flt.Fin y
      · exact hf
      · exact absurd (Or.inl hf) hc
    have hz : Flt.sv x + Flt.sv y ≠ 0 := fun e => hc (Or.inr e)
    obtain ⟨rfl, rfl⟩ := (h3 hf.1 hf.2 hz).unique (k3 hf.1 hf.2 hz)
    exact ⟨Or.inl rfl, Or.inl rfl⟩

end Go.Proofs.YtjcjphgpmpjmbaaDoor

/-! Floats, rounded down and up (round): finite; the sum and what it has lost. -/
namespace Go.Proofs.YtjcjphgpmpjmbaaDoor
open Go.RowKit

set_option maxHeartbeats 800000 in
theorem rnd_finite_row (g n : Nat) (l : List Nat) (w : World) (hl : l.length = n) (hn : n ≤ 1000) (hc : ∀ k (h : k < l.length), w.cell? ⟨g, k, none⟩ = some (.float .f64 l[k]) ∧ l[k] < 2 ^ 64) :
    Calls Tryd.prog 37 #[.slice (some ⟨g, 0, none⟩) n n] w fun e w' => e = .returned (.bool (l.all Flt.finB)) ∧ w = w' := by
  have HC := Lib.hid hc
  have HL := Lib.hid hl
  clear hc hl
  go_enter Tryd.func37, Tryd.ntmps37
  go_wp2
  go_loop [4, 7] (fun v i => ∃ k : Nat, k ≤ n ∧ i = .int .i64 k ∧ Hid ((l.take k).all Flt.finB = true)) (fun _ i => n - (intOf i).toNat)
  case atStart => exact ⟨0, by omega, rfl, by rw [List.take_zero]; exact rfl⟩
  case round =>
    obtain ⟨k, hk, rfl, hrel⟩ := hrel
    by_cases h0 : k < n
    · have hkl : k < l.length := by have := HL.out; omega
      obtain ⟨hx, hx64⟩ := HC.out k hkl
      have hd : ((k : Int) < (n : Int)) := by omega
      have htk : l.take (k + 1) = l.take k ++ [l[k]] := List.take_succ_eq_append_getElem hkl
      have HTK := Lib.hid htk
      clear htk
      cases h1 : Flt.nanB l[k] with
      | true =>
        have hfin : Hid (l.all Flt.finB = false) := by
          have : Flt.finB l[k] = false := by rw [Flt.finB_eq, h1]; rfl
          refine Lib.hid (List.all_eq_false.2 ⟨l[k], List.getElem_mem hkl, by rw [this]; decide⟩)
        go_wp2_with (first | (go_at_call 14; refine (isNaN_any _ _).mono ?_; rintro e w' ⟨rfl, rfl⟩; rw [h1]) | (go_at_call 34; refine (isInf0_any _ hx64 _).mono ?_; rintro e w' ⟨rfl, rfl⟩))
        go_ret
        exact ⟨by rw [hfin.out]; rfl, rfl⟩
      | false =>
        cases h2 : Flt.infB l[k] with
        | true =>
          have hfin : Hid (l.all Flt.finB = false) := by
            have : Flt.finB l[k] = false := by rw [Flt.finB_eq, h1, h2]; rfl
            refine Lib.hid (List.all_eq_false.2 ⟨l[k], List.getElem_mem hkl, by rw [this]; decide⟩)
          go_wp2_with (first | (go_at_call 14; refine (isNaN_any _ _).mono ?_; rintro e w' ⟨rfl, rfl⟩; rw [h1]) | (go_at_call 34; refine (isInf0_any _ hx64 _).mono ?_; rintro e w' ⟨rfl, rfl⟩; rw [h2]))
          go_ret
          exact ⟨by rw [hfin.out]; rfl, rfl⟩
        | false =>
          have hfin : Flt.finB l[k] = true := by rw [Flt.finB_eq, h1, h2]; rfl
          have HF := Lib.hid hfin
          clear hfin
          go_wp2_with (first | (go_at_call 14; refine (isNaN_any _ _).mono ?_; rintro e w' ⟨rfl, rfl⟩; rw [h1]) | (go_at_call 34; refine (isInf0_any _ hx64 _).mono ?_; rintro e w' ⟨rfl, rfl⟩; rw [h2]))
          refine ⟨⟨k + 1, by omega, by simp, ?_⟩, by simp [intOf]; omega⟩
          rw [HTK.out, List.all_append, hrel.out]
          exact Lib.hid (by simp [HF.out])
    · obtain rfl : k = n := by omega
      have hd : ¬ ((k : Int) < (k : Int)) := by omega
      have hfin : Hid (l.all Flt.finB = true) := by
        rw [← HL.out, List.take_length] at hrel; exact hrel
      go_wp2
      go_ret
      exact ⟨by rw [hfin.out]; rfl, rfl⟩

theorem rnd_finite_one (g x : Nat) (w : World) (hx : x < 2 ^ 64) (hc : w.cell? ⟨g, 0, none⟩ = some (.float .f64 x)) :
    Calls Tryd.prog 37 #[.slice (some ⟨g, 0, none⟩) 1 1] w fun e w' => e = .returned (.bool (Flt.finB x)) ∧ w = w' := by
  have := rnd_finite_row g 1 [x] w rfl (by decide) (fun k hk => by
    have : k = 0 := by simp at hk; omega
    subst this; exact ⟨hc, hx⟩)
  simpa using this
theorem rnd_finite_two (g x y : Nat) (w : World) (hx : x < 2 ^ 64) (hy : y < 2 ^ 64) (hc : w.cell? ⟨g, 0, none⟩ = some (.float .f64 x)) (hd : w.cell? ⟨g, 1, none⟩ = some (.float .f64 y)) :
    Calls Tryd.prog 37 #[.slice (some ⟨g, 0, none⟩) 2 2] w fun e w' => e = .returned (.bool (Flt.finB x && Flt.finB y)) ∧ w = w' := by
  have := rnd_finite_row g 2 [x, y] w rfl (by decide) (fun k hk => by
    have : k = 0 ∨ k = 1 := by simp at hk; omega
    rcases this with rfl | rfl
    · exact ⟨hc, hx⟩
    · exact ⟨hd, hy⟩)
  simpa using this

theorem cell_new1 (w : World) (v : Value) (t : TypeId) : (w.alloc (.cells #[v] t)).cell? ⟨w.heap.size, 0, none⟩ = some v := by simp [go_sem]
theorem cell_new2 (w : World) (v u : Value) (t : TypeId) : (w.alloc (.cells #[v, u] t)).cell? ⟨w.heap.size, 0, none⟩ = some v ∧ (w.alloc (.cells #[v, u] t)).cell? ⟨w.heap.size, 1, none⟩ = some u := by constructor <;> simp [go_sem]

theorem add_comm_fin {x y s : Nat} (hx : Flt.Fin x) (hy : Flt.Fin y) (h : Ieee.double.add x y = some s) : Ieee.double.add y x = some s := by
  obtain ⟨z, hz, r, hzw, hn⟩ := Flt.add_fin hx hy
  obtain ⟨z', hz', r', hzw', hn'⟩ := Flt.add_fin hy hx
  rw [h] at hz
  injection hz with hz
  subst hz
  rw [Int.add_comm] at hn' hzw'
  have : r' = r := Flt.Near.unique (by decide) hn' hn
  rw [hz', hzw', hzw, this, Bool.and_comm]

/-- The program's way ends at a float. -/
theorem two_runs {x y s : Nat} (hs : Ieee.double.add x y = some s) (hsf : Flt.Fin s) (hle : Flt.rg y ≤ Flt.rg x) :
    ∃ t u l, Ieee.double.sub s x = some t ∧ Ieee.double.sub y t = some u ∧ Ieee.double.add u 0 = some l ∧ l < 2 ^ 64 ∧ Flt.Fin l ∧ Flt.sv l = Flt.sv x + Flt.sv y - Flt.sv s ∧ (Flt.sv l = 0 → l = 0) := by
  obtain ⟨fx, fy⟩ := Flt.add_some_fin hs hsf
  obtain ⟨t, ht, r, htw, hn⟩ := Flt.add_fin hsf (Flt.fin_opp.2 fx)
  have hr : Flt.rg t = r := by rw [htw]; exact Flt.rg_word _ _ (Flt.near_lt hn)
  have hrl : r ≤ Flt.inf := hn.1
  have hu : ∃ u, Ieee.double.sub y t = some u := by
    rw [Flt.sub_eq]
    rcases Nat.lt_or_ge r Flt.inf with h | h
    · obtain ⟨u, hu, _⟩ := Flt.add_fin fy (Flt.fin_opp.2 (show Flt.Fin t by unfold Flt.Fin; omega))
      exact ⟨u, hu⟩
    · exact ⟨_, Flt.add_inf_right fy (by rw [Flt.rg_opp]; omega)⟩
  obtain ⟨u, hu⟩ := hu
  have ht' : Ieee.double.sub s x = some t := by rw [Flt.sub_eq]; exact ht
  obtain ⟨l, h1, h2⟩ := Flt.two_way hs hsf hle ht' hu
  exact ⟨t, u, l, ht', hu, h1, h2⟩

theorem isOp_some {x y s : Nat} (h : IsOp Ieee.double.add x y s) (hf : Flt.Fin s) : Ieee.double.add x y = some s := by
  obtain ⟨_, h2⟩ := h
  cases e : Ieee.double.add x y with
  | some t => rw [e] at h2; exact congrArg some h2.symm
  | none => rw [e] at h2; exact absurd hf (Flt.not_fin_nan h2)

set_option maxHeartbeats 1600000 in
theorem rnd_two_any (x y : Nat) (hx : x < 2 ^ 64) (hy : y < 2 ^ 64) (w : World) : Calls Tryd.prog 17 #[.float .f64 x, .float .f64 y] w (RetTwo4 w x y) := by
  go_enter Tryd.func17, Tryd.ntmps17
  go_wp2_with fail
  refine upon_fadd ?_
  intro s d hs
  have hs64 : s < 2 ^ 64 := hs.1
  have HA := Lib.hid hs
  clear hs
  cases hf : Flt.finB s with
  | false =>
    have hfs := Lib.hid (Flt.finB_false.1 hf)
    have HF := Lib.hid hf
    clear hf
    go_wp2_with fail
    refine (rnd_finite_one w.heap.size s _ hs64 (cell_new1 (w.drewN d) _ _)).mono ?_
    rintro e1 w1 ⟨rfl, rfl⟩
    rw [HF.out]
    go_wp2_with fail
    go_ret2
    exact ⟨_, _, rfl, two_zero HA.out (fun h => absurd h hfs.out), (below_drewN (Below.refl _ _) d).alloc (Nat.le_refl _) _⟩
  | true =>
    have hsf : Flt.Fin s := Flt.finB_iff.1 hf
    have hsum := isOp_some HA.out hsf
    obtain ⟨fx, fy⟩ := Flt.add_some_fin hsum hsf
    have ho : (Ieee.double.order (Flt.rg x) (Flt.rg y) == some .lt) = decide (Flt.rg x < Flt.rg y) := by
      have nx : ¬ Flt.Nan (Flt.rg x) := by unfold Flt.Nan; rw [Flt.rg_abs]; unfold Flt.Fin at fx; omega
      have ny : ¬ Flt.Nan (Flt.rg y) := by unfold Flt.Nan; rw [Flt.rg_abs]; unfold Flt.Fin at fy; omega
      rw [Flt.lt_spec nx ny, Flt.sv_rg, Flt.sv_rg]
      congr 1
      rw [eq_iff_iff]
      constructor
      · intro h; exact Flt.lt_of_val (by omega)
      · intro h; have := Flt.val_lt h; omega
    have HF := Lib.hid hf
    have hxr : Flt.rg x < 2 ^ 64 := by unfold Flt.rg; omega
    have hyr : Flt.rg y < 2 ^ 64 := by unfold Flt.rg; omega
    by_cases hlt : Flt.rg x < Flt.rg y
    · obtain ⟨t, u, l, r1, r2, r3, l1, l2, l3, l4⟩ := two_runs (add_comm_fin fx fy hsum) hsf (Nat.le_of_lt hlt)
      have hr1 : ∀ W : World, (binOp .sub 27 (.float .f64 s) (.float .f64 y)).run Tryd.prog W = .ok (.float .f64 t) W := fun W => run_float_arith W .sub _ .f64 s y _ r1
      have hr2 : ∀ W : World, (binOp .sub 27 (.float .f64 x) (.float .f64 t)).run Tryd.prog W = .ok (.float .f64 u) W := fun W => run_float_arith W .sub _ .f64 x t _ r2
      have hr3 : ∀ W : World, (binOp .add 27 (.float .f64 u) (.float .f64 0)).run Tryd.prog W = .ok (.float .f64 l) W := fun W => run_float_arith W .add _ .f64 u 0 _ r3
      have HT : Hid (Flt.IsTwo x y s l) := Lib.hid ⟨HA.out, l1, fun _ => ⟨l2, by rw [l3, Int.add_comm], l4⟩, fun h => absurd hsf h⟩
      rw [decide_eq_true hlt] at ho
      clear r1 r2 r3 l1 l2 l3 l4 hsum fx fy hsf hf hlt
      go_wp2_with fail
      refine (rnd_finite_one w.heap.size s _ hs64 (cell_new1 (w.drewN d) _ _)).mono ?_
      rintro e1 w1 ⟨rfl, rfl⟩
      rw [HF.out]
      go_wp2_with (first | (go_at_call 38; (with_reducible refine (abs_any x hx _).mono ?_); rintro e2 w2 ⟨rfl, rfl⟩) | (go_at_call 38; (with_reducible refine (abs_any y hy _).mono ?_); rintro e2 w2 ⟨rfl, rfl⟩))
      go_ret2
      exact ⟨_, _, rfl, HT.out, (below_drewN (Below.refl _ _) d).alloc (Nat.le_refl _) _⟩
    · obtain ⟨t, u, l, r1, r2, r3, l1, l2, l3, l4⟩ := two_runs hsum hsf (by omega)
      have hr1 : ∀ W : World, (binOp .sub 27 (.float .f64 s) (.float .f64 x)).run Tryd.prog W = .ok (.float .f64 t) W := fun W => run_float_arith W .sub _ .f64 s x _ r1
      have hr2 : ∀ W : World, (binOp .sub 27 (.float .f64 y) (.float .f64 t)).run Tryd.prog W = .ok (.float .f64 u) W := fun W => run_float_arith W .sub _ .f64 y t _ r2
      have hr3 : ∀ W : World, (binOp .add 27 (.float .f64 u) (.float .f64 0)).run Tryd.prog W = .ok (.float .f64 l) W := fun W => run_float_arith W .add _ .f64 u 0 _ r3
      have HT : Hid (Flt.IsTwo x y s l) := Lib.hid ⟨HA.out, l1, fun _ => ⟨l2, l3, l4⟩, fun h => absurd hsf h⟩
      rw [decide_eq_false hlt] at ho
      clear r1 r2 r3 l1 l2 l3 l4 hsum fx fy hsf hf hlt
      go_wp2_with fail
      refine (rnd_finite_one w.heap.size s _ hs64 (cell_new1 (w.drewN d) _ _)).mono ?_
      rintro e1 w1 ⟨rfl, rfl⟩
      rw [HF.out]
      go_wp2_with (first | (go_at_call 38; (with_reducible refine (abs_any x hx _).mono ?_); rintro e2 w2 ⟨rfl, rfl⟩) | (go_at_call 38; (with_reducible refine (abs_any y hy _).mono ?_); rintro e2 w2 ⟨rfl, rfl⟩))
      go_ret2
      exact ⟨_, _, rfl, HT.out, (below_drewN (Below.refl _ _) d).alloc (Nat.le_refl _) _⟩
end Go.Proofs.YtjcjphgpmpjmbaaDoor

/-! Floats, rounded down and up (round): the float beside. -/
namespace Go.Proofs.YtjcjphgpmpjmbaaDoor
open Go.RowKit

theorem isInf1_any (x : Nat) (w : World) : Calls Tryd.prog 34 #[.float .f64 x, .int .i64 1] w fun e w' => e = .returned (.bool (Flt.infB x && !Flt.sgn x)) ∧ w = w' := by
  go_enter Tryd.func34, Tryd.ntmps34
  go_wp2
  go_ret
  exact ⟨by rw [← Flt.order_max]; rfl, rfl⟩
theorem isInf2_any (x : Nat) (hx : x < 2 ^ 64) (w : World) : Calls Tryd.prog 34 #[.float .f64 x, .int .i64 (-1)] w fun e w' => e = .returned (.bool (Flt.infB x && Flt.sgn x)) ∧ w = w' := by
  have e1 : (Flt.infB x && Flt.sgn x) = (Flt.infB (neg64 x) && !Flt.sgn (neg64 x)) := by
    rw [neg64_eq x hx, Flt.sgn_opp]; unfold Flt.infB; rw [Flt.rg_opp, Bool.not_not]
  have E := Lib.hid e1
  clear e1
  rw [E.out]
  go_enter Tryd.func34, Tryd.ntmps34
  go_wp2
  go_ret
  exact ⟨by rw [← Flt.order_max]; rfl, rfl⟩

theorem nan_zero : ¬ Flt.Nan 0 := by unfold Flt.Nan Flt.rg; rw [Flt.inf_eq]; omega
theorem sv_zero : Flt.sv 0 = 0 := Flt.sv_zero_iff.2 rfl
theorem eq_zero {x : Nat} (h : Flt.nanB x = false) : (Ieee.double.order x 0 == some .eq) = decide (Flt.rg x = 0) := by
  have hx : ¬ Flt.Nan x := fun k => by rw [Flt.nanB_iff.2 k] at h; cases h
  rw [Flt.eq_spec hx nan_zero, sv_zero]
  congr 1
  rw [eq_iff_iff]
  exact Flt.sv_zero_iff
theorem gt_zero {x : Nat} (h : Flt.nanB x = false) (h0 : Flt.rg x ≠ 0) : (Ieee.double.order x 0 == some .gt) = !Flt.sgn x := by
  have hx : ¬ Flt.Nan x := fun k => by rw [Flt.nanB_iff.2 k] at h; cases h
  rw [Flt.gt_spec hx nan_zero, sv_zero]
  have hv : 0 < Flt.val (Flt.rg x) := by have := Flt.le_val (Flt.rg x); omega
  unfold Flt.sv
  cases Flt.sgn x
  · simp <;> omega
  · simp <;> omega

set_option maxHeartbeats 3200000 in
theorem rnd_next_any (x : Nat) (hx : x < 2 ^ 64) (up : Bool) (w : World) : Calls Tryd.prog 16 #[.float .f64 x, .bool up] w fun e w' => e = .returned (.float .f64 (nxt x up)) ∧ w = w' := by
  cases hn : Flt.nanB x with
  | true =>
    have hv : Hid (nxt x up = x) := Lib.hid (by unfold nxt; rw [hn]; rfl)
    rw [hv.out]
    go_enter Tryd.func16, Tryd.ntmps16
    go_wp2_with (go_at_call 14; refine (isNaN_any _ _).mono ?_; rintro e w' ⟨rfl, rfl⟩; rw [hn])
    go_ret
    exact ⟨rfl, rfl⟩
  | false =>
    have ho := eq_zero hn
    by_cases h0 : Flt.rg x = 0
    · rw [decide_eq_true h0] at ho
      cases up with
      | true =>
        have hv : Hid (nxt x true = 1) := Lib.hid (by unfold nxt; rw [hn]; simp [h0])
        rw [hv.out]
        clear h0
        go_enter Tryd.func16, Tryd.ntmps16
        go_wp2_with (go_at_call 14; refine (isNaN_any _ _).mono ?_; rintro e w' ⟨rfl, rfl⟩; rw [hn])
        go_ret
        exact ⟨rfl, rfl⟩
      | false =>
        have hv : Hid (nxt x false = 2 ^ 63 + 1) := Lib.hid (by unfold nxt; rw [hn]; simp [h0])
        rw [hv.out]
        clear h0
        go_enter Tryd.func16, Tryd.ntmps16
        go_wp2_with (go_at_call 14; refine (isNaN_any _ _).mono ?_; rintro e w' ⟨rfl, rfl⟩; rw [hn])
        go_ret
        exact ⟨rfl, rfl⟩
    · rw [decide_eq_false h0] at ho
      have hg := gt_zero hn h0
      have hxr : x ≤ 2 ^ 63 + Flt.inf := by
        have : ¬ Flt.inf < Flt.rg x := by unfold Flt.nanB at hn; exact of_decide_eq_false hn
        unfold Flt.rg at this; rw [Flt.inf_eq] at this ⊢; omega
      have hx0 : 0 < x := by rcases Nat.eq_zero_or_pos x with h | h; · subst h; exact absurd rfl h0
                             · exact h
      have e1 : IntKind.u64.wrap ((x : Int) + 1) = (x : Int) + 1 := IntWalk.u64_in _ (by rw [Flt.inf_eq] at hxr; omega)
      have e2 : IntKind.u64.wrap ((x : Int) - 1) = (x : Int) - 1 := IntWalk.u64_in _ (by omega)
      have t1 : Hid (((x : Int) + 1).toNat = x + 1) := Lib.hid (by omega)
      have t2 : Hid (((x : Int) - 1).toNat = x - 1) := Lib.hid (by omega)
      have hnx : ∀ up, nxt x up = if Flt.infB x && (Flt.sgn x != up) then x else if (!Flt.sgn x) == up then x + 1 else x - 1 := by
        intro up; unfold nxt; rw [hn, if_neg (by simp), if_neg h0]
      have hv := hnx up
      clear hnx
      cases hi : Flt.infB x <;> cases hs : Flt.sgn x <;> cases up <;>
      (rw [hi, hs] at hv
       have HV := Lib.hid hv
       rw [hs] at hg
       clear hv hxr h0
       go_enter Tryd.func16, Tryd.ntmps16
       go_wp2_with (first | (go_at_call 14; refine (isNaN_any _ _).mono ?_; rintro e w' ⟨rfl, rfl⟩; rw [hn]) | (go_at_call 34; (with_reducible refine (isInf1_any x _).mono ?_); rintro e w' ⟨rfl, rfl⟩; rw [hi, hs]) | (go_at_call 34; (with_reducible refine (isInf2_any x hx _).mono ?_); rintro e w' ⟨rfl, rfl⟩; rw [hi, hs]))
       go_ret
       refine ⟨?_, rfl⟩
       first
         | (rw [HV.out]; rfl)
         | (rw [HV.out]; show Ending.returned (.float .f64 ((x : Int) + 1).toNat) = _; rw [t1.out]; rfl)
         | (rw [HV.out]; show Ending.returned (.float .f64 ((x : Int) - 1).toNat) = _; rw [t2.out]; rfl))
end Go.Proofs.YtjcjphgpmpjmbaaDoor

/-! Floats, rounded down and up (round): sums and differences. -/
namespace Go.Proofs.YtjcjphgpmpjmbaaDoor
open Go.RowKit

def RetPair (W : World) (p : Nat → Nat → Prop) (e : Ending) (w' : World) : Prop :=
  ∃ d u, e = .returned (.tuple #[.float .f64 d, .float .f64 u]) ∧ p d u ∧ Below W.heap.size W w'

theorem cmp_zero {x : Nat} (h : ¬ Flt.Nan x) : (Ieee.double.order x 0 == some .gt) = decide (0 < Flt.sv x) ∧ (Ieee.double.order x 0 == some .lt) = decide (Flt.sv x < 0) := by
  rw [Flt.gt_spec h nan_zero, Flt.lt_spec h nan_zero, sv_zero]
  exact ⟨rfl, rfl⟩

set_option maxHeartbeats 800000 in
theorem rnd_at_any (own l : Nat) (ho : own < 2 ^ 64) (hl : ¬ Flt.Nan l) (w : World) : Calls Tryd.prog 47 #[.float .f64 own, .float .f64 l] w fun e w' => e = .returned (.tuple #[.float .f64 (atd own (Flt.sv l)).1, .float .f64 (atd own (Flt.sv l)).2]) ∧ w = w' := by
  obtain ⟨c1, c2⟩ := cmp_zero hl
  by_cases h1 : 0 < Flt.sv l
  · have hv : Hid (atd own (Flt.sv l) = (own, nxt own true)) := Lib.hid (by unfold atd; rw [if_pos h1])
    rw [hv.out, decide_eq_true h1] at *
    clear c2 h1 hl
    go_enter Tryd.func47, Tryd.ntmps47
    go_wp2_with (go_at_call 16; refine (rnd_next_any _ ho _ _).mono ?_; rintro e w' ⟨rfl, rfl⟩)
    go_ret2
    exact ⟨rfl, rfl⟩
  · rw [decide_eq_false h1] at c1
    by_cases h2 : Flt.sv l < 0
    · have hv : Hid (atd own (Flt.sv l) = (nxt own false, own)) := Lib.hid (by unfold atd; rw [if_neg h1, if_pos h2])
      rw [hv.out]
      rw [decide_eq_true h2] at c2
      clear h1 h2 hl
      go_enter Tryd.func47, Tryd.ntmps47
      go_wp2_with (go_at_call 16; refine (rnd_next_any _ ho _ _).mono ?_; rintro e w' ⟨rfl, rfl⟩)
      go_ret2
      exact ⟨rfl, rfl⟩
    · have hv : Hid (atd own (Flt.sv l) = (own, own)) := Lib.hid (by unfold atd; rw [if_neg h1, if_neg h2])
      rw [hv.out]
      rw [decide_eq_false h2] at c2
      clear h1 h2 hl
      go_enter Tryd.func47, Tryd.ntmps47
      go_wp2
      go_ret2
      exact ⟨rfl, rfl⟩

end Go.Proofs.YtjcjphgpmpjmbaaDoor
