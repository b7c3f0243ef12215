/-
  Floats, rounded down and up (round): finite; the sum and what it has lost.
-/
import Derived.Test.YthddodhcpfponaaRef4F
namespace Go.Proofs.Ythddodhcpfponaa
open Go.RowKit

set_option maxHeartbeats 800000 in
theorem rnd_finite_row (g n : Nat) (l : List Nat) (w : World) (hl : l.length = n) (hn : n ≤ 1000) (hc : ∀ k (h : k < l.length), w.cell? ⟨g, k, none⟩ = some (.float .f64 l[k]) ∧ l[k] < 2 ^ 64) :
    Calls Try.prog 35 #[.slice (some ⟨g, 0, none⟩) n n] w fun e w' => e = .returned (.bool (l.all Flt.finB)) ∧ w = w' := by
  have HC := Lib.hid hc
  have HL := Lib.hid hl
  clear hc hl
  go_enter Try.func35, Try.ntmps35
  go_wp2
  go_loop [4, 7] (fun v i => ∃ k : Nat, k ≤ n ∧ i = .int .i64 k ∧ Hid ((l.take k).all Flt.finB = true)) (fun _ i => n - (intOf i).toNat)
  case atStart => exact ⟨0, by omega, rfl, by rw [List.take_zero]; exact rfl⟩
  case round =>
    obtain ⟨k, hk, rfl, hrel⟩ := hrel
    by_cases h0 : k < n
    · have hkl : k < l.length := by have := HL.out; omega
      obtain ⟨hx, hx64⟩ := HC.out k hkl
      have hd : ((k : Int) < (n : Int)) := by omega
      have htk : l.take (k + 1) = l.take k ++ [l[k]] := List.take_succ_eq_append_getElem hkl
      have HTK := Lib.hid htk
      clear htk
      cases h1 : Flt.nanB l[k] with
      | true =>
        have hfin : Hid (l.all Flt.finB = false) := by
          have : Flt.finB l[k] = false := by rw [Flt.finB_eq, h1]; rfl
          refine Lib.hid (List.all_eq_false.2 ⟨l[k], List.getElem_mem hkl, by rw [this]; decide⟩)
        go_wp2_with (first | (go_at_call 64; refine (isNaN_any _ _).mono ?_; rintro e w' ⟨rfl, rfl⟩; rw [h1]) | (go_at_call 66; refine (isInf0_any _ hx64 _).mono ?_; rintro e w' ⟨rfl, rfl⟩))
        go_ret
        exact ⟨by rw [hfin.out]; rfl, rfl⟩
      | false =>
        cases h2 : Flt.infB l[k] with
        | true =>
          have hfin : Hid (l.all Flt.finB = false) := by
            have : Flt.finB l[k] = false := by rw [Flt.finB_eq, h1, h2]; rfl
            refine Lib.hid (List.all_eq_false.2 ⟨l[k], List.getElem_mem hkl, by rw [this]; decide⟩)
          go_wp2_with (first | (go_at_call 64; refine (isNaN_any _ _).mono ?_; rintro e w' ⟨rfl, rfl⟩; rw [h1]) | (go_at_call 66; refine (isInf0_any _ hx64 _).mono ?_; rintro e w' ⟨rfl, rfl⟩; rw [h2]))
          go_ret
          exact ⟨by rw [hfin.out]; rfl, rfl⟩
        | false =>
          have hfin : Flt.finB l[k] = true := by rw [Flt.finB_eq, h1, h2]; rfl
          have HF := Lib.hid hfin
          clear hfin
          go_wp2_with (first | (go_at_call 64; refine (isNaN_any _ _).mono ?_; rintro e w' ⟨rfl, rfl⟩; rw [h1]) | (go_at_call 66; refine (isInf0_any _ hx64 _).mono ?_; rintro e w' ⟨rfl, rfl⟩; rw [h2]))
          refine ⟨⟨k + 1, by omega, by simp, ?_⟩, by simp [intOf]; omega⟩
          rw [HTK.out, List.all_append, hrel.out]
          exact Lib.hid (by simp [HF.out])
    · obtain rfl : k = n := by omega
      have hd : ¬ ((k : Int) < (k : Int)) := by omega
      have hfin : Hid (l.all Flt.finB = true) := by
        rw [← HL.out, List.take_length] at hrel; exact hrel
      go_wp2
      go_ret
      exact ⟨by rw [hfin.out]; rfl, rfl⟩

theorem rnd_finite_one (g x : Nat) (w : World) (hx : x < 2 ^ 64) (hc : w.cell? ⟨g, 0, none⟩ = some (.float .f64 x)) :
    Calls Try.prog 35 #[.slice (some ⟨g, 0, none⟩) 1 1] w fun e w' => e = .returned (.bool (Flt.finB x)) ∧ w = w' := by
  have := rnd_finite_row g 1 [x] w rfl (by decide) (fun k hk => by
    have : k = 0 := by simp at hk; omega
    subst this; exact ⟨hc, hx⟩)
  simpa using this
theorem rnd_finite_two (g x y : Nat) (w : World) (hx : x < 2 ^ 64) (hy : y < 2 ^ 64) (hc : w.cell? ⟨g, 0, none⟩ = some (.float .f64 x)) (hd : w.cell? ⟨g, 1, none⟩ = some (.float .f64 y)) :
    Calls Try.prog 35 #[.slice (some ⟨g, 0, none⟩) 2 2] w fun e w' => e = .returned (.bool (Flt.finB x && Flt.finB y)) ∧ w = w' := by
  have := rnd_finite_row g 2 [x, y] w rfl (by decide) (fun k hk => by
    have : k = 0 ∨ k = 1 := by simp at hk; omega
    rcases this with rfl | rfl
    · exact ⟨hc, hx⟩
    · exact ⟨hd, hy⟩)
  simpa using this

theorem upon_fsub {P : Program} {w : World} {o : Oper} {a : Act} {next : Act → World → Prop} {Q : Exit → Act → World → Prop} {t : TypeId} {x y : Nat}
    (hK : ∀ z n, IsOp Ieee.double.sub x y z → next (a.put o.dst (.float .f64 z)) (w.drewN n)) :
    o.upon P a next Q (((binOp .sub t (.float .f64 x) (.float .f64 y)).run P w).andThen fun v w' => .ok (.value v) w') := by
  obtain ⟨z, n, hrun, hz⟩ := run_fop (P := P) w .sub Ieee.double.sub (.inr (.inl ⟨rfl, rfl⟩)) t x y
  rw [hrun]
  exact hK z n hz

/-- What the subtraction of finite floats gives is a word, not NaN. -/
theorem sub_some {x y : Nat} (hx : Flt.Fin x) (hy : Flt.Fin y) : ∃ t, Ieee.double.sub x y = some t := by
  obtain ⟨z, h, _⟩ := Flt.add_fin hx (Flt.fin_opp.2 hy)
  exact ⟨z, by rw [Flt.sub_eq, h]⟩

theorem cell_new1 (w : World) (v : Value) (t : TypeId) : (w.alloc (.cells #[v] t)).cell? ⟨w.heap.size, 0, none⟩ = some v := by simp [go_sem]
theorem cell_new2 (w : World) (v u : Value) (t : TypeId) : (w.alloc (.cells #[v, u] t)).cell? ⟨w.heap.size, 0, none⟩ = some v ∧ (w.alloc (.cells #[v, u] t)).cell? ⟨w.heap.size, 1, none⟩ = some u := by constructor <;> simp [go_sem]

theorem add_comm_fin {x y s : Nat} (hx : Flt.Fin x) (hy : Flt.Fin y) (h : Ieee.double.add x y = some s) : Ieee.double.add y x = some s := by
  obtain ⟨z, hz, r, hzw, hn⟩ := Flt.add_fin hx hy
  obtain ⟨z', hz', r', hzw', hn'⟩ := Flt.add_fin hy hx
  rw [h] at hz
  injection hz with hz
  subst hz
  rw [Int.add_comm] at hn' hzw'
  have : r' = r := Flt.Near.unique (by decide) hn' hn
  rw [hz', hzw', hzw, this, Bool.and_comm]

/-- The program's way ends at a float. -/
theorem two_runs {x y s : Nat} (hs : Ieee.double.add x y = some s) (hsf : Flt.Fin s) (hle : Flt.rg y ≤ Flt.rg x) :
    ∃ t u l, Ieee.double.sub s x = some t ∧ Ieee.double.sub y t = some u ∧ Ieee.double.add u 0 = some l ∧ l < 2 ^ 64 ∧ Flt.Fin l ∧ Flt.sv l = Flt.sv x + Flt.sv y - Flt.sv s ∧ (Flt.sv l = 0 → l = 0) := by
  obtain ⟨fx, fy⟩ := Flt.add_some_fin hs hsf
  obtain ⟨t, ht, r, htw, hn⟩ := Flt.add_fin hsf (Flt.fin_opp.2 fx)
  have hr : Flt.rg t = r := by rw [htw]; exact Flt.rg_word _ _ (Flt.near_lt hn)
  have hrl : r ≤ Flt.inf := hn.1
  have hu : ∃ u, Ieee.double.sub y t = some u := by
    rw [Flt.sub_eq]
    rcases Nat.lt_or_ge r Flt.inf with h | h
    · obtain ⟨u, hu, _⟩ := Flt.add_fin fy (Flt.fin_opp.2 (show Flt.Fin t by unfold Flt.Fin; omega))
      exact ⟨u, hu⟩
    · exact ⟨_, Flt.add_inf_right fy (by rw [Flt.rg_opp]; omega)⟩
  obtain ⟨u, hu⟩ := hu
  have ht' : Ieee.double.sub s x = some t := by rw [Flt.sub_eq]; exact ht
  obtain ⟨l, h1, h2⟩ := Flt.two_way hs hsf hle ht' hu
  exact ⟨t, u, l, ht', hu, h1, h2⟩

theorem isOp_some {x y s : Nat} (h : IsOp Ieee.double.add x y s) (hf : Flt.Fin s) : Ieee.double.add x y = some s := by
  obtain ⟨_, h2⟩ := h
  cases e : Ieee.double.add x y with
  | some t => rw [e] at h2; exact congrArg some h2.symm
  | none => rw [e] at h2; exact absurd hf (Flt.not_fin_nan h2)

set_option maxHeartbeats 1600000 in
theorem rnd_two_any (x y : Nat) (hx : x < 2 ^ 64) (hy : y < 2 ^ 64) (w : World) : Calls Try.prog 10 #[.float .f64 x, .float .f64 y] w (RetTwo4 w x y) := by
  go_enter Try.func10, Try.ntmps10
  go_wp2_with fail
  refine upon_fadd ?_
  intro s d hs
  have hs64 : s < 2 ^ 64 := hs.1
  have HA := Lib.hid hs
  clear hs
  cases hf : Flt.finB s with
  | false =>
    have hfs := Lib.hid (Flt.finB_false.1 hf)
    have HF := Lib.hid hf
    clear hf
    go_wp2_with fail
    refine (rnd_finite_one w.heap.size s _ hs64 (cell_new1 (w.drewN d) _ _)).mono ?_
    rintro e1 w1 ⟨rfl, rfl⟩
    rw [HF.out]
    go_wp2_with fail
    go_ret2
    exact ⟨_, _, rfl, two_zero HA.out (fun h => absurd h hfs.out), (below_drewN (Below.refl _ _) d).alloc (Nat.le_refl _) _⟩
  | true =>
    have hsf : Flt.Fin s := Flt.finB_iff.1 hf
    have hsum := isOp_some HA.out hsf
    obtain ⟨fx, fy⟩ := Flt.add_some_fin hsum hsf
    have ho : (Ieee.double.order (Flt.rg x) (Flt.rg y) == some .lt) = decide (Flt.rg x < Flt.rg y) := by
      have nx : ¬ Flt.Nan (Flt.rg x) := by unfold Flt.Nan; rw [Flt.rg_abs]; unfold Flt.Fin at fx; omega
      have ny : ¬ Flt.Nan (Flt.rg y) := by unfold Flt.Nan; rw [Flt.rg_abs]; unfold Flt.Fin at fy; omega
      rw [Flt.lt_spec nx ny, Flt.sv_rg, Flt.sv_rg]
      congr 1
      rw [eq_iff_iff]
      constructor
      · intro h; exact Flt.lt_of_val (by omega)
      · intro h; have := Flt.val_lt h; omega
    have HF := Lib.hid hf
    have hxr : Flt.rg x < 2 ^ 64 := by unfold Flt.rg; omega
    have hyr : Flt.rg y < 2 ^ 64 := by unfold Flt.rg; omega
    by_cases hlt : Flt.rg x < Flt.rg y
    · obtain ⟨t, u, l, r1, r2, r3, l1, l2, l3, l4⟩ := two_runs (add_comm_fin fx fy hsum) hsf (Nat.le_of_lt hlt)
      have hr1 : ∀ W : World, (binOp .sub 22 (.float .f64 s) (.float .f64 y)).run Try.prog W = .ok (.float .f64 t) W := fun W => run_float_arith W .sub _ .f64 s y _ r1
      have hr2 : ∀ W : World, (binOp .sub 22 (.float .f64 x) (.float .f64 t)).run Try.prog W = .ok (.float .f64 u) W := fun W => run_float_arith W .sub _ .f64 x t _ r2
      have hr3 : ∀ W : World, (binOp .add 22 (.float .f64 u) (.float .f64 0)).run Try.prog W = .ok (.float .f64 l) W := fun W => run_float_arith W .add _ .f64 u 0 _ r3
      have HT : Hid (Flt.IsTwo x y s l) := Lib.hid ⟨HA.out, l1, fun _ => ⟨l2, by rw [l3, Int.add_comm], l4⟩, fun h => absurd hsf h⟩
      rw [decide_eq_true hlt] at ho
      clear r1 r2 r3 l1 l2 l3 l4 hsum fx fy hsf hf hlt
      go_wp2_with fail
      refine (rnd_finite_one w.heap.size s _ hs64 (cell_new1 (w.drewN d) _ _)).mono ?_
      rintro e1 w1 ⟨rfl, rfl⟩
      rw [HF.out]
      go_wp2_with (first | (go_at_call 36; (with_reducible refine (abs_any x hx _).mono ?_); rintro e2 w2 ⟨rfl, rfl⟩) | (go_at_call 36; (with_reducible refine (abs_any y hy _).mono ?_); rintro e2 w2 ⟨rfl, rfl⟩))
      go_ret2
      exact ⟨_, _, rfl, HT.out, (below_drewN (Below.refl _ _) d).alloc (Nat.le_refl _) _⟩
    · obtain ⟨t, u, l, r1, r2, r3, l1, l2, l3, l4⟩ := two_runs hsum hsf (by omega)
      have hr1 : ∀ W : World, (binOp .sub 22 (.float .f64 s) (.float .f64 x)).run Try.prog W = .ok (.float .f64 t) W := fun W => run_float_arith W .sub _ .f64 s x _ r1
      have hr2 : ∀ W : World, (binOp .sub 22 (.float .f64 y) (.float .f64 t)).run Try.prog W = .ok (.float .f64 u) W := fun W => run_float_arith W .sub _ .f64 y t _ r2
      have hr3 : ∀ W : World, (binOp .add 22 (.float .f64 u) (.float .f64 0)).run Try.prog W = .ok (.float .f64 l) W := fun W => run_float_arith W .add _ .f64 u 0 _ r3
      have HT : Hid (Flt.IsTwo x y s l) := Lib.hid ⟨HA.out, l1, fun _ => ⟨l2, l3, l4⟩, fun h => absurd hsf h⟩
      rw [decide_eq_false hlt] at ho
      clear r1 r2 r3 l1 l2 l3 l4 hsum fx fy hsf hf hlt
      go_wp2_with fail
      refine (rnd_finite_one w.heap.size s _ hs64 (cell_new1 (w.drewN d) _ _)).mono ?_
      rintro e1 w1 ⟨rfl, rfl⟩
      rw [HF.out]
      go_wp2_with (first | (go_at_call 36; (with_reducible refine (abs_any x hx _).mono ?_); rintro e2 w2 ⟨rfl, rfl⟩) | (go_at_call 36; (with_reducible refine (abs_any y hy _).mono ?_); rintro e2 w2 ⟨rfl, rfl⟩))
      go_ret2
      exact ⟨_, _, rfl, HT.out, (below_drewN (Below.refl _ _) d).alloc (Nat.le_refl _) _⟩
end Go.Proofs.Ythddodhcpfponaa
