/-
  RoundBeside: the law's walk.
-/
import Derived.Test.YthddodhcpfponaaTurnL
namespace Go.Proofs.Ythddodhcpfponaa
open Go.RowKit

set_option maxHeartbeats 1600000 in
theorem law_beside (d u o : Nat) (hd : d < 2 ^ 64) (hu : u < 2 ^ 64) (h : Beside d u o) (w : World) : Calls Try.prog 32 #[.float .f64 d, .float .f64 u, .float .f64 o] w fun e' w' => e' = .returned (.bool true) ∧ w = w' := by
  rcases h with ⟨h1, h2, h3⟩ | ⟨h1, h2, h3, h4, h5⟩
  · have n1 := nanB_of h1
    have n2 := nanB_of h2
    have n3 := nanB_of h3
    clear h1 h2 h3
    go_enter Try.func32, Try.ntmps32
    go_wp2_with (go_at_call 64; refine (isNaN_any _ _).mono ?_; rintro e' w' ⟨rfl, rfl⟩; (first | rw [n1] | rw [n2] | rw [n3]))
    go_ret
    exact ⟨rfl, rfl⟩
  · have n1 := nanB_not h1
    have n2 := nanB_not h2
    have n3 := nanB_not h3
    have c1 := Flt.eq_spec h3 h1
    have c2 := Flt.eq_spec h3 h2
    have c3 := Flt.eq_spec h1 h2
    have c4 := Flt.lt_spec h1 h2
    by_cases q1 : Flt.sv o = Flt.sv d
    · rw [decide_eq_true q1] at c1
      clear c2 h4
      by_cases q2 : Flt.sv d = Flt.sv u
      · rw [decide_eq_true q2] at c3
        clear h5 h1 h2 h3 q1 q2 c4
        go_enter Try.func32, Try.ntmps32
        go_wp2_with (go_at_call 64; refine (isNaN_any _ _).mono ?_; rintro e' w' ⟨rfl, rfl⟩; (first | rw [n1] | rw [n2] | rw [n3]))
        go_ret
        exact ⟨rfl, rfl⟩
      · rw [decide_eq_false q2] at c3
        obtain ⟨k1, k2, k3, k4, k5⟩ : Flt.sv d < Flt.sv u ∧ ¬ Flt.Nan (nxt d true) ∧ Flt.sv (nxt d true) = Flt.sv u ∧ ¬ Flt.Nan (nxt u false) ∧ Flt.sv (nxt u false) = Flt.sv d := by
          rcases h5 with h5 | h5
          · exact absurd h5 q2
          · exact h5
        rw [decide_eq_true k1] at c4
        have c5 := Flt.eq_spec k2 h2
        have c6 := Flt.eq_spec k4 h1
        rw [decide_eq_true k3] at c5
        rw [decide_eq_true k5] at c6
        clear h5 h1 h2 h3 q1 q2 k1 k2 k3 k4 k5
        go_enter Try.func32, Try.ntmps32
        go_wp2_with (first | (go_at_call 64; refine (isNaN_any _ _).mono ?_; rintro e' w' ⟨rfl, rfl⟩; (first | rw [n1] | rw [n2] | rw [n3])) | (go_at_call 23; (with_reducible refine (rnd_next_any d hd true _).mono ?_); rintro e' w' ⟨rfl, rfl⟩) | (go_at_call 23; (with_reducible refine (rnd_next_any u hu false _).mono ?_); rintro e' w' ⟨rfl, rfl⟩))
        go_ret
        exact ⟨rfl, rfl⟩
    · rw [decide_eq_false q1] at c1
      have q3 : Flt.sv o = Flt.sv u := by
        rcases h4 with h4 | h4
        · exact absurd h4 q1
        · exact h4
      rw [decide_eq_true q3] at c2
      have q2 : ¬ Flt.sv d = Flt.sv u := fun h => q1 (q3.trans h.symm)
      rw [decide_eq_false q2] at c3
      obtain ⟨k1, k2, k3, k4, k5⟩ : Flt.sv d < Flt.sv u ∧ ¬ Flt.Nan (nxt d true) ∧ Flt.sv (nxt d true) = Flt.sv u ∧ ¬ Flt.Nan (nxt u false) ∧ Flt.sv (nxt u false) = Flt.sv d := by
        rcases h5 with h5 | h5
        · exact absurd h5 q2
        · exact h5
      rw [decide_eq_true k1] at c4
      have c5 := Flt.eq_spec k2 h2
      have c6 := Flt.eq_spec k4 h1
      rw [decide_eq_true k3] at c5
      rw [decide_eq_true k5] at c6
      clear h4 h5 h1 h2 h3 q1 q2 q3 k1 k2 k3 k4 k5
      go_enter Try.func32, Try.ntmps32
      go_wp2_with (first | (go_at_call 64; refine (isNaN_any _ _).mono ?_; rintro e' w' ⟨rfl, rfl⟩; (first | rw [n1] | rw [n2] | rw [n3])) | (go_at_call 23; (with_reducible refine (rnd_next_any d hd true _).mono ?_); rintro e' w' ⟨rfl, rfl⟩) | (go_at_call 23; (with_reducible refine (rnd_next_any u hu false _).mono ?_); rintro e' w' ⟨rfl, rfl⟩))
      go_ret
      exact ⟨rfl, rfl⟩

theorem IsRoot.lt {x d u : Nat} (h : IsRoot x d u) : d < 2 ^ 64 ∧ u < 2 ^ 64 := by
  by_cases hp : Pos x
  · obtain ⟨r, h1, rfl, rfl⟩ := h.2 hp
    have := h1.1
    have hi := Flt.inf_lt
    exact ⟨by omega, by split <;> omega⟩
  · obtain ⟨z, h1, rfl, rfl⟩ := h.1 hp
    exact ⟨h1.1, h1.1⟩

theorem upon_fop {P : Program} {w : World} {o : Oper} {a : Act} {next : Act → World → Prop} {Q : Exit → Act → World → Prop} {t : TypeId} {x y : Nat} (op : BinOp) (f : Nat → Nat → Option Nat)
    (hf : (op = .add ∧ f = Ieee.double.add) ∨ (op = .sub ∧ f = Ieee.double.sub) ∨ (op = .mul ∧ f = Ieee.double.mul) ∨ (op = .quo ∧ f = Ieee.double.div))
    (hK : ∀ z n, IsOp f x y z → next (a.put o.dst (.float .f64 z)) (w.drewN n)) :
    o.upon P a next Q (((binOp op t (.float .f64 x) (.float .f64 y)).run P w).andThen fun v w' => .ok (.value v) w') := by
  obtain ⟨z, n, hrun, hz⟩ := run_fop (P := P) w op f hf t x y
  rw [hrun]
  exact hK z n hz

set_option maxRecDepth 100000 in
set_option maxHeartbeats 4000000 in
theorem law_roundBeside (x y : Nat) (hx : x < 2 ^ 64) (hy : y < 2 ^ 64) (w : World) : Calls Try.prog 8 #[.float .f64 x, .float .f64 y] w fun e w' => e = .returned (.bool true) ∧ Below w.heap.size w w' := by
  go_enter Try.func8, Try.ntmps8
  go_wp2_with fail
  refine (law_alive _).mono ?_
  rintro e0 w0 ⟨rfl, hb0⟩
  go_wp2_with fail
  refine (rnd_add_any x y hx hy _).mono ?_
  rintro e1 w1 ⟨d1, u1, rfl, h1, hb1⟩
  have H1 := Lib.hid h1
  have hbw1 := below_next hb0 hb1
  clear h1 hb1 hb0
  go_wp2_with fail
  refine (rnd_sub_any x y hx hy _).mono ?_
  rintro e2 w2 ⟨d2, u2, rfl, h2, hb2⟩
  have H2 := Lib.hid h2
  have hbw2 := below_next hbw1 hb2
  clear h2 hb2 hbw1
  go_wp2_with fail
  refine (rnd_mul_any x y hx hy _).mono ?_
  rintro e3 w3 ⟨d3, u3, rfl, h3, hb3⟩
  have H3 := Lib.hid h3
  have hbw3 := below_next hbw2 hb3
  clear h3 hb3 hbw2
  go_wp2_with fail
  refine (rnd_quo_any x y hx hy _).mono ?_
  rintro e4 w4 ⟨d4, u4, rfl, h4, hb4⟩
  have H4 := Lib.hid h4
  have hbw4 := below_next hbw3 hb4
  clear h4 hb4 hbw3
  go_wp2_with fail
  refine (rnd_sqrt_any x hx _).mono ?_
  rintro e5 w5 ⟨d5, u5, rfl, h5, hb5⟩
  have H5 := Lib.hid h5
  have hbw5 := below_next hbw4 hb5
  clear h5 hb5 hbw4
  go_wp2_with fail
  refine upon_fop .add _ (.inl ⟨rfl, rfl⟩) ?_
  intro o1 k1 ho1
  have B1 := Lib.hid (sum_beside H1.out ho1)
  clear ho1
  go_wp2_with fail
  refine (law_beside d1 u1 o1 H1.out.lt.1 H1.out.lt.2 B1.out _).mono ?_
  rintro e6 w6 ⟨rfl, rfl⟩
  go_wp2_with fail
  refine upon_fop .sub _ (.inr (.inl ⟨rfl, rfl⟩)) ?_
  intro o2 k2 ho2
  have B2 := Lib.hid (sum_beside H2.out (isSub_add ho2))
  clear ho2
  go_wp2_with fail
  refine (law_beside d2 u2 o2 H2.out.lt.1 H2.out.lt.2 B2.out _).mono ?_
  rintro e6 w6 ⟨rfl, rfl⟩
  go_wp2_with fail
  refine upon_fop .mul _ (.inr (.inr (.inl ⟨rfl, rfl⟩))) ?_
  intro o3 k3 ho3
  have B3 := Lib.hid (prod_beside H3.out ho3)
  clear ho3
  go_wp2_with fail
  refine (law_beside d3 u3 o3 (IsPair.lt H3.out).1 (IsPair.lt H3.out).2 B3.out _).mono ?_
  rintro e6 w6 ⟨rfl, rfl⟩
  go_wp2_with fail
  refine upon_fop .quo _ (.inr (.inr (.inr ⟨rfl, rfl⟩))) ?_
  intro o4 k4 ho4
  have B4 := Lib.hid (div_beside H4.out ho4)
  clear ho4
  go_wp2_with fail
  refine (law_beside d4 u4 o4 (IsPair.lt H4.out).1 (IsPair.lt H4.out).2 B4.out _).mono ?_
  rintro e6 w6 ⟨rfl, rfl⟩
  go_wp2_with fail
  refine (sqrt_any x _).mono ?_
  rintro e7 w7 ⟨o5, k5, rfl, ho5, rfl⟩
  have B5 := Lib.hid (root_beside H5.out ho5 hx)
  clear ho5
  go_wp2_with fail
  refine (law_beside d5 u5 o5 H5.out.lt.1 H5.out.lt.2 B5.out _).mono ?_
  rintro e6 w6 ⟨rfl, rfl⟩
  go_wp2_with fail
  go_ret
  refine ⟨rfl, ?_⟩
  first
    | exact below_drewN hbw5 _
    | exact below_drewN (below_drewN (below_drewN (below_drewN (below_drewN hbw5 _) _) _) _) _
end Go.Proofs.Ythddodhcpfponaa
