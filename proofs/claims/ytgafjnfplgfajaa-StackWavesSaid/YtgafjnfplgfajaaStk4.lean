/-
  Films by floats: the program's waves (stack.Waves, film, its functions of a sheet).
-/
import Derived.Test.YtgafjnfplgfajaaStk3
import Derived.Deep.RegionHeld3
namespace Go.Proofs.Ytgafjnfplgfajaa
open Go.RowKit

theorem array_set_same {α : Type} (a : Array α) (i : Nat) (v : α) (h : a[i]? = some v) : a.setIfInBounds i v = a := by
  apply Array.ext_getElem?
  intro j
  rw [Array.getElem?_setIfInBounds]
  split
  · rename_i e
    subst e
    split
    · exact h.symm
    · rename_i hl
      rw [Array.getElem?_eq_none (by omega)] at h
      cases h
  · rfl
/-- A store of what a cell holds turns nothing. -/
theorem setCell_same {w : World} {g j : Nat} {v : Value} (h : w.cell? ⟨g, j, none⟩ = some v) : w.setCell ⟨g, j, none⟩ v = w := by
  unfold World.setCell
  have e : (w.heap.modify g fun
      | .cells c elem frozen => .cells (if (none : Option Nat).isSome then c else c.setIfInBounds j v) elem frozen
      | o => o) = w.heap := by
    apply Array.ext_getElem?
    intro i
    rw [Array.getElem?_modify]
    split
    · rename_i e
      subst e
      unfold World.cell? at h
      simp only at h
      cases hg : w.heap[g]? with
      | none => rfl
      | some o =>
        rw [hg] at h
        cases o with
        | cells c t fr =>
          simp at h
          simp only [Option.map_some, Option.isSome_none, Bool.false_eq_true, if_false]
          rw [array_set_same c j v h]
        | _ => cases h
    · rfl
  show ({ w with heap := _ } : World) = w
  exact congrArg (fun hp => ({ w with heap := hp } : World)) e
set_option maxRecDepth 100000 in
set_option maxHeartbeats 1600000 in
theorem waves2_any (N : Nat) (K : Int) (T b : Nat) (hT : T ≤ 16) (w : World) (hc : w.cell? ⟨b, 0, none⟩ = some (.int .i64 0)) (hf : w.frozen? ⟨b, 0, none⟩ = false) (hb : b < w.heap.size) :
    Calls Try.prog 25 #[.agg #[.float .f64 N, .int .i64 K, .int .i64 (T : Int)], .pointer (some ⟨b, 0, none⟩)] w
      fun e w' => e = .returned (.tuple #[.complex .f64 (uF (jF K T)).1 0, .complex .f64 0 (uF (jF K T)).2]) ∧ Below w.heap.size w w' := by
  have n1 : ¬ b = w.heap.size := by omega
  have n2 : ¬ w.heap.size = b := by omega
  go_enter Try.func25, Try.ntmps25
  go_wp2_with fail
  refine (unit_ok K T hT _).mono ?_
  rintro e1 w1 ⟨rfl, hb1⟩
  obtain ⟨c1, f1⟩ := bcell hb1
  have hc1 : w1.cell? ⟨b, 0, none⟩ = some (.int .i64 0) := (c1 _ _ (by simp <;> omega)).trans (cell_alloc _ _ hb hc)
  have hf1 : w1.frozen? ⟨b, 0, none⟩ = false := (f1 _ _ (by simp <;> omega)).trans ((frozen_alloc _ hb).trans hf)
  have hB := below_box hb1
  clear hb1 c1 f1
  go_wp2_with fail
  rw [setCell_same hc1]
  go_ret2
  exact ⟨rfl, hB⟩

theorem waves2_of (N : Nat) (K : Int) (T b U1 U2 : Nat) (hT : T ≤ 16) (w : World) (hc : w.cell? ⟨b, 0, none⟩ = some (.int .i64 0)) (hf : w.frozen? ⟨b, 0, none⟩ = false) (hb : b < w.heap.size) (hU : Hid (uF (jF K T) = (U1, U2))) :
    Calls Try.prog 25 #[.agg #[.float .f64 N, .int .i64 K, .int .i64 (T : Int)], .pointer (some ⟨b, 0, none⟩)] w
      fun e w' => e = .returned (.tuple #[.complex .f64 U1 0, .complex .f64 0 U2]) ∧ Below w.heap.size w w' := by
  refine (waves2_any N K T b hT w hc hf hb).mono fun e w' h => ⟨?_, h.2⟩
  rw [h.1, hU.out]

/-! ### the waves, step by step -/
/-- The steps that a film is reckoned with lie in block G. -/
def FilmS (G b : Nat) (w' : World) : Prop :=
  w'.cell? ⟨G, 0, none⟩ = some (.func (.func 24) #[] #[]) ∧ w'.cell? ⟨G, 1, none⟩ = some (.func (.func 25) #[] #[.pointer (some ⟨b, 0, none⟩)]) ∧
  w'.cell? ⟨G, 2, none⟩ = some (.func (.func 27) #[] #[]) ∧ w'.cell? ⟨G, 3, none⟩ = some (.func (.func 28) #[] #[]) ∧
  w'.cell? ⟨G, 4, none⟩ = some (.func (.func 29) #[] #[]) ∧ w'.cell? ⟨G, 5, none⟩ = some (.func (.func 30) #[] #[])
theorem FilmS.below {G b : Nat} {wr w' : World} (h : FilmS G b wr) (hG : G < wr.heap.size) (hb : Below wr.heap.size wr w') : FilmS G b w' := by
  obtain ⟨c, _⟩ := bcell hb
  exact ⟨(c _ _ hG).trans h.1, (c _ _ hG).trans h.2.1, (c _ _ hG).trans h.2.2.1, (c _ _ hG).trans h.2.2.2.1, (c _ _ hG).trans h.2.2.2.2.1, (c _ _ hG).trans h.2.2.2.2.2⟩
def RetFilm (W : World) (P : Nat × Nat → Nat × Nat → Prop) (e : Ending) (w' : World) : Prop :=
  ∃ B T : Nat × Nat, e = .returned (.tuple #[.complex .f64 B.1 B.2, .complex .f64 T.1 T.2]) ∧ P B T ∧ Below W.heap.size W w'
set_option maxRecDepth 100000 in
set_option maxHeartbeats 8000000 in
theorem film_any (u v : Nat) (A : Option Addr) (n c b : Nat) (C : Nat → Coat) (w : World) (hC : Cs w A n C) (hn : n ≤ 64) (hok : Hid (∀ j, j < n → coatB (C j) = true))
    (hc0 : w.cell? ⟨b, 0, none⟩ = some (.int .i64 0)) (hf0 : w.frozen? ⟨b, 0, none⟩ = false) (hb0 : b < w.heap.size) :
    Calls Try.prog 23 #[.agg #[.func (.func 24) #[] #[], .func (.func 25) #[] #[.pointer (some ⟨b, 0, none⟩)], .func (.func 27) #[] #[], .func (.func 28) #[] #[], .func (.func 29) #[] #[], .func (.func 30) #[] #[]], .float .f64 u, .float .f64 v, .slice A n c] w (RetFilm w (FilmR u v n C)) := by
  have hG0 : w.heap.size < (w.alloc (.cells #[.func (.func 24) #[] #[], .func (.func 25) #[] #[.pointer (some ⟨b, 0, none⟩)], .func (.func 27) #[] #[], .func (.func 28) #[] #[], .func (.func 29) #[] #[], .func (.func 30) #[] #[]] 67)).heap.size := by simp
  have hS0 : FilmS w.heap.size b (w.alloc (.cells #[.func (.func 24) #[] #[], .func (.func 25) #[] #[.pointer (some ⟨b, 0, none⟩)], .func (.func 27) #[] #[], .func (.func 28) #[] #[], .func (.func 29) #[] #[], .func (.func 30) #[] #[]] 67)) := by
    refine ⟨?_, ?_, ?_, ?_, ?_, ?_⟩ <;> simp [go_sem]
  have hB0 : Below w.heap.size w (w.alloc (.cells #[.func (.func 24) #[] #[], .func (.func 25) #[] #[.pointer (some ⟨b, 0, none⟩)], .func (.func 27) #[] #[], .func (.func 28) #[] #[], .func (.func 29) #[] #[], .func (.func 30) #[] #[]] 67)) := (Below.refl _ _).alloc (Nat.le_refl _) _
  go_enter Try.func23, Try.ntmps23
  go_wp2_with fail
  generalize (w.alloc (.cells #[.func (.func 24) #[] #[], .func (.func 25) #[] #[.pointer (some ⟨b, 0, none⟩)], .func (.func 27) #[] #[], .func (.func 28) #[] #[], .func (.func 29) #[] #[], .func (.func 30) #[] #[]] 67)) = w0 at hG0 hS0 hB0 ⊢
  obtain ⟨q0, q1, q2, q3, q4, q5⟩ := hS0
  go_region_held3 (fun w' => w'.cell? ⟨w.heap.size, 0, none⟩ = some (.func (.func 24) #[] #[]))
    (go_keep)
    (first
      | (go_at_call 24; (with_reducible refine (waves1_any _ _).mono ?_); rintro e1 w1 ⟨rfl, rfl⟩))
  have hS0 : FilmS w.heap.size b w0.drew := ⟨q0, q1, q2, q3, q4, q5⟩
  have hG1 : w.heap.size < w0.drew.heap.size := hG0
  have hB1 : Below w.heap.size w w0.drew := ⟨hB0.os, hB0.tape, hB0.output, hB0.size, hB0.block⟩
  clear q0 q1 q2 q3 q4 q5 hG0 hB0
  generalize w0.drew = w1 at hS0 hG1 hB1 ⊢

  go_wp2_with fail
  go_loopw [10, 11, 12] (fun x y i wr => ∃ (j : Nat) (X Y : Nat × Nat), j ≤ n ∧ x = .complex .f64 X.1 X.2 ∧ y = .complex .f64 Y.1 Y.2 ∧ i = .int .i64 ((n : Int) - 1 - (j : Int)) ∧ Hid (FRun C n v j X Y) ∧ FilmS w.heap.size b wr ∧ w.heap.size < wr.heap.size ∧ Below w.heap.size w wr)
    (fun _ _ i _ => (intOf i + 1).toNat)
  case atStart => exact ⟨0, (4607182418800017408, 0), (v, 0), Nat.zero_le _, rfl, rfl, congrArg (Value.int .i64) (by omega), Lib.hid ⟨rfl, rfl⟩, hS0, hG1, hB1⟩
  case round =>
    clear hS0 hG1 hB1
    obtain ⟨j, ⟨x1, x2⟩, ⟨y1, y2⟩, hj, rfl, rfl, rfl, HR, hS, hG, hB⟩ := hrel
    obtain ⟨q0, q1, q2, q3, q4, q5⟩ := hS
    by_cases hjn : j = n
    · subst hjn
      go_wp2_with fail
      refine (waves1_any u _).mono ?_
      rintro e1 w2 ⟨rfl, rfl⟩
      go_wp2_with fail
      refine (cmul_any u 0 x1 x2 _).mono ?_
      rintro e2 w2 ⟨p1, p2, rfl, hp, k2, rfl⟩
      have HP := Lib.hid hp
      clear hp
      go_wp2_with fail
      refine (cplx_add_any p1 p2 y1 y2 _).mono ?_
      rintro e3 w3 ⟨s1, s2, rfl, hs, k3, rfl⟩
      have HSS := Lib.hid hs
      clear hs
      go_wp2_with fail
      go_region_held3 (fun w' => w'.cell? ⟨w.heap.size, 3, none⟩ = some (.func (.func 28) #[] #[]) ∧ w'.cell? ⟨w.heap.size, 5, none⟩ = some (.func (.func 30) #[] #[]))
        (first | exact ⟨q3, q5⟩ | go_keep)
        (first
          | (go_at_call 28; (with_reducible refine (cplx_sub_any p1 p2 y1 y2 _).mono ?_); rintro e4 w4 ⟨d1, d2, rfl, hd, k4, rfl⟩; have HD := Lib.hid hd; clear hd)
          | (go_at_call 30; (with_reducible refine (cplx_quo_any d1 d2 s1 s2 _).mono ?_); rintro e5 w5 ⟨b1, b2, rfl, hb', k5, rfl⟩; have HBB := Lib.hid hb'; clear hb'))
      go_wp2_with fail
      go_region_held3 (fun w' => w'.cell? ⟨w.heap.size, 2, none⟩ = some (.func (.func 27) #[] #[]) ∧ w'.cell? ⟨w.heap.size, 5, none⟩ = some (.func (.func 30) #[] #[]))
        (first | exact ⟨q2, q5⟩ | go_keep)
        (first
          | (go_at_call 27; (with_reducible refine (cplx_add_any u 0 u 0 _).mono ?_); rintro e6 w6 ⟨m1, m2, rfl, hm, k6, rfl⟩; have HM := Lib.hid hm; clear hm)
          | (go_at_call 30; (with_reducible refine (cplx_quo_any m1 m2 s1 s2 _).mono ?_); rintro e7 w7 ⟨t1, t2, rfl, ht, k7, rfl⟩; have HT := Lib.hid ht; clear ht))
      go_wp2_with fail
      go_ret2
      exact ⟨(b1, b2), (t1, t2), rfl, ⟨(x1, x2), (y1, y2), HR.out, (p1, p2), (s1, s2), (d1, d2), (m1, m2), HP.out, HSS.out, HD.out, HBB.out, HM.out, HT.out⟩, ⟨hB.os, hB.tape, hB.output, hB.size, hB.block⟩⟩
    · have hlt : j < n := by omega
      obtain ⟨k, hk⟩ : ∃ k : Nat, n = j + 1 + k := ⟨n - 1 - j, by omega⟩
      have hi : (n : Int) - 1 - (j : Int) = (k : Int) := by omega
      rw [hi]
      have hkn : k < n := by omega
      have HF : Hid (∀ X' Y', FStep (C k) (x1, x2) (y1, y2) X' Y' → FRun C n v (j + 1) X' Y') := Lib.hid (fun X' Y' h => ⟨_, _, HR.out, by rw [show n - 1 - j = k by omega]; exact h⟩)
      obtain ⟨g, o, rfl, hg, hc⟩ := (hC.below hB) (by omega)
      obtain ⟨c0, c1, c2, c3⟩ := hc k hkn
      have hcoat := coat_parts (hok.out k hkn)
      obtain ⟨⟨N, K, T0⟩, hct⟩ : ∃ t, C k = t := ⟨_, rfl⟩
      rw [hct] at c0 c1 c2 c3 hcoat HF
      obtain ⟨T, hT⟩ : ∃ T : Nat, T0.toNat = T := ⟨_, rfl⟩
      have hT0 : T0 = (T : Int) := by rw [← hT]; exact hcoat.1
      have hT1 : T ≤ 16 := by rw [← hT]; exact hcoat.2
      obtain ⟨⟨U1, U2⟩, hUU⟩ : ∃ z, uF (jF K T) = z := ⟨_, rfl⟩
      have HU : Hid (cU (N, K, T0) = (U1, U2)) := Lib.hid (by unfold cU; rw [hT]; exact hUU)
      have HUU := Lib.hid hUU
      subst hT0
      have hk0 : (0 : Int) ≤ (k : Int) := Int.natCast_nonneg _
      have hk1 : (k : Int) < (n : Int) := by omega
      have hcb := (bcell hB).1 b 0 hb0 |>.trans hc0
      have hfb := (bcell hB).2 b 0 hb0 |>.trans hf0
      have hbw : b < wr.heap.size := Nat.lt_of_lt_of_le hb0 hB.size
      have HK := Lib.hid hk
      clear hc hct hcoat hT hjn HR hi hUU hk
      go_wp2_with fail
      go_region_held3 (fun w' => w'.cell? ⟨w.heap.size, 1, none⟩ = some (.func (.func 25) #[] #[.pointer (some ⟨b, 0, none⟩)]) ∧ w'.cell? ⟨g, o + k * 3, none⟩ = some (.float .f64 N) ∧ w'.cell? ⟨g, o + k * 3 + 1, none⟩ = some (.int .i64 K) ∧ w'.cell? ⟨g, o + k * 3 + 2, none⟩ = some (.int .i64 (T : Int)))
        (first | exact ⟨q1, c0, c1, c2⟩ | exact ⟨r1, r2, r3, r4⟩ | go_keep)
        (first
          | (go_at_call 25; (with_reducible refine (waves2_of N K T b U1 U2 hT1 _ ?_ ?_ ?_ HUU).mono ?_); exact hcb; exact hfb; exact hbw; rintro e2 w2 ⟨rfl, hb2⟩; have r1 := ((bcell hb2).1 _ _ hG).trans q1; have r2 := ((bcell hb2).1 _ _ hg).trans c0; have r3 := ((bcell hb2).1 _ _ hg).trans c1; have r4 := ((bcell hb2).1 _ _ hg).trans c2))
      have hb3 : Below wr.heap.size wr w2 := by first | exact hb2 | exact below_of_drew hb2
      have hB2 := below_next hB hb3
      have hG2 : w.heap.size < w2.heap.size := Nat.lt_of_lt_of_le hG hb3.size
      obtain ⟨z0, z1, z2, z3, z4, z5⟩ : FilmS w.heap.size b w2 := FilmS.below ⟨q0, q1, q2, q3, q4, q5⟩ hG hb3
      clear q0 q1 q2 q3 q4 q5 hcb hfb hbw c0 c1 c2 r1 r3 r4
      go_wp2_with fail
      go_region_held3 (fun w' => w'.cell? ⟨w.heap.size, 0, none⟩ = some (.func (.func 24) #[] #[]) ∧ w'.cell? ⟨g, o + k * 3, none⟩ = some (.float .f64 N))
        (first | exact ⟨z0, r2⟩ | go_keep)
        (first
          | (go_at_call 24; (with_reducible refine (waves1_any N _).mono ?_); rintro e3 w3 ⟨rfl, rfl⟩))
      go_wp2_with fail
      go_region_held3 (fun w' => w'.cell? ⟨w.heap.size, 2, none⟩ = some (.func (.func 27) #[] #[]) ∧ w'.cell? ⟨w.heap.size, 4, none⟩ = some (.func (.func 29) #[] #[]) ∧ w'.cell? ⟨w.heap.size, 5, none⟩ = some (.func (.func 30) #[] #[]))
        (first | exact ⟨z2, z4, z5⟩ | go_keep)
        (first
          | (go_at_call 29; (with_reducible refine (cmul_any U1 0 x1 x2 _).mono ?_); rintro e4 w4 ⟨p1, p2, rfl, hp, k4, rfl⟩; have HP := Lib.hid hp; clear hp)
          | (go_at_call 30; (with_reducible refine (cplx_quo_any 0 U2 N 0 _).mono ?_); rintro e5 w5 ⟨v1, v2, rfl, hq, k5, rfl⟩; have HQ := Lib.hid hq; clear hq)
          | (go_at_call 29; (with_reducible refine (cmul_any v1 v2 y1 y2 _).mono ?_); rintro e6 w6 ⟨r1, r2', rfl, hr, k6, rfl⟩; have HRR := Lib.hid hr; clear hr)
          | (go_at_call 27; (with_reducible refine (cplx_add_any p1 p2 r1 r2' _).mono ?_); rintro e7 w7 ⟨a1, a2, rfl, ha, k7, rfl⟩; have HA := Lib.hid ha; clear ha))
      all_goals
        go_wp2_with fail
        go_region_held3 (fun w' => w'.cell? ⟨w.heap.size, 2, none⟩ = some (.func (.func 27) #[] #[]) ∧ w'.cell? ⟨w.heap.size, 4, none⟩ = some (.func (.func 29) #[] #[]))
          (first | exact ⟨z2, z4⟩ | go_keep)
          (first
            | (go_at_call 29; (with_reducible refine (cmul_any 0 U2 N 0 _).mono ?_); rintro e14 w14 ⟨s1, s2, rfl, hs, k14, rfl⟩; have HS := Lib.hid hs; clear hs)
            | (go_at_call 29; (with_reducible refine (cmul_any s1 s2 x1 x2 _).mono ?_); rintro e15 w15 ⟨t1, t2, rfl, ht, k15, rfl⟩; have HTT := Lib.hid ht; clear ht)
            | (go_at_call 29; (with_reducible refine (cmul_any U1 0 y1 y2 _).mono ?_); rintro e16 w16 ⟨o1, o2, rfl, ho, k16, rfl⟩; have HO := Lib.hid ho; clear ho)
            | (go_at_call 27; (with_reducible refine (cplx_add_any t1 t2 o1 o2 _).mono ?_); rintro e17 w17 ⟨b1, b2, rfl, hb', k17, rfl⟩; have HBB := Lib.hid hb'; clear hb'))
        all_goals
          go_wp2_with fail
          have hi2 : (k : Int) - 1 = (n : Int) - 1 - ((j + 1 : Nat) : Int) := by have := HK.out; omega
          refine ⟨⟨j + 1, (a1, a2), (b1, b2), by have := HK.out; omega, rfl, rfl, congrArg (Value.int .i64) hi2, Lib.hid (HF.out _ _ ⟨(p1, p2), (v1, v2), (r1, r2'), (s1, s2), (t1, t2), (o1, o2), ?_⟩), ⟨z0, z1, z2, z3, z4, z5⟩, hG2, ⟨hB2.os, hB2.tape, hB2.output, hB2.size, hB2.block⟩⟩, ?_⟩
          · rw [HU.out]
            exact ⟨HP.out, HQ.out, HRR.out, HA.out, HS.out, HTT.out, HO.out, HBB.out⟩
          · simp [intOf]
end Go.Proofs.Ytgafjnfplgfajaa
