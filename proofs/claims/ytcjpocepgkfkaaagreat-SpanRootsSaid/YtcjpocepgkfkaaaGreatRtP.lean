/-
  What the references' spans tell of roots and squares is what the program's tell, plainly.
-/
import Derived.Test.YtcjpocepgkfkaaaGreatFrDp
import Derived.Test.YtcjpocepgkfkaaaGreatSpnU
namespace Go.Proofs.YtcjpocepgkfkaaaGreat
open Go.RowKit

/-- What the reference tells of a square. -/
def SqR (la ha : Nat) (r : Nat × Nat × Int) : Prop :=
  (okS la ha = false → r = (0, 0, 1)) ∧
  (okS la ha = true → ∃ (V : Nat → Rat) (a b lo hi : Nat), V 0 = fr la * fr la ∧ V 1 = fr ha * fr ha ∧ a < 2 ∧ b < 2 ∧ (∀ j, j < 2 → V a ≤ V j ∧ V j ≤ V b) ∧ DownR (if zB la ha then 0 else V a) lo ∧ UpR (V b) hi ∧ r = endsF lo hi)
theorem sq_low_nonneg {la ha lo : Nat} (h : LowOf (sqrC la ha) lo) : Flt.Fin lo := by
  obtain ⟨c, hc, h1⟩ := h.1
  refine Down.finite h1 fin_zero ?_
  rw [sv_zero]
  obtain ⟨t, ht⟩ : ∃ t, c = (Flt.sv t * Flt.sv t, 2 ^ Flt.K74) := by
    simp only [sqrC, List.mem_cons, List.not_mem_nil, or_false] at hc
    rcases hc with hc | hc
    · exact ⟨la, hc⟩
    · exact ⟨ha, hc⟩
  subst ht
  have := h1.2.2.2.2 0 fin_zero (by
    rw [sv_zero, Int.zero_mul]
    rcases Int.le_total 0 (Flt.sv t) with k | k
    · exact Int.mul_nonneg k k
    · have := Int.mul_nonneg_of_nonpos_of_nonpos k k
      exact this)
  rw [sv_zero] at this
  exact this
theorem down_zero {d : Nat} (h : DownR 0 d) : Flt.finB d = true ∧ pz d = 0 := by
  have e : Flt.sv d = Flt.sv 0 := Down.exact h (Rat.den_pos 0) fin_zero (by
    rw [sv_zero, Int.zero_mul]
    show (0 : Int) = (0 : Rat).num * _
    rw [show (0 : Rat).num = 0 from rfl, Int.zero_mul])
  obtain ⟨a, b⟩ := pz_of_sv h.1 (by decide) e
  rw [a, b]
  exact ⟨Flt.finB_iff.2 fin_zero, rfl⟩
theorem sqr_same {la ha : Nat} {p r : Nat × Nat × Int} (hp : IsSqr (okS la ha) (zB la ha) (sqrC la ha) p) (hr : SqR la ha r) : p = r := by
  cases hok : okS la ha with
  | false => rw [hp.1 hok, hr.1 hok]
  | true =>
    obtain ⟨lo, hi, h1, h2, rfl⟩ := hp.2 hok
    obtain ⟨V, a, b, d, u, v0, v1, hia, hib, hall, hD, hU, rfl⟩ := hr.2 hok
    have two2 : ∀ {P : Nat → Prop}, P 0 → P 1 → ∀ j, j < 2 → P j := fun h0 h1 j hj => by
      match j, hj with
      | 0, _ => exact h0
      | 1, _ => exact h1
    have hc : ∀ j, j < 2 → V j = rz ((fun j => if j = 0 then (Flt.sv la * Flt.sv la, 2 ^ Flt.K74) else (Flt.sv ha * Flt.sv ha, 2 ^ Flt.K74)) j) :=
      two2 (v0.trans (opR_rz 2 la la (by omega))) (v1.trans (opR_rz 2 ha ha (by omega)))
    obtain ⟨C, hC⟩ : ∃ C : Nat → Int × Nat, C = fun j => if j = 0 then (Flt.sv la * Flt.sv la, 2 ^ Flt.K74) else (Flt.sv ha * Flt.sv ha, 2 ^ Flt.K74) := ⟨_, rfl⟩
    rw [← hC] at hc
    have hd : ∀ j, j < 2 → 0 < (C j).2 := by
      rw [hC]
      exact two2 (Nat.two_pow_pos _) (Nat.two_pow_pos _)
    have hm : ∀ j, j < 2 → C j ∈ sqrC la ha := by
      rw [hC]
      exact two2 List.mem_cons_self (List.mem_cons_of_mem _ List.mem_cons_self)
    have hi' : ∀ e ∈ sqrC la ha, ∃ j, j < 2 ∧ e = C j := by
      intro e he
      rw [hC]
      simp only [sqrC, List.mem_cons, List.not_mem_nil, or_false] at he
      rcases he with rfl | rfl
      · exact ⟨0, by decide, rfl⟩
      · exact ⟨1, by decide, rfl⟩
    have dL : Dens (sqrC la ha) := fun e he => by obtain ⟨j, hj, rfl⟩ := hi' e he; exact hd j hj
    rw [hc b hib] at hU
    have e2 := high_rz dL (hd b hib) h2 hU (fun e he => by
      obtain ⟨j, hj, rfl⟩ := hi' e he
      have := (hall j hj).2
      rwa [hc b hib, hc j hj] at this) ⟨_, hm b hib, Rat.le_refl⟩
    obtain ⟨c2, _, hc2⟩ := h2.1
    obtain ⟨q1, q2⟩ := pz_of_sv hc2.1 hU.1 e2
    cases hz : zB la ha with
    | true =>
      rw [hz] at hD
      obtain ⟨k1, k2⟩ := down_zero hD
      have k3 := Flt.finB_iff.2 (sq_low_nonneg h1)
      unfold endsF
      rw [k1, k2, k3, q1, q2]
      simp only [Bool.true_and, if_true]
      split <;> rfl
    | false =>
      rw [hz] at hD
      simp only [Bool.false_eq_true, if_false] at hD ⊢
      rw [hc a hia] at hD
      have e1 := low_rz dL (hd a hia) h1 hD (fun e he => by
        obtain ⟨j, hj, rfl⟩ := hi' e he
        have := (hall j hj).1
        rwa [hc a hia, hc j hj] at this) ⟨_, hm a hia, Rat.le_refl⟩
      obtain ⟨c1, _, hc1⟩ := h1.1
      exact ends_of_sv hc1.1 hc2.1 hD.1 hU.1 e1 e2
/-! ### roots -/
/-- The pair that the reference's root tells of a float from nought on. -/
def RootR (v d : Nat) (t : Bool) : Prop := (Flt.rg v = 0 → d = 0 ∧ t = true) ∧ (Pos v → ∃ u, IsRoot v d u ∧ t = (Ieee.double.order d u == some .eq))
theorem root_fin2 {x d u : Nat} (h : IsRoot x d u) (hp : Pos x) : d < Flt.inf ∧ u < Flt.inf ∧ (u = d ∨ u = d + 1) := by
  obtain ⟨r, hr, hd, hu⟩ := h.2 hp
  have hil := Flt.inf_lt
  have hr1 := hr.1
  have hlt : Flt.rg x < Flt.inf := hp.1
  have hb : r + 1 < Flt.inf := by
    rcases Nat.lt_or_ge (r + 1) Flt.inf with h' | h'
    · exact h'
    · exfalso
      have e : r = Flt.inf - 1 := by omega
      have k1 := hr.2.1
      have k2 := Flt.val_le (show Flt.rg x ≤ Flt.inf - 1 by omega)
      have k3 : 2 ^ Flt.K74 < Flt.val (Flt.inf - 1) := by
        have h1 := Flt.val_whole (m := 2) (by decide)
        have h2 : Flt.whole 2 < Flt.inf - 1 := by rw [Flt.inf_eq]; decide +kernel
        have h3 := Flt.val_lt h2
        have h4 : 0 < 2 ^ Flt.K74 := Nat.two_pow_pos _
        omega
      rw [e] at k1
      have k4 : Flt.val (Flt.rg x) * 2 ^ Flt.K74 ≤ Flt.val (Flt.inf - 1) * 2 ^ Flt.K74 := Nat.mul_le_mul_right _ k2
      have k5 : Flt.val (Flt.inf - 1) * 2 ^ Flt.K74 < Flt.val (Flt.inf - 1) * Flt.val (Flt.inf - 1) := Nat.mul_lt_mul_of_pos_left k3 (Nat.lt_of_le_of_lt (Nat.zero_le _) k3)
      omega
  subst hd
  refine ⟨hr1, ?_, ?_⟩
  · rw [hu]; split <;> omega
  · rw [hu]; split
    · exact Or.inl rfl
    · exact Or.inr rfl
theorem small_float {r : Nat} (h : r < Flt.inf) : Flt.rg r = r ∧ Flt.Fin r ∧ Flt.sv r = Flt.val r := by
  have hil := Flt.inf_lt
  have e : Flt.rg r = r := by unfold Flt.rg; omega
  have s : Flt.sgn r = false := by unfold Flt.sgn; rw [show r / 2 ^ 63 = 0 by omega]; rfl
  exact ⟨e, by unfold Flt.Fin; rw [e]; exact h, by unfold Flt.sv; rw [s, e]; rfl⟩
theorem root_eq {d u : Nat} (hd : d < Flt.inf) (hu : u < Flt.inf) : (Ieee.double.order d u == some .eq) = decide (d = u) := by
  obtain ⟨_, f1, s1⟩ := small_float hd
  obtain ⟨_, f2, s2⟩ := small_float hu
  rw [Flt.eq_spec (fun k => Flt.not_fin_nan k f1) (fun k => Flt.not_fin_nan k f2), s1, s2]
  by_cases h : d = u
  · subst h
    rw [decide_eq_true rfl, decide_eq_true rfl]
  · rw [decide_eq_false h, decide_eq_false (fun e => h (Flt.val_inj (by omega)))]
/-- The upper end as the reference makes it. -/
theorem root_upper {v d u : Nat} {t : Bool} (h : IsRoot v d u) (hp : Pos v) (ht : t = (Ieee.double.order d u == some .eq)) : u = if t then d else d + 1 := by
  obtain ⟨h1, h2, h3⟩ := root_fin2 h hp
  rw [root_eq h1 h2] at ht
  subst ht
  by_cases e : d = u
  · rw [decide_eq_true e, if_pos rfl]; exact e.symm
  · rw [decide_eq_false e, if_neg (by decide)]
    omega
theorem root_zero {d u : Nat} (h : IsRoot 0 d u) : d = 0 ∧ u = 0 := by
  have hn : ¬ Pos 0 := fun k => k.2.2 rfl
  obtain ⟨z, hz, hd, hu⟩ := h.1 hn
  have a := hz.2
  rw [show Ieee.double.sqrt 0 = some 0 by decide +kernel] at a
  have a : z = 0 := a
  rw [hd, hu, a]
  exact ⟨rfl, rfl⟩
theorem pz_small {r : Nat} (h : r < Flt.inf) : pz r = r := by
  unfold pz
  rw [(small_float h).1]
  split
  · omega
  · rfl
/-- What the reference tells of a root of a span. -/
def SqrtR (la ha : Nat) (r : Nat × Nat × Int) : Prop :=
  ∃ dl tl dh th, RootR la dl tl ∧ RootR ha dh th ∧ r = endsR (if 0 < Flt.sv la then dl else 0) (if th then dh else dh + 1)
theorem rootR_small {v d : Nat} {t : Bool} (h : RootR v d t) (_hv : v < 2 ^ 64) (hf : Flt.Fin v) (h0 : 0 ≤ Flt.sv v) : (Flt.rg v = 0 ∧ d = 0 ∧ t = true) ∨ (Pos v ∧ ∃ u, IsRoot v d u ∧ u = if t then d else d + 1) := by
  by_cases hr : Flt.rg v = 0
  · exact Or.inl ⟨hr, h.1 hr⟩
  · have hp : Pos v := pos_sv.1 ⟨hf, by
      have : Flt.sv v ≠ 0 := fun e => hr (Flt.sv_zero_iff.1 e)
      omega⟩
    obtain ⟨u, h1, h2⟩ := h.2 hp
    exact Or.inr ⟨hp, u, h1, root_upper h1 hp h2⟩
theorem rootR_some {la : Nat} (h : ¬ 0 < Flt.sv la) : ∃ dl tl, RootR la dl tl := ⟨0, true, fun _ => ⟨rfl, rfl⟩, fun hp => absurd (pos_sv.2 hp).2 h⟩
theorem sqrt_same {la ha lo lu hd hi : Nat} {r : Nat × Nat × Int} (_b1 : la < 2 ^ 64) (b2 : ha < 2 ^ 64) (ok : okS la ha = true) (h0 : 0 ≤ Flt.sv ha) (h1 : IsRoot (pz (mx la 0)) lo lu) (h2 : IsRoot (pz ha) hd hi) (hr : SqrtR la ha r) : endsF lo hi = r := by
  obtain ⟨f1, f2, _⟩ := okS_iff.1 ok
  obtain ⟨dl, tl, dh, th, r1, r2, rfl⟩ := hr
  have hil := Flt.inf_lt
  have hA : lo = (if 0 < Flt.sv la then dl else 0) ∧ lo < Flt.inf := by
    by_cases hp : 0 < Flt.sv la
    · have hP := pos_sv.1 ⟨f1, hp⟩
      have e : pz (mx la 0) = la := by
        unfold mx
        rw [sv_zero, if_neg (by omega), if_pos hp]
        unfold pz
        rw [if_neg hP.2.2]
      rw [e] at h1
      obtain ⟨u, h3, _⟩ := r1.2 hP
      obtain ⟨a, b⟩ := (h1.same h3)
      obtain ⟨x1, _⟩ := root_fin2 h1 hP
      obtain ⟨x2, _⟩ := root_fin2 h3 hP
      rw [if_pos hp]
      refine ⟨?_, x1⟩
      rcases a with a | a
      · exact a
      · exact absurd a.1 (fun k => Flt.not_fin_nan k (small_float x1).2.1)
    · have e : pz (mx la 0) = 0 := by
        unfold mx
        rw [sv_zero, if_neg hp]
        by_cases hn : Flt.sv la < 0
        · rw [if_pos hn]; rfl
        · rw [if_neg hn]
          have hz : Flt.rg la = 0 := Flt.sv_zero_iff.1 (by omega)
          split
          · rfl
          · unfold pz
            rw [if_pos hz]
      rw [e] at h1
      rw [if_neg hp, (root_zero h1).1]
      exact ⟨rfl, by rw [Flt.inf_eq]; decide⟩
  have hB : hi = (if th then dh else dh + 1) ∧ hi < Flt.inf := by
    rcases rootR_small r2 b2 f2 h0 with ⟨hz, rfl, rfl⟩ | ⟨hP, u, h3, h4⟩
    · have e : pz ha = 0 := by unfold pz; rw [if_pos hz]
      rw [e] at h2
      rw [(root_zero h2).2]
      exact ⟨rfl, by rw [Flt.inf_eq]; decide⟩
    · have e : pz ha = ha := by unfold pz; rw [if_neg hP.2.2]
      rw [e] at h2
      obtain ⟨_, x1, _⟩ := root_fin2 h2 hP
      rw [← h4]
      refine ⟨?_, x1⟩
      rcases (h2.same h3).2 with a | a
      · exact a
      · exact absurd a.1 (fun k => Flt.not_fin_nan k (small_float x1).2.1)
  rw [← hA.1, ← hB.1]
  unfold endsF endsR
  rw [pz_small hA.2, pz_small hB.2]
end Go.Proofs.YtcjpocepgkfkaaaGreat
