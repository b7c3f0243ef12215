/-
  Films by floats, plainly: the steps of a film as a relation; two films of the same list come to the same waves, but for the bits of what is no number.
-/
import Derived.Test.YtgafjnfplgfajaaStk2
namespace Go.Proofs.Ytgafjnfplgfajaa
open Go.RowKit

/-! ### what is no number stays none -/
theorem mul_nan {x y : Nat} (h : Flt.Nan x ∨ Flt.Nan y) : Ieee.double.mul x y = none := by
  unfold Ieee.Format.mul
  rcases h with h | h
  · obtain ⟨f, e⟩ := Flt.read_nan h
    rw [e]; rfl
  · obtain ⟨f, e⟩ := Flt.read_nan h
    rw [e]
    unfold Ieee.Datum.product
    split <;> simp_all
theorem div_nan {x y : Nat} (h : Flt.Nan x ∨ Flt.Nan y) : Ieee.double.div x y = none := by
  unfold Ieee.Format.div
  rcases h with h | h
  · obtain ⟨f, e⟩ := Flt.read_nan h
    rw [e]; rfl
  · obtain ⟨f, e⟩ := Flt.read_nan h
    rw [e]
    unfold Ieee.Datum.quotient
    split <;> simp_all
theorem add_nan {x y : Nat} (h : Flt.Nan x ∨ Flt.Nan y) : Ieee.double.add x y = none := by
  rcases h with h | h
  · exact Flt.add_nan_left h
  · exact Flt.add_nan_right h
theorem sub_nan {x y : Nat} (h : Flt.Nan x ∨ Flt.Nan y) : Ieee.double.sub x y = none := by
  rw [Flt.sub_eq]
  exact add_nan (h.imp id Flt.nan_opp.2)
/-- What an operation comes to is the same for the same, but for the bits of what is no number. -/
theorem op_same {f : Nat → Nat → Option Nat} (hn : ∀ x y, Flt.Nan x ∨ Flt.Nan y → f x y = none) {a b a' b' z z' : Nat} (ha : Flt.Same a a') (hb : Flt.Same b b') (h : IsOp f a b z) (h' : IsOp f a' b' z') : Flt.Same z z' := by
  have dead : ∀ u v t, IsOp f u v t → Flt.Nan u ∨ Flt.Nan v → Flt.Nan t := fun u v t k hk => by
    unfold IsOp at k
    rw [hn _ _ hk] at k
    exact k.2
  rcases ha with rfl | ⟨na, na'⟩
  · rcases hb with rfl | ⟨nb, nb'⟩
    · unfold IsOp at h h'
      cases e : f a b with
      | none => rw [e] at h h'; exact Or.inr ⟨h.2, h'.2⟩
      | some r => rw [e] at h h'; exact Or.inl (h.2.trans h'.2.symm)
    · exact Or.inr ⟨dead _ _ _ h (Or.inr nb), dead _ _ _ h' (Or.inr nb')⟩
  · exact Or.inr ⟨dead _ _ _ h (Or.inl na), dead _ _ _ h' (Or.inl na')⟩
theorem same_self (x : Nat) : Flt.Same x x := Or.inl rfl

/-- The same complex numbers, but for the bits of what is no number. -/
def Cs2 (a b : Nat × Nat) : Prop := Flt.Same a.1 b.1 ∧ Flt.Same a.2 b.2
theorem Cs2.refl (a : Nat × Nat) : Cs2 a a := ⟨same_self _, same_self _⟩
theorem add_cs {a b a' b' z z' : Nat × Nat} (ha : Cs2 a a') (hb : Cs2 b b') (h : AddR a b z.1 z.2) (h' : AddR a' b' z'.1 z'.2) : Cs2 z z' :=
  ⟨op_same (fun _ _ => add_nan) ha.1 hb.1 h.1 h'.1, op_same (fun _ _ => add_nan) ha.2 hb.2 h.2 h'.2⟩
theorem sub_cs {a b a' b' z z' : Nat × Nat} (ha : Cs2 a a') (hb : Cs2 b b') (h : SubR a b z.1 z.2) (h' : SubR a' b' z'.1 z'.2) : Cs2 z z' :=
  ⟨op_same (fun _ _ => sub_nan) ha.1 hb.1 h.1 h'.1, op_same (fun _ _ => sub_nan) ha.2 hb.2 h.2 h'.2⟩
theorem cross_same {a c b d a' c' b' d' z z' : Nat} (ha : Flt.Same a a') (hc : Flt.Same c c') (hb : Flt.Same b b') (hd : Flt.Same d d') (h : CrossR a c b d z) (h' : CrossR a' c' b' d' z') : Flt.Same z z' := by
  obtain ⟨p, q, h1, h2, h3⟩ := h
  obtain ⟨p', q', k1, k2, k3⟩ := h'
  exact op_same (fun _ _ => sub_nan) (op_same (fun _ _ => mul_nan) ha hc h1 k1) (op_same (fun _ _ => mul_nan) hb hd h2 k2) h3 k3
theorem dot_same {a c b d a' c' b' d' z z' : Nat} (ha : Flt.Same a a') (hc : Flt.Same c c') (hb : Flt.Same b b') (hd : Flt.Same d d') (h : DotR a c b d z) (h' : DotR a' c' b' d' z') : Flt.Same z z' := by
  obtain ⟨p, q, h1, h2, h3⟩ := h
  obtain ⟨p', q', k1, k2, k3⟩ := h'
  exact op_same (fun _ _ => add_nan) (op_same (fun _ _ => mul_nan) ha hc h1 k1) (op_same (fun _ _ => mul_nan) hb hd h2 k2) h3 k3
theorem mul_cs {a b a' b' z z' : Nat × Nat} (ha : Cs2 a a') (hb : Cs2 b b') (h : MulR a b z.1 z.2) (h' : MulR a' b' z'.1 z'.2) : Cs2 z z' :=
  ⟨cross_same ha.1 hb.1 ha.2 hb.2 h.1 h'.1, dot_same ha.1 hb.2 ha.2 hb.1 h.2 h'.2⟩
theorem quo_cs {a b a' b' z z' : Nat × Nat} (ha : Cs2 a a') (hb : Cs2 b b') (h : QuoR a b z.1 z.2) (h' : QuoR a' b' z'.1 z'.2) : Cs2 z z' := by
  obtain ⟨d, n, m, h1, h2, h3, h4, h5⟩ := h
  obtain ⟨d', n', m', k1, k2, k3, k4, k5⟩ := h'
  have e := dot_same hb.1 hb.1 hb.2 hb.2 h1 k1
  exact ⟨op_same (fun _ _ => div_nan) (dot_same ha.1 hb.1 ha.2 hb.2 h2 k2) e h4 k4, op_same (fun _ _ => div_nan) (cross_same ha.2 hb.1 ha.1 hb.2 h3 k3) e h5 k5⟩

/-! ### a film, step by step -/
/-- The number at a sheet's part of a turn. -/
def cU (c : Coat) : Nat × Nat := uF (jF c.2.1 c.2.2.toNat)
/-- One sheet. -/
def FStep (c : Coat) (x y x' y' : Nat × Nat) : Prop :=
  ∃ p q r s t u : Nat × Nat, MulR ((cU c).1, 0) x p.1 p.2 ∧ QuoR (0, (cU c).2) (c.1, 0) q.1 q.2 ∧ MulR q y r.1 r.2 ∧ AddR p r x'.1 x'.2 ∧
    MulR (0, (cU c).2) (c.1, 0) s.1 s.2 ∧ MulR s x t.1 t.2 ∧ MulR ((cU c).1, 0) y u.1 u.2 ∧ AddR t u y'.1 y'.2
theorem fstep_cs {c : Coat} {x y x' y' a b a' b' : Nat × Nat} (hx : Cs2 x a) (hy : Cs2 y b) (h : FStep c x y x' y') (k : FStep c a b a' b') : Cs2 x' a' ∧ Cs2 y' b' := by
  obtain ⟨p, q, r, s, t, u, h1, h2, h3, h4, h5, h6, h7, h8⟩ := h
  obtain ⟨p', q', r', s', t', u', k1, k2, k3, k4, k5, k6, k7, k8⟩ := k
  exact ⟨add_cs (mul_cs (Cs2.refl _) hx h1 k1) (mul_cs (quo_cs (Cs2.refl _) (Cs2.refl _) h2 k2) hy h3 k3) h4 k4,
    add_cs (mul_cs (mul_cs (Cs2.refl _) (Cs2.refl _) h5 k5) hx h6 k6) (mul_cs (Cs2.refl _) hy h7 k7) h8 k8⟩
/-- The last j sheets of n, the last one first. -/
def FRun (C : Nat → Coat) (n : Nat) (v : Nat) : Nat → (Nat × Nat) → (Nat × Nat) → Prop
  | 0, x, y => x = (4607182418800017408, 0) ∧ y = (v, 0)
  | j + 1, x, y => ∃ a b, FRun C n v j a b ∧ FStep (C (n - 1 - j)) a b x y
theorem frun_cs {C : Nat → Coat} {n v : Nat} : ∀ {j : Nat} {x y a b : Nat × Nat}, FRun C n v j x y → FRun C n v j a b → Cs2 x a ∧ Cs2 y b
  | 0, x, y, a, b, h, k => by
    obtain ⟨rfl, rfl⟩ := h
    obtain ⟨rfl, rfl⟩ := k
    exact ⟨Cs2.refl _, Cs2.refl _⟩
  | j + 1, x, y, a, b, h, k => by
    obtain ⟨p, q, h1, h2⟩ := h
    obtain ⟨p', q', k1, k2⟩ := k
    obtain ⟨e1, e2⟩ := frun_cs h1 k1
    exact fstep_cs e1 e2 h2 k2
/-- What the waves at the end come to. -/
def FEnd (u : Nat) (x y b t : Nat × Nat) : Prop :=
  ∃ p s d m : Nat × Nat, MulR (u, 0) x p.1 p.2 ∧ AddR p y s.1 s.2 ∧ SubR p y d.1 d.2 ∧ QuoR d s b.1 b.2 ∧ AddR (u, 0) (u, 0) m.1 m.2 ∧ QuoR m s t.1 t.2
def FilmR (u v n : Nat) (C : Nat → Coat) (b t : Nat × Nat) : Prop := ∃ x y, FRun C n v n x y ∧ FEnd u x y b t
theorem film_cs {u v n : Nat} {C : Nat → Coat} {b t b' t' : Nat × Nat} (h : FilmR u v n C b t) (k : FilmR u v n C b' t') : Cs2 b b' ∧ Cs2 t t' := by
  obtain ⟨x, y, h1, p, s, d, m, h2, h3, h4, h5, h6, h7⟩ := h
  obtain ⟨x', y', k1, p', s', d', m', k2, k3, k4, k5, k6, k7⟩ := k
  obtain ⟨e1, e2⟩ := frun_cs h1 k1
  have ep := mul_cs (Cs2.refl _) e1 h2 k2
  have es := add_cs ep e2 h3 k3
  exact ⟨quo_cs (sub_cs ep e2 h4 k4) es h5 k5, quo_cs (add_cs (Cs2.refl _) (Cs2.refl _) h6 k6) es h7 k7⟩
theorem fin_same {a b : Nat} (h : Flt.Same a b) : Flt.finB a = Flt.finB b := by
  rcases h with rfl | ⟨h1, h2⟩
  · rfl
  · rw [finB_split, finB_split, Flt.nanB_iff.2 h1, Flt.nanB_iff.2 h2]
    rfl
theorem fin2_cs {a b : Nat × Nat} (h : Cs2 a b) : fin2 a = fin2 b := by
  unfold fin2
  rw [fin_same h.1, fin_same h.2]
/-- What the waves of a film are told as. -/
def WavR (u v n : Nat) (C : Nat → Coat) (b t : Nat × Nat) (e : Int) : Prop :=
  (chkF u v n C ≠ 0 → b = (0, 0) ∧ t = (0, 0) ∧ e = chkF u v n C) ∧
  (chkF u v n C = 0 → ∃ b0 t0, FilmR u v n C b0 t0 ∧ if fin2 b0 && fin2 t0 then b = b0 ∧ t = t0 ∧ e = 0 else b = (0, 0) ∧ t = (0, 0) ∧ e = 6)
theorem wav_same {u v n : Nat} {C : Nat → Coat} {b t b' t' : Nat × Nat} {e e' : Int} (h : WavR u v n C b t e) (k : WavR u v n C b' t' e') : Cs2 b b' ∧ Cs2 t t' ∧ e = e' := by
  by_cases hc : chkF u v n C = 0
  · obtain ⟨b0, t0, h1, h2⟩ := h.2 hc
    obtain ⟨b1, t1, k1, k2⟩ := k.2 hc
    obtain ⟨eb, et⟩ := film_cs h1 k1
    rw [← fin2_cs eb, ← fin2_cs et] at k2
    cases hf : (fin2 b0 && fin2 t0) with
    | true =>
      rw [hf, if_pos rfl] at h2 k2
      obtain ⟨rfl, rfl, rfl⟩ := h2
      obtain ⟨rfl, rfl, rfl⟩ := k2
      exact ⟨eb, et, rfl⟩
    | false =>
      rw [hf, if_neg (by simp)] at h2 k2
      obtain ⟨rfl, rfl, rfl⟩ := h2
      obtain ⟨rfl, rfl, rfl⟩ := k2
      exact ⟨Cs2.refl _, Cs2.refl _, rfl⟩
  · obtain ⟨rfl, rfl, rfl⟩ := h.1 hc
    obtain ⟨rfl, rfl, rfl⟩ := k.1 hc
    exact ⟨Cs2.refl _, Cs2.refl _, rfl⟩
theorem coat_parts {c : Coat} (h : coatB c = true) : c.2.2 = ((c.2.2.toNat : Nat) : Int) ∧ c.2.2.toNat ≤ 16 := by
  unfold coatB at h
  obtain ⟨h1, h2⟩ := Bool.and_eq_true_iff.1 h
  have h3 := of_decide_eq_true (Bool.and_eq_true_iff.1 h1).2
  have h4 := of_decide_eq_true h2
  omega
theorem chk_all {u v n : Nat} {C : Nat → Coat} (h : chkF u v n C = 0) : n ≤ 64 ∧ ∀ j, j < n → coatB (C j) = true := by
  unfold chkF at h
  split at h
  · split at h
    · exact absurd h (by decide)
    · split at h
      · rename_i hn ha
        rw [List.all_eq_true] at ha
        exact ⟨by omega, fun j hj => ha j (List.mem_range.2 hj)⟩
      · exact absurd h (by decide)
  · exact absurd h (by decide)
end Go.Proofs.Ytgafjnfplgfajaa
