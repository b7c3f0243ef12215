/-
  A space and a lens, plainly.
  What a matrix makes of a beam, plainly: one matrix behind another, what undoes it, the other way round; and how long the answers are.
-/
import Derived.Test.YtdmdaoginojalaaBmJ
namespace Go.Proofs.Ytdmdaoginojalaa

theorem rat_sq_nn (a : Rat) : 0 ≤ a * a := by
  rcases Rat.le_total (a := 0) (b := a) with h | h
  · exact Rat.mul_nonneg h h
  · have := Rat.mul_nonneg (a := -a) (b := -a) (by grind) (by grind)
    grind
/-- How far what a matrix makes of a beam's number is from nought: never nought. -/
theorem norm_ne {c d u v e : Rat} (hv : 0 < v) (h : e * d - 0 = 1 ∨ c ≠ 0 ∨ d ≠ 0) : ((((c * u) + d) * ((c * u) + d)) + ((c * v) * (c * v))) ≠ 0 := by
  intro h0
  have h1 := rat_sq_nn ((c * u) + d)
  have h2 := rat_sq_nn (c * v)
  have h3 : (c * v) * (c * v) = 0 := by grind
  have h4 : ((c * u) + d) * ((c * u) + d) = 0 := by grind
  have h5 : c * v = 0 := by rcases Rat.mul_eq_zero.1 h3 with h | h <;> exact h
  have h6 : c * u + d = 0 := by rcases Rat.mul_eq_zero.1 h4 with h | h <;> exact h
  have hc : c = 0 := by rcases Rat.mul_eq_zero.1 h5 with h | h; exact h; grind
  subst hc
  have hd : d = 0 := by grind
  subst hd
  rcases h with h | h | h
  · grind
  · exact h rfl
  · exact h rfl
end Go.Proofs.Ytdmdaoginojalaa

namespace Go.Proofs.Ytdmdaoginojalaa

def thN (c d u v : Rat) : Rat := (((c * u) + d) * ((c * u) + d)) + ((c * v) * (c * v))
def thR (a b c d u v : Rat) : Rat := ((((a * u) + b) * ((c * u) + d)) + ((a * v) * (c * v))) / thN c d u v
def thI (c d u v : Rat) : Rat := v / thN c d u v
theorem thN_ne {a b c d u v : Rat} (hd : a * d - b * c = 1) (hv : 0 < v) : thN c d u v ≠ 0 := by
  refine norm_ne (e := 1) hv ?_
  by_cases h : c = 0
  · refine .inr (.inr fun k => ?_)
    subst h; subst k
    grind
  · exact .inr (.inl h)
theorem thN_pos {a b c d u v : Rat} (hd : a * d - b * c = 1) (hv : 0 < v) : 0 < thN c d u v := by
  have h1 := rat_sq_nn ((c * u) + d)
  have h2 := rat_sq_nn (c * v)
  have h3 := thN_ne (u := u) hd hv
  unfold thN at *
  grind
theorem thI_pos {a b c d u v : Rat} (hd : a * d - b * c = 1) (hv : 0 < v) : 0 < thI c d u v := by
  unfold thI
  rw [Rat.div_def]
  exact Rat.mul_pos hv (Rat.inv_pos.2 (thN_pos hd hv))
/-- The numbers of a beam behind a matrix, times the norm. -/
theorem th_facts {a b c d u v : Rat} (hd : a * d - b * c = 1) (hv : 0 < v) : thN c d u v * thR a b c d u v = ((a * u) + b) * ((c * u) + d) + (a * v) * (c * v) ∧ thN c d u v * thI c d u v = v ∧
    thN c d u v * (thR a b c d u v * thR a b c d u v + thI c d u v * thI c d u v) = ((a * u) + b) * ((a * u) + b) + (a * v) * (a * v) := by
  have hN := thN_ne (u := u) hd hv
  have e1 : thN c d u v * thR a b c d u v = ((a * u) + b) * ((c * u) + d) + (a * v) * (c * v) := by
    unfold thR
    generalize thN c d u v = N at *
    grind
  have e2 : thN c d u v * thI c d u v = v := by
    unfold thI
    generalize thN c d u v = N at *
    grind
  refine ⟨e1, e2, ?_⟩
  have key : (((a * u) + b) * ((c * u) + d) + (a * v) * (c * v)) * (((a * u) + b) * ((c * u) + d) + (a * v) * (c * v)) + v * v = (((a * u) + b) * ((a * u) + b) + (a * v) * (a * v)) * thN c d u v := by
    unfold thN
    have : v = (a * d - b * c) * v := by rw [hd]; grind
    grind
  rw [← e1] at key
  generalize thR a b c d u v = R at *
  generalize thI c d u v = I at *
  generalize ((a * u) + b) * ((a * u) + b) + (a * v) * (a * v) = F at *
  generalize thN c d u v = N at *
  clear e1 hd hv
  subst e2
  grind
theorem div_scale {N x y : Rat} (hN : N ≠ 0) : x / y = (N * x) / (N * y) := by
  by_cases hy : y = 0
  · subst hy
    simp [Rat.div_def]
  · grind
/-- One matrix behind another. -/
theorem th_comp {a b c d u v : Rat} (A B C D : Rat) (hd : a * d - b * c = 1) (hv : 0 < v) :
    thR A B C D (thR a b c d u v) (thI c d u v) = thR (A * a + B * c) (A * b + B * d) (C * a + D * c) (C * b + D * d) u v ∧ thI C D (thR a b c d u v) (thI c d u v) = thI (C * a + D * c) (C * b + D * d) u v := by
  have hN := thN_ne (u := u) hd hv
  obtain ⟨e1, e2, e3⟩ := th_facts (u := u) hd hv
  have hR : thR A B C D (thR a b c d u v) (thI c d u v) = ((((A * (thR a b c d u v)) + B) * ((C * (thR a b c d u v)) + D)) + ((A * (thI c d u v)) * (C * (thI c d u v)))) / thN C D (thR a b c d u v) (thI c d u v) := rfl
  have hI : thI C D (thR a b c d u v) (thI c d u v) = thI c d u v / thN C D (thR a b c d u v) (thI c d u v) := rfl
  have k1 : thN c d u v * thN C D (thR a b c d u v) (thI c d u v) = thN (C * a + D * c) (C * b + D * d) u v := by
    have x1 : thN c d u v * thN C D (thR a b c d u v) (thI c d u v) = C * C * (thN c d u v * (thR a b c d u v * thR a b c d u v + thI c d u v * thI c d u v)) + 2 * C * D * (thN c d u v * thR a b c d u v) + D * D * thN c d u v := by
      generalize thR a b c d u v = R
      generalize thI c d u v = I
      generalize thN c d u v = N
      unfold thN
      grind
    rw [x1, e3, e1]
    unfold thN
    grind
  have k2 : thN c d u v * ((((A * (thR a b c d u v)) + B) * ((C * (thR a b c d u v)) + D)) + ((A * (thI c d u v)) * (C * (thI c d u v)))) = ((((A * a + B * c) * u) + (A * b + B * d)) * (((C * a + D * c) * u) + (C * b + D * d))) + (((A * a + B * c) * v) * ((C * a + D * c) * v)) := by
    have x1 : thN c d u v * ((((A * (thR a b c d u v)) + B) * ((C * (thR a b c d u v)) + D)) + ((A * (thI c d u v)) * (C * (thI c d u v)))) = A * C * (thN c d u v * (thR a b c d u v * thR a b c d u v + thI c d u v * thI c d u v)) + (A * D + B * C) * (thN c d u v * thR a b c d u v) + B * D * thN c d u v := by
      generalize thR a b c d u v = R
      generalize thI c d u v = I
      generalize thN c d u v = N
      grind
    rw [x1, e3, e1]
    unfold thN
    grind
  rw [hR, hI]
  rw [div_scale hN, k1, k2, div_scale hN (x := thI c d u v), k1, e2]
  exact ⟨rfl, rfl⟩
theorem th_one (u v : Rat) : thR 1 0 0 1 u v = u ∧ thI 0 1 u v = v := by
  unfold thR thI thN
  constructor <;> grind
/-- What undoes a matrix brings the beam back. -/
theorem th_back {a b c d u v : Rat} (hd : a * d - b * c = 1) (hv : 0 < v) : thR d (-b) (-c) a (thR a b c d u v) (thI c d u v) = u ∧ thI (-c) a (thR a b c d u v) (thI c d u v) = v := by
  obtain ⟨h1, h2⟩ := th_comp (u := u) (v := v) d (-b) (-c) a hd hv
  have g1 : d * a + -b * c = 1 := by grind
  have g2 : d * b + -b * d = 0 := by grind
  have g3 : -c * a + a * c = 0 := by grind
  have g4 : -c * b + a * d = 1 := by grind
  rw [g1, g2, g3, g4] at h1
  rw [g3, g4] at h2
  rw [h1, h2]
  exact th_one u v
/-- The other way round, turned about. -/
theorem th_turn (a b c d u v : Rat) : thR d b c a (-u) v = -thR d (-b) (-c) a u v ∧ thI c a (-u) v = thI (-c) a u v := by
  have e : thN c a (-u) v = thN (-c) a u v := by unfold thN; grind
  unfold thR thI
  rw [e]
  refine ⟨?_, rfl⟩
  generalize thN (-c) a u v = N
  have : d * -u + b = -(d * u + -b) := by grind
  rw [this, Rat.div_def, Rat.div_def]
  grind
theorem th_mirror {a b c d u v : Rat} (hd : a * d - b * c = 1) (hv : 0 < v) : thR d b c a (-thR a b c d u v) (thI c d u v) = -u ∧ thI c a (-thR a b c d u v) (thI c d u v) = v := by
  obtain ⟨h1, h2⟩ := th_turn a b c d (thR a b c d u v) (thI c d u v)
  obtain ⟨h3, h4⟩ := th_back (u := u) hd hv
  rw [h1, h2, h3, h4]
  exact ⟨rfl, rfl⟩
/-- A fraction that is X over D. -/
def Scal (S : Nat) (D : Nat) (x : Rat) : Prop := ∃ X : Int, x * (D : Rat) = (X : Rat) ∧ X.natAbs < 2 ^ (32 * S)
theorem nat_rat_ne {D : Nat} (h : 0 < D) : (D : Rat) ≠ 0 := by
  intro k
  have := Rat.natCast_eq_zero_iff.1 k
  omega
theorem div_of_mul {x : Rat} {D : Nat} {X : Int} (hD : 0 < D) (h : x * (D : Rat) = (X : Rat)) : Rat.divInt X (D : Int) = x := by
  have := nat_rat_ne hD
  rw [Rat.divInt_eq_div, ← h]
  show x * (D : Rat) / (((D : Int) : Rat)) = x
  rw [Rat.intCast_natCast]
  grind
theorem Scal.sz {S D : Nat} {x : Rat} (h : Scal S D x) (hD : 0 < D) (hd : D < 2 ^ (32 * S)) : Sz x S := by
  obtain ⟨X, e, hX⟩ := h
  rw [← div_of_mul hD e]
  exact Sz.divInt (by omega) hX (by rw [Int.natAbs_natCast]; exact hd)
theorem pow_mono32 {S T : Nat} (h : S ≤ T) : 2 ^ (32 * S) ≤ 2 ^ (32 * T) := Nat.pow_le_pow_right (by decide) (by omega)
theorem Scal.mono {S T D : Nat} {x : Rat} (h : Scal S D x) (hT : S ≤ T) : Scal T D x := by
  obtain ⟨X, e, hX⟩ := h
  exact ⟨X, e, Nat.lt_of_lt_of_le hX (pow_mono32 hT)⟩
theorem abs_mul_lt {x y : Int} {m n : Nat} (hx : x.natAbs < 2 ^ (32 * m)) (hy : y.natAbs < 2 ^ (32 * n)) : (x * y).natAbs < 2 ^ (32 * (m + n)) := by
  rw [Int.natAbs_mul]
  exact mul_lt_pow hx hy
theorem abs_add_lt {x y : Int} {k : Nat} (hx : x.natAbs < 2 ^ (32 * k)) (hy : y.natAbs < 2 ^ (32 * k)) : (x + y).natAbs < 2 ^ (32 * (k + 1)) :=
  Nat.lt_of_le_of_lt (Int.natAbs_add_le x y) (add_lt_pow hx hy)
theorem Scal.mul {S T D E : Nat} {x y : Rat} (h : Scal S D x) (k : Scal T E y) : Scal (S + T) (D * E) (x * y) := by
  obtain ⟨X, e, hX⟩ := h
  obtain ⟨Y, f, hY⟩ := k
  refine ⟨X * Y, ?_, abs_mul_lt hX hY⟩
  rw [Rat.natCast_mul, Rat.intCast_mul, ← e, ← f]
  grind
theorem Scal.add {S D : Nat} {x y : Rat} (h : Scal S D x) (k : Scal S D y) : Scal (S + 1) D (x + y) := by
  obtain ⟨X, e, hX⟩ := h
  obtain ⟨Y, f, hY⟩ := k
  refine ⟨X + Y, ?_, abs_add_lt hX hY⟩
  rw [Rat.intCast_add, ← e, ← f]
  grind
theorem Scal.div {S D : Nat} {x y : Rat} (h : Scal S D x) (k : Scal S D y) (hy : y ≠ 0) (hD : 0 < D) : Sz (x / y) S := by
  obtain ⟨X, e, hX⟩ := h
  obtain ⟨Y, f, hY⟩ := k
  have hD' := nat_rat_ne hD
  have hY0 : Y ≠ 0 := by
    intro h0
    subst h0
    have : y * (D : Rat) = 0 := by rw [f]; rfl
    rcases Rat.mul_eq_zero.1 this with h | h
    · exact hy h
    · exact hD' h
  have e2 : x / y = Rat.divInt X Y := by
    rw [Rat.divInt_eq_div, ← e, ← f]
    grind
  rw [e2]
  exact Sz.divInt hY0 hX hY
/-- A matrix over one number. -/
def MatS (S : Nat) (a b c d : Rat) : Prop := ∃ D : Nat, 0 < D ∧ D < 2 ^ (32 * S) ∧ Scal S D a ∧ Scal S D b ∧ Scal S D c ∧ Scal S D d
def GauS (T : Nat) (u v : Rat) : Prop := ∃ E : Nat, 0 < E ∧ E < 2 ^ (32 * T) ∧ Scal T E u ∧ Scal T E v
theorem scal_one {S D : Nat} (hd : D < 2 ^ (32 * S)) : Scal S D 1 := ⟨D, by rw [Rat.one_mul, Rat.intCast_natCast], by rw [Int.natAbs_natCast]; exact hd⟩
theorem Scal.neg {S D : Nat} {x : Rat} (h : Scal S D x) : Scal S D (-x) := by
  obtain ⟨X, e, hX⟩ := h
  refine ⟨-X, ?_, by rw [Int.natAbs_neg]; exact hX⟩
  rw [Rat.intCast_neg, ← e]
  grind
theorem MatS.mul {S T : Nat} {a b c d A B C D : Rat} (h : MatS S A B C D) (k : MatS T a b c d) : MatS (S + T + 1) (A * a + B * c) (A * b + B * d) (C * a + D * c) (C * b + D * d) := by
  obtain ⟨E, e0, e1, hA, hB, hC, hD⟩ := h
  obtain ⟨F, f0, f1, ha, hb, hc, hd⟩ := k
  exact ⟨E * F, Nat.mul_pos e0 f0, Nat.lt_of_lt_of_le (mul_lt_pow e1 f1) (pow_mono32 (by omega)), (hA.mul ha).add (hB.mul hc), (hA.mul hb).add (hB.mul hd), (hC.mul ha).add (hD.mul hc), (hC.mul hb).add (hD.mul hd)⟩
theorem MatS.back {S : Nat} {a b c d : Rat} (h : MatS S a b c d) : MatS S d (-b) (-c) a := by
  obtain ⟨E, e0, e1, hA, hB, hC, hD⟩ := h
  exact ⟨E, e0, e1, hD, hB.neg, hC.neg, hA⟩
theorem MatS.szs {S : Nat} {a b c d : Rat} (h : MatS S a b c d) : Sz a S ∧ Sz b S ∧ Sz c S ∧ Sz d S := by
  obtain ⟨E, e0, e1, hA, hB, hC, hD⟩ := h
  exact ⟨hA.sz e0 e1, hB.sz e0 e1, hC.sz e0 e1, hD.sz e0 e1⟩
theorem GauS.szs {T : Nat} {u v : Rat} (h : GauS T u v) : Sz u T ∧ Sz v T := by
  obtain ⟨E, e0, e1, hA, hB⟩ := h
  exact ⟨hA.sz e0 e1, hB.sz e0 e1⟩
theorem MatS.mono {S T : Nat} {a b c d : Rat} (h : MatS S a b c d) (k : S ≤ T) : MatS T a b c d := by
  obtain ⟨D, d0, d1, hA, hB, hC, hD⟩ := h
  exact ⟨D, d0, Nat.lt_of_lt_of_le d1 (pow_mono32 k), hA.mono k, hB.mono k, hC.mono k, hD.mono k⟩
theorem GauS.mono {S T : Nat} {u v : Rat} (h : GauS S u v) (k : S ≤ T) : GauS T u v := by
  obtain ⟨D, d0, d1, hA, hB⟩ := h
  exact ⟨D, d0, Nat.lt_of_lt_of_le d1 (pow_mono32 k), hA.mono k, hB.mono k⟩
theorem th_sz {S T : Nat} {a b c d u v : Rat} (h : MatS S a b c d) (k : GauS T u v) (hN : thN c d u v ≠ 0) : Sz (thR a b c d u v) (2 * S + 2 * T + 3) ∧ Sz (thI c d u v) (2 * S + 2 * T + 3) := by
  obtain ⟨D, d0, d1, hA, hB, hC, hD⟩ := h
  obtain ⟨E, e0, e1, hU, hV⟩ := k
  have oneE := scal_one e1
  have oneD := scal_one d1
  have hB1 := hB.mul oneE
  have hD1 := hD.mul oneE
  rw [Rat.mul_one] at hB1 hD1
  have x1 := (hA.mul hU).add hB1
  have x2 := (hC.mul hU).add hD1
  have x3 := hA.mul hV
  have x4 := hC.mul hV
  have hP := (x1.mul x2).add ((x3.mul x4).mono (by omega))
  have hQ := (x2.mul x2).add ((x4.mul x4).mono (by omega))
  have hpos : 0 < D * E * (D * E) := Nat.mul_pos (Nat.mul_pos d0 e0) (Nat.mul_pos d0 e0)
  refine ⟨(Scal.div hP hQ hN hpos).mono (by omega), ?_⟩
  have y1 := (oneD.mul (hV.mul (oneD.mul oneE)))
  have e : D * (E * (D * E)) = D * E * (D * E) := by rw [Nat.mul_assoc]
  rw [e, Rat.one_mul, Rat.one_mul, Rat.mul_one] at y1
  exact (Scal.div (y1.mono (by omega)) (hQ.mono (by omega)) hN hpos : Sz (v / _) (2 * S + 2 * T + 3)).mono (by omega)
/-- Out of lengths. -/
theorem scal_of (x : Rat) {n : Nat} (hn : x.num.natAbs < 2 ^ (32 * n)) : Scal n x.den x := by
  refine ⟨x.num, ?_, hn⟩
  have e := Rat.num_divInt_den x
  rw [Rat.divInt_eq_div, Rat.intCast_natCast] at e
  have h0 := nat_rat_ne x.den_pos
  generalize (x.num : Rat) = N at *
  generalize (x.den : Rat) = D at *
  grind
theorem Scal.up {S m D E : Nat} {x : Rat} (h : Scal S D x) (hE : E < 2 ^ (32 * m)) : Scal (S + m) (D * E) x := by
  have := h.mul (scal_one hE)
  rwa [Rat.mul_one] at this
theorem gauS_of {u v : Rat} {n1 m1 n2 m2 : Nat} (a1 : u.num.natAbs < 2 ^ (32 * n1)) (b1 : u.den < 2 ^ (32 * m1)) (a2 : v.num.natAbs < 2 ^ (32 * n2)) (b2 : v.den < 2 ^ (32 * m2)) : GauS (n1 + m1 + n2 + m2) u v := by
  have p1 := u.den_pos
  have p2 := v.den_pos
  have x1 := (scal_of u a1).up b2
  have x2 := (scal_of v a2).up b1
  rw [Nat.mul_comm] at x2
  exact ⟨u.den * v.den, Nat.mul_pos p1 p2, Nat.lt_of_lt_of_le (mul_lt_pow b1 b2) (pow_mono32 (by omega)), x1.mono (by omega), x2.mono (by omega)⟩
theorem matS_of {a b c d : Rat} {n1 m1 n2 m2 n3 m3 n4 m4 : Nat} (a1 : a.num.natAbs < 2 ^ (32 * n1)) (b1 : a.den < 2 ^ (32 * m1)) (a2 : b.num.natAbs < 2 ^ (32 * n2)) (b2 : b.den < 2 ^ (32 * m2))
    (a3 : c.num.natAbs < 2 ^ (32 * n3)) (b3 : c.den < 2 ^ (32 * m3)) (a4 : d.num.natAbs < 2 ^ (32 * n4)) (b4 : d.den < 2 ^ (32 * m4)) : MatS (n1 + m1 + n2 + m2 + n3 + m3 + n4 + m4) a b c d := by
  obtain ⟨D, d0, d1, x1, x2⟩ := gauS_of a1 b1 a2 b2
  obtain ⟨E, e0, e1, x3, x4⟩ := gauS_of a3 b3 a4 b4
  have y3 := x3.up d1
  have y4 := x4.up d1
  rw [Nat.mul_comm] at y3 y4
  exact ⟨D * E, Nat.mul_pos d0 e0, Nat.lt_of_lt_of_le (mul_lt_pow d1 e1) (pow_mono32 (by omega)), (x1.up e1).mono (by omega), (x2.up e1).mono (by omega), y3.mono (by omega), y4.mono (by omega)⟩
end Go.Proofs.Ytdmdaoginojalaa
