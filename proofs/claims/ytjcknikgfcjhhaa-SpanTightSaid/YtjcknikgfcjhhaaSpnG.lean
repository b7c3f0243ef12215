/-
  Spans, plainly: what is done to greater spans.
-/
import Derived.Test.YtjcknikgfcjhhaaSpnR
namespace Go.Proofs.Ytjcknikgfcjhhaa
open Go.RowKit

/-! ### products of what lies between -/
theorem bil_low {X x Z Y y W : Int} (h1 : X ≤ x) (h2 : x ≤ Z) (h3 : Y ≤ y) (h4 : y ≤ W) : X * Y ≤ x * y ∨ X * W ≤ x * y ∨ Z * Y ≤ x * y ∨ Z * W ≤ x * y := by
  rcases Int.le_total 0 y with hy | hy
  · have a : X * y ≤ x * y := Int.mul_le_mul_of_nonneg_right h1 hy
    rcases Int.le_total 0 X with hx | hx
    · exact .inl (Int.le_trans (Int.mul_le_mul_of_nonneg_left h3 hx) a)
    · exact .inr (.inl (Int.le_trans (Int.mul_le_mul_of_nonpos_left hx h4) a))
  · have a : Z * y ≤ x * y := Int.mul_le_mul_of_nonpos_right h2 hy
    rcases Int.le_total 0 Z with hx | hx
    · exact .inr (.inr (.inl (Int.le_trans (Int.mul_le_mul_of_nonneg_left h3 hx) a)))
    · exact .inr (.inr (.inr (Int.le_trans (Int.mul_le_mul_of_nonpos_left hx h4) a)))
theorem bil_high {X x Z Y y W : Int} (h1 : X ≤ x) (h2 : x ≤ Z) (h3 : Y ≤ y) (h4 : y ≤ W) : x * y ≤ X * Y ∨ x * y ≤ X * W ∨ x * y ≤ Z * Y ∨ x * y ≤ Z * W := by
  have := bil_low (X := -Z) (x := -x) (Z := -X) (Y := Y) (y := y) (W := W) (by omega) (by omega) h3 h4
  rw [Int.neg_mul, Int.neg_mul, Int.neg_mul, Int.neg_mul, Int.neg_mul] at this
  omega
def mulC (la ha lb hb : Nat) : List (Int × Nat) :=
  [(Flt.sv la * Flt.sv lb, 2 ^ Flt.K74), (Flt.sv la * Flt.sv hb, 2 ^ Flt.K74), (Flt.sv ha * Flt.sv lb, 2 ^ Flt.K74), (Flt.sv ha * Flt.sv hb, 2 ^ Flt.K74)]
def quoC (la ha lb hb : Nat) : List (Int × Nat) :=
  [(qn la lb, Flt.val (Flt.rg lb)), (qn la hb, Flt.val (Flt.rg hb)), (qn ha lb, Flt.val (Flt.rg lb)), (qn ha hb, Flt.val (Flt.rg hb))]
def sqrC (la ha : Nat) : List (Int × Nat) := [(Flt.sv la * Flt.sv la, 2 ^ Flt.K74), (Flt.sv ha * Flt.sv ha, 2 ^ Flt.K74)]
theorem mulC_dens (la ha lb hb : Nat) : Dens (mulC la ha lb hb) := by
  intro c hc
  have hp : 0 < 2 ^ Flt.K74 := Nat.two_pow_pos _
  simp only [mulC, List.mem_cons, List.not_mem_nil, or_false] at hc
  rcases hc with rfl | rfl | rfl | rfl <;> exact hp
theorem sqrC_dens (la ha : Nat) : Dens (sqrC la ha) := by
  intro c hc
  have hp : 0 < 2 ^ Flt.K74 := Nat.two_pow_pos _
  simp only [sqrC, List.mem_cons, List.not_mem_nil, or_false] at hc
  rcases hc with rfl | rfl <;> exact hp
theorem quoC_dens {la ha lb hb : Nat} (h1 : Flt.rg lb ≠ 0) (h2 : Flt.rg hb ≠ 0) : Dens (quoC la ha lb hb) := by
  intro c hc
  simp only [quoC, List.mem_cons, List.not_mem_nil, or_false] at hc
  rcases hc with rfl | rfl | rfl | rfl
  · exact val_pos h1
  · exact val_pos h2
  · exact val_pos h1
  · exact val_pos h2

/-- One corner of the smaller against those of the greater. -/
theorem mul_corner_low {la ha lb hb x y : Nat} (h1 : Flt.sv la ≤ Flt.sv x) (h2 : Flt.sv x ≤ Flt.sv ha) (h3 : Flt.sv lb ≤ Flt.sv y) (h4 : Flt.sv y ≤ Flt.sv hb) :
    ∃ c' ∈ mulC la ha lb hb, c'.1 * ((2 ^ Flt.K74 : Nat) : Int) ≤ Flt.sv x * Flt.sv y * c'.2 := by
  have hp : (0 : Int) ≤ ((2 ^ Flt.K74 : Nat) : Int) := Int.natCast_nonneg _
  rcases bil_low h1 h2 h3 h4 with h | h | h | h
  · exact ⟨(_, _), by unfold mulC; exact List.mem_cons_self, Int.mul_le_mul_of_nonneg_right h hp⟩
  · exact ⟨(_, _), by unfold mulC; exact List.mem_cons_of_mem _ List.mem_cons_self, Int.mul_le_mul_of_nonneg_right h hp⟩
  · exact ⟨(_, _), by unfold mulC; exact List.mem_cons_of_mem _ (List.mem_cons_of_mem _ List.mem_cons_self), Int.mul_le_mul_of_nonneg_right h hp⟩
  · exact ⟨(_, _), by unfold mulC; exact List.mem_cons_of_mem _ (List.mem_cons_of_mem _ (List.mem_cons_of_mem _ List.mem_cons_self)), Int.mul_le_mul_of_nonneg_right h hp⟩
theorem mul_corner_high {la ha lb hb x y : Nat} (h1 : Flt.sv la ≤ Flt.sv x) (h2 : Flt.sv x ≤ Flt.sv ha) (h3 : Flt.sv lb ≤ Flt.sv y) (h4 : Flt.sv y ≤ Flt.sv hb) :
    ∃ c' ∈ mulC la ha lb hb, Flt.sv x * Flt.sv y * c'.2 ≤ c'.1 * ((2 ^ Flt.K74 : Nat) : Int) := by
  have hp : (0 : Int) ≤ ((2 ^ Flt.K74 : Nat) : Int) := Int.natCast_nonneg _
  rcases bil_high h1 h2 h3 h4 with h | h | h | h
  · exact ⟨(_, _), by unfold mulC; exact List.mem_cons_self, Int.mul_le_mul_of_nonneg_right h hp⟩
  · exact ⟨(_, _), by unfold mulC; exact List.mem_cons_of_mem _ List.mem_cons_self, Int.mul_le_mul_of_nonneg_right h hp⟩
  · exact ⟨(_, _), by unfold mulC; exact List.mem_cons_of_mem _ (List.mem_cons_of_mem _ List.mem_cons_self), Int.mul_le_mul_of_nonneg_right h hp⟩
  · exact ⟨(_, _), by unfold mulC; exact List.mem_cons_of_mem _ (List.mem_cons_of_mem _ (List.mem_cons_of_mem _ List.mem_cons_self)), Int.mul_le_mul_of_nonneg_right h hp⟩

/-- Does the one span lie within the other one, by worth? -/
def Within (la ha LA HA : Nat) : Prop := Flt.sv LA ≤ Flt.sv la ∧ Flt.sv la ≤ Flt.sv ha ∧ Flt.sv ha ≤ Flt.sv HA
theorem mul_grow {la ha lb hb LA HA LB HB lo hi LO HI : Nat} (wa : Within la ha LA HA) (wb : Within lb hb LB HB)
    (h1 : LowOf (mulC la ha lb hb) lo) (h2 : HighOf (mulC la ha lb hb) hi) (h3 : LowOf (mulC LA HA LB HB) LO) (h4 : HighOf (mulC LA HA LB HB) HI) : Within lo hi LO HI := by
  obtain ⟨a1, a2, a3⟩ := wa
  obtain ⟨b1, b2, b3⟩ := wb
  refine ⟨h3.mono (mulC_dens _ _ _ _) (mulC_dens _ _ _ _) h1 fun c hc => ?_, h1.le_high (mulC_dens _ _ _ _) (mulC_dens _ _ _ _) h2 ?_, h4.mono (mulC_dens _ _ _ _) (mulC_dens _ _ _ _) h2 fun c hc => ?_⟩
  · simp only [mulC, List.mem_cons, List.not_mem_nil, or_false] at hc
    rcases hc with rfl | rfl | rfl | rfl <;> exact mul_corner_low (by omega) (by omega) (by omega) (by omega)
  · exact ⟨(_, _), by unfold mulC; exact List.mem_cons_self, (_, _), by unfold mulC; exact List.mem_cons_self, Int.le_refl _⟩
  · simp only [mulC, List.mem_cons, List.not_mem_nil, or_false] at hc
    rcases hc with rfl | rfl | rfl | rfl <;> exact mul_corner_high (by omega) (by omega) (by omega) (by omega)

/-! ### quotients -/
/-- Both ends on the same side of nought. -/
def Side (lb hb : Nat) : Prop := 0 < Flt.sv lb ∧ 0 < Flt.sv hb ∨ Flt.sv lb < 0 ∧ Flt.sv hb < 0
theorem val_sv_pos {y : Nat} (h : 0 < Flt.sv y) (x : Nat) : (Flt.val (Flt.rg y) : Int) = Flt.sv y ∧ qn x y = Flt.sv x * (2 ^ Flt.K74 : Nat) := by
  unfold qn
  cases hs : Flt.sgn y with
  | true => unfold Flt.sv at h; rw [hs, if_pos rfl] at h; omega
  | false => exact ⟨by unfold Flt.sv; rw [hs]; rfl, rfl⟩
theorem val_sv_neg {y : Nat} (h : Flt.sv y < 0) (x : Nat) : (Flt.val (Flt.rg y) : Int) = -Flt.sv y ∧ qn x y = -(Flt.sv x * (2 ^ Flt.K74 : Nat)) := by
  unfold qn
  cases hs : Flt.sgn y with
  | true => exact ⟨by unfold Flt.sv; rw [hs, if_pos rfl]; omega, by rw [if_pos rfl, Int.neg_mul]⟩
  | false => unfold Flt.sv at h; rw [hs, if_neg (by simp)] at h; omega
theorem scale_le {a b c d k : Int} (hk : 0 ≤ k) (h : a * b ≤ c * d) : a * k * b ≤ c * k * d := by
  have := Int.mul_le_mul_of_nonneg_right h hk
  rw [Int.mul_assoc, Int.mul_comm k, ← Int.mul_assoc, Int.mul_assoc c, Int.mul_comm k, ← Int.mul_assoc]
  exact this
/-- Quotients, one against the other one, both divisors above nought; below. -/
theorem quo_le_pos {x y X Y : Nat} (hy : 0 < Flt.sv y) (hY : 0 < Flt.sv Y) (h : Flt.sv X * Flt.sv y ≤ Flt.sv x * Flt.sv Y) : qn X Y * Flt.val (Flt.rg y) ≤ qn x y * Flt.val (Flt.rg Y) := by
  rw [(val_sv_pos hy x).1, (val_sv_pos hY X).1, (val_sv_pos hy x).2, (val_sv_pos hY X).2]
  exact scale_le (Int.natCast_nonneg _) h
theorem quo_le_neg {x y X Y : Nat} (hy : Flt.sv y < 0) (hY : Flt.sv Y < 0) (h : Flt.sv X * Flt.sv y ≤ Flt.sv x * Flt.sv Y) : qn X Y * Flt.val (Flt.rg y) ≤ qn x y * Flt.val (Flt.rg Y) := by
  rw [(val_sv_neg hy x).1, (val_sv_neg hY X).1, (val_sv_neg hy x).2, (val_sv_neg hY X).2]
  rw [Int.neg_mul_neg, Int.neg_mul_neg]
  exact scale_le (Int.natCast_nonneg _) h
theorem mem4 {α : Type} {a b c d x : α} (h : x = a ∨ x = b ∨ x = c ∨ x = d) : x ∈ [a, b, c, d] := by simpa using h
theorem quo_corner_low {la ha lb hb x y : Nat} (h1 : Flt.sv la ≤ Flt.sv x) (h2 : Flt.sv x ≤ Flt.sv ha) (h3 : Flt.sv lb ≤ Flt.sv y) (h4 : Flt.sv y ≤ Flt.sv hb) (hs : Side lb hb) :
    ∃ c' ∈ quoC la ha lb hb, c'.1 * Flt.val (Flt.rg y) ≤ qn x y * c'.2 := by
  rcases hs with ⟨p1, p2⟩ | ⟨p1, p2⟩
  · have hy : 0 < Flt.sv y := by omega
    have a : Flt.sv la * Flt.sv y ≤ Flt.sv x * Flt.sv y := Int.mul_le_mul_of_nonneg_right h1 (by omega)
    rcases Int.le_total 0 (Flt.sv x) with hx | hx
    · exact ⟨(qn la hb, _), mem4 (.inr (.inl rfl)), quo_le_pos hy p2 (Int.le_trans a (Int.mul_le_mul_of_nonneg_left h4 hx))⟩
    · exact ⟨(qn la lb, _), mem4 (.inl rfl), quo_le_pos hy p1 (Int.le_trans a (Int.mul_le_mul_of_nonpos_left hx h3))⟩
  · have hy : Flt.sv y < 0 := by omega
    have a : Flt.sv ha * Flt.sv y ≤ Flt.sv x * Flt.sv y := Int.mul_le_mul_of_nonpos_right h2 (by omega)
    rcases Int.le_total 0 (Flt.sv x) with hx | hx
    · exact ⟨(qn ha hb, _), mem4 (.inr (.inr (.inr rfl))), quo_le_neg hy p2 (Int.le_trans a (Int.mul_le_mul_of_nonneg_left h4 hx))⟩
    · exact ⟨(qn ha lb, _), mem4 (.inr (.inr (.inl rfl))), quo_le_neg hy p1 (Int.le_trans a (Int.mul_le_mul_of_nonpos_left hx h3))⟩
theorem quo_corner_high {la ha lb hb x y : Nat} (h1 : Flt.sv la ≤ Flt.sv x) (h2 : Flt.sv x ≤ Flt.sv ha) (h3 : Flt.sv lb ≤ Flt.sv y) (h4 : Flt.sv y ≤ Flt.sv hb) (hs : Side lb hb) :
    ∃ c' ∈ quoC la ha lb hb, qn x y * c'.2 ≤ c'.1 * Flt.val (Flt.rg y) := by
  rcases hs with ⟨p1, p2⟩ | ⟨p1, p2⟩
  · have hy : 0 < Flt.sv y := by omega
    have a : Flt.sv x * Flt.sv y ≤ Flt.sv ha * Flt.sv y := Int.mul_le_mul_of_nonneg_right h2 (by omega)
    rcases Int.le_total 0 (Flt.sv x) with hx | hx
    · exact ⟨(qn ha lb, _), mem4 (.inr (.inr (.inl rfl))), quo_le_pos p1 hy (Int.le_trans (Int.mul_le_mul_of_nonneg_left h3 hx) a)⟩
    · exact ⟨(qn ha hb, _), mem4 (.inr (.inr (.inr rfl))), quo_le_pos p2 hy (Int.le_trans (Int.mul_le_mul_of_nonpos_left hx h4) a)⟩
  · have hy : Flt.sv y < 0 := by omega
    have a : Flt.sv x * Flt.sv y ≤ Flt.sv la * Flt.sv y := Int.mul_le_mul_of_nonpos_right h1 (by omega)
    rcases Int.le_total 0 (Flt.sv x) with hx | hx
    · exact ⟨(qn la lb, _), mem4 (.inl rfl), quo_le_neg p1 hy (Int.le_trans (Int.mul_le_mul_of_nonneg_left h3 hx) a)⟩
    · exact ⟨(qn la hb, _), mem4 (.inr (.inl rfl)), quo_le_neg p2 hy (Int.le_trans (Int.mul_le_mul_of_nonpos_left hx h4) a)⟩
theorem side_rg {lb hb : Nat} (h : Side lb hb) : Flt.rg lb ≠ 0 ∧ Flt.rg hb ≠ 0 := by
  constructor <;> (intro k; have := Flt.sv_zero_iff.2 k; unfold Side at h; omega)
theorem side_within {lb hb LB HB : Nat} (w : Within lb hb LB HB) (h : Side LB HB) : Side lb hb := by
  unfold Within at w; unfold Side at h ⊢; omega
theorem quo_grow {la ha lb hb LA HA LB HB lo hi LO HI : Nat} (wa : Within la ha LA HA) (wb : Within lb hb LB HB) (hs : Side LB HB)
    (h1 : LowOf (quoC la ha lb hb) lo) (h2 : HighOf (quoC la ha lb hb) hi) (h3 : LowOf (quoC LA HA LB HB) LO) (h4 : HighOf (quoC LA HA LB HB) HI) : Within lo hi LO HI := by
  have hs' := side_within wb hs
  have d1 := quoC_dens (la := la) (ha := ha) (side_rg hs').1 (side_rg hs').2
  have d2 := quoC_dens (la := LA) (ha := HA) (side_rg hs).1 (side_rg hs).2
  obtain ⟨a1, a2, a3⟩ := wa
  obtain ⟨b1, b2, b3⟩ := wb
  refine ⟨h3.mono d2 d1 h1 fun c hc => ?_, h1.le_high d1 d1 h2 ?_, h4.mono d2 d1 h2 fun c hc => ?_⟩
  · simp only [quoC, List.mem_cons, List.not_mem_nil, or_false] at hc
    rcases hc with rfl | rfl | rfl | rfl <;> exact quo_corner_low (by omega) (by omega) (by omega) (by omega) hs
  · exact ⟨(_, _), by unfold quoC; exact List.mem_cons_self, (_, _), by unfold quoC; exact List.mem_cons_self, Int.le_refl _⟩
  · simp only [quoC, List.mem_cons, List.not_mem_nil, or_false] at hc
    rcases hc with rfl | rfl | rfl | rfl <;> exact quo_corner_high (by omega) (by omega) (by omega) (by omega) hs

/-! ### sums, squares -/
theorem one_grow {z z' Z Z' : Int} {lo hi LO HI : Nat} (h1 : Down z 1 lo) (h2 : Up z' 1 hi) (h3 : Down Z 1 LO) (h4 : Up Z' 1 HI) (a : Z ≤ z) (b : z ≤ z') (c : z' ≤ Z') : Within lo hi LO HI := by
  have e : ∀ {p q : Int}, p ≤ q → p * (1 : Nat) ≤ q * (1 : Nat) := by intro p q h; omega
  refine ⟨h3.mono h1 (by omega) (by omega) (e a), ?_, h2.mono h4 (by omega) (by omega) (e c)⟩
  have l1 : LowOf [(z, 1)] lo := ⟨⟨_, List.mem_cons_self, h1⟩, fun c hc => by
    rw [List.mem_singleton] at hc; subst hc; exact ⟨lo, h1, Int.le_refl _⟩⟩
  have l2 : HighOf [(z', 1)] hi := ⟨⟨_, List.mem_cons_self, h2⟩, fun c hc => by
    rw [List.mem_singleton] at hc; subst hc; exact ⟨hi, h2, Int.le_refl _⟩⟩
  have d : ∀ z : Int, Dens [(z, 1)] := fun z c hc => by rw [List.mem_singleton] at hc; subst hc; exact Nat.one_pos
  exact l1.le_high (d _) (d _) l2 ⟨_, List.mem_cons_self, _, List.mem_cons_self, e b⟩
end Go.Proofs.Ytjcknikgfcjhhaa
