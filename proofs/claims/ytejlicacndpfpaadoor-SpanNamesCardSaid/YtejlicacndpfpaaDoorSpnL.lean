/-
  Spans: whether two are the same; the chapter's examples (polestarlaw05.lives).
-/
import Derived.Test.YtejlicacndpfpaaDoorSpnD
import Derived.Test.YtejlicacndpfpaaDoorSqW
import Derived.Test.YtejlicacndpfpaaDoorRndU
namespace Go.Proofs.YtejlicacndpfpaaDoor
open Go.RowKit

/-! ### the examples -/
def UU : Int := ((2 ^ Flt.K74 : Nat) : Int)
theorem UU_pos : 0 < UU := by unfold UU; have := Nat.two_pow_pos Flt.K74; omega
theorem sv_int {x m : Nat} (hm : m < 2 ^ 53) (h : Flt.rg x = Flt.whole m) : Flt.sv x = if Flt.sgn x then -((m : Int) * UU) else (m : Int) * UU := by
  unfold Flt.sv UU
  rw [h, Flt.val_whole hm, Int.natCast_mul]
theorem lowOf_least {L : List (Int × Nat)} {lo t : Nat} (hD : Dens L) (h : LowOf L lo) (ht : Flt.Fin t) (h1 : ∀ c ∈ L, Flt.sv t * c.2 ≤ c.1) (h2 : ∃ c ∈ L, Flt.sv t * c.2 = c.1) : Flt.sv lo = Flt.sv t ∧ Flt.Fin lo ∧ lo < 2 ^ 64 := by
  obtain ⟨c, hc, hd⟩ := h.1
  obtain ⟨c', hc', he⟩ := h2
  obtain ⟨e, hde, hle⟩ := h.2 c' hc'
  have a := hd.2.2.2.2 t ht (h1 c hc)
  have b := hde.exact (hD c' hc') ht he
  exact ⟨by omega, hd.finite ht a, hd.1⟩
theorem highOf_most {L : List (Int × Nat)} {hi t : Nat} (hD : Dens L) (h : HighOf L hi) (ht : Flt.Fin t) (h1 : ∀ c ∈ L, c.1 ≤ Flt.sv t * c.2) (h2 : ∃ c ∈ L, Flt.sv t * c.2 = c.1) : Flt.sv hi = Flt.sv t ∧ Flt.Fin hi ∧ hi < 2 ^ 64 := by
  obtain ⟨c, hc, hd⟩ := h.1
  obtain ⟨c', hc', he⟩ := h2
  obtain ⟨e, hde, hle⟩ := h.2 c' hc'
  have a := hd.2.2.2.2 t ht (h1 c hc)
  have b := hde.exact (hD c' hc') ht he
  exact ⟨by omega, hd.finite ht a, hd.1⟩
theorem endsF_at {lo hi t s : Nat} (h1 : Flt.sv lo = Flt.sv t ∧ Flt.Fin lo ∧ lo < 2 ^ 64) (h2 : Flt.sv hi = Flt.sv s ∧ Flt.Fin hi ∧ hi < 2 ^ 64) (ht : t < 2 ^ 64) (hs : s < 2 ^ 64) : endsF lo hi = (pz t, pz s, 0) := by
  unfold endsF
  rw [Flt.finB_iff.2 h1.2.1, Flt.finB_iff.2 h2.2.1, pz_same h1.2.2 ht h1.1, pz_same h2.2.2 hs h2.1]
  rfl
theorem fin_dec {x : Nat} (h : Flt.finB x = true) : Flt.Fin x := Flt.finB_iff.1 h
theorem add_lives {p : Nat × Nat × Int} (h : IsSpan (okS 4607182418800017408 4611686018427387904 && okS 4621819117588971520 4626322717216342016) (addL 4607182418800017408 4611686018427387904 4621819117588971520 4626322717216342016) (addH 4607182418800017408 4611686018427387904 4621819117588971520 4626322717216342016) p) :
    p = (4622382067542392832, 4626885667169763328, 0) := by
  obtain ⟨lo, hi, h1, h2, rfl⟩ := h.2 (by decide +kernel)
  have d : ∀ z : Int, Dens [(z, 1)] := fun z c hc => by rw [List.mem_singleton] at hc; subst hc; exact Nat.one_pos
  have v1 := sv_int (x := 4607182418800017408) (m := 1) (by decide) (by decide +kernel)
  have v2 := sv_int (x := 4611686018427387904) (m := 2) (by decide) (by decide +kernel)
  have v10 := sv_int (x := 4621819117588971520) (m := 10) (by decide) (by decide +kernel)
  have v20 := sv_int (x := 4626322717216342016) (m := 20) (by decide) (by decide +kernel)
  have v11 := sv_int (x := 4622382067542392832) (m := 11) (by decide) (by decide +kernel)
  have v22 := sv_int (x := 4626885667169763328) (m := 22) (by decide) (by decide +kernel)
  rw [if_neg (by decide +kernel)] at v1 v2 v10 v20 v11 v22
  have e1 : Flt.sv 4622382067542392832 * (1 : Nat) = Flt.sv 4607182418800017408 + Flt.sv 4621819117588971520 := by rw [v1, v10, v11]; omega
  have e2 : Flt.sv 4626885667169763328 * (1 : Nat) = Flt.sv 4611686018427387904 + Flt.sv 4626322717216342016 := by rw [v2, v20, v22]; omega
  have a := lowOf_least (t := 4622382067542392832) (d _) h1 (fin_dec (by decide +kernel)) (fun c hc => by rw [List.mem_singleton] at hc; subst hc; exact Int.le_of_eq e1) ⟨_, List.mem_singleton.2 rfl, e1⟩
  have b := highOf_most (t := 4626885667169763328) (d _) h2 (fin_dec (by decide +kernel)) (fun c hc => by rw [List.mem_singleton] at hc; subst hc; exact Int.le_of_eq e2.symm) ⟨_, List.mem_singleton.2 rfl, e2⟩
  rw [endsF_at a b (by decide) (by decide)]
  decide +kernel
theorem mul_U (a b : Int) : a * UU * (b * UU) = a * b * (UU * UU) := by
  rw [Int.mul_assoc, Int.mul_left_comm UU, ← Int.mul_assoc]
theorem mul_lives {p : Nat × Nat × Int} (h : IsSpan (okS 13830554455654793216 4611686018427387904 && okS 13837309855095848960 4616189618054758400) (mulC 13830554455654793216 4611686018427387904 13837309855095848960 4616189618054758400) (mulC 13830554455654793216 4611686018427387904 13837309855095848960 4616189618054758400) p) :
    p = (13841813454723219456, 4620693217682128896, 0) := by
  obtain ⟨lo, hi, h1, h2, rfl⟩ := h.2 (by decide +kernel)
  have v1 := sv_int (x := 13830554455654793216) (m := 1) (by decide) (by decide +kernel)
  have v2 := sv_int (x := 4611686018427387904) (m := 2) (by decide) (by decide +kernel)
  have v3 := sv_int (x := 13837309855095848960) (m := 3) (by decide) (by decide +kernel)
  have v4 := sv_int (x := 4616189618054758400) (m := 4) (by decide) (by decide +kernel)
  have v6 := sv_int (x := 13841813454723219456) (m := 6) (by decide) (by decide +kernel)
  have v8 := sv_int (x := 4620693217682128896) (m := 8) (by decide) (by decide +kernel)
  rw [if_pos (by decide +kernel)] at v1 v3 v6
  rw [if_neg (by decide +kernel)] at v2 v4 v8
  have hq : 0 < UU * UU := Int.mul_pos UU_pos UU_pos
  have hU : ((2 ^ Flt.K74 : Nat) : Int) = UU := rfl
  have f : ∀ x : Int, x * UU = x * UU := fun _ => rfl
  have n1 : Flt.sv 13830554455654793216 = -1 * UU := by rw [v1]; omega
  have n3 : Flt.sv 13837309855095848960 = -3 * UU := by rw [v3]; omega
  have n6 : Flt.sv 13841813454723219456 * UU = -6 * (UU * UU) := by rw [v6, Int.neg_mul, Int.mul_assoc]; omega
  have n8 : Flt.sv 4620693217682128896 * UU = 8 * (UU * UU) := by rw [v8, Int.mul_assoc]; omega
  have c0 : Flt.sv 13830554455654793216 * Flt.sv 13837309855095848960 = 3 * (UU * UU) := by rw [n1, n3, mul_U]; omega
  have c1 : Flt.sv 13830554455654793216 * Flt.sv 4616189618054758400 = -4 * (UU * UU) := by rw [n1, v4, mul_U]; omega
  have c2 : Flt.sv 4611686018427387904 * Flt.sv 13837309855095848960 = -6 * (UU * UU) := by rw [v2, n3, mul_U]; omega
  have c3 : Flt.sv 4611686018427387904 * Flt.sv 4616189618054758400 = 8 * (UU * UU) := by rw [v2, v4, mul_U]; omega
  have a := lowOf_least (t := 13841813454723219456) (mulC_dens _ _ _ _) h1 (fin_dec (by decide +kernel)) (fun c hc => by
    simp only [mulC, List.mem_cons, List.not_mem_nil, or_false] at hc
    rcases hc with rfl | rfl | rfl | rfl
    · show Flt.sv 13841813454723219456 * UU ≤ Flt.sv 13830554455654793216 * Flt.sv 13837309855095848960
      omega
    · show Flt.sv 13841813454723219456 * UU ≤ Flt.sv 13830554455654793216 * Flt.sv 4616189618054758400
      omega
    · show Flt.sv 13841813454723219456 * UU ≤ Flt.sv 4611686018427387904 * Flt.sv 13837309855095848960
      omega
    · show Flt.sv 13841813454723219456 * UU ≤ Flt.sv 4611686018427387904 * Flt.sv 4616189618054758400
      omega) ⟨(_, 2 ^ Flt.K74), by unfold mulC; exact mem4 (.inr (.inr (.inl rfl))), n6.trans c2.symm⟩
  have b := highOf_most (t := 4620693217682128896) (mulC_dens _ _ _ _) h2 (fin_dec (by decide +kernel)) (fun c hc => by
    simp only [mulC, List.mem_cons, List.not_mem_nil, or_false] at hc
    rcases hc with rfl | rfl | rfl | rfl
    · show Flt.sv 13830554455654793216 * Flt.sv 13837309855095848960 ≤ Flt.sv 4620693217682128896 * UU
      omega
    · show Flt.sv 13830554455654793216 * Flt.sv 4616189618054758400 ≤ Flt.sv 4620693217682128896 * UU
      omega
    · show Flt.sv 4611686018427387904 * Flt.sv 13837309855095848960 ≤ Flt.sv 4620693217682128896 * UU
      omega
    · show Flt.sv 4611686018427387904 * Flt.sv 4616189618054758400 ≤ Flt.sv 4620693217682128896 * UU
      omega) ⟨(_, 2 ^ Flt.K74), by unfold mulC; exact mem4 (.inr (.inr (.inr rfl))), n8.trans c3.symm⟩
  rw [endsF_at a b (by decide) (by decide)]
  decide +kernel
theorem quo_lives {L : List (Int × Nat)} {p : Nat × Nat × Int} (h : IsQuot (okS 4607182418800017408 4611686018427387904 && okS 13830554455654793216 4607182418800017408) (zB 13830554455654793216 4607182418800017408) L L p) : p = (0, 0, 3) :=
  h.2.1 (by decide +kernel) (by decide +kernel)
end Go.Proofs.YtejlicacndpfpaaDoor
