/-
  Spans, plainly: the chapter's numbers, by the bits.
-/
import Derived.Test.YtejlicacndpfpaaDoorSpnL
import Derived.Test.YtejlicacndpfpaaDoorSfO
import Derived.Test.YtejlicacndpfpaaDoorSpnV
namespace Go.Proofs.YtejlicacndpfpaaDoor
open Go.RowKit

theorem low_at {L : List (Int × Nat)} {lo t r : Nat} (h : LowOf L lo) (ht : Flt.Fin t) (hv : Flt.sv t = (Flt.val r : Int)) (h1 : ∀ c ∈ L, Flt.sv t * (c.2 : Int) ≤ c.1) (h2 : ∃ c ∈ L, c.1 < (Flt.val (r + 1) : Int) * (c.2 : Int)) :
    Flt.sv lo = Flt.sv t ∧ Flt.Fin lo ∧ lo < 2 ^ 64 := by
  obtain ⟨c, hc, hd⟩ := h.1
  obtain ⟨c', hc', hlt⟩ := h2
  obtain ⟨e, hde, hle⟩ := h.2 c' hc'
  have a := hd.2.2.2.2 t ht (h1 c hc)
  have b : Flt.sv e ≤ Flt.sv t := by
    rcases fin_or_inf hde.2.1 with hf | hi
    · have h3 := hde.2.2.1 hf
      have h4 : Flt.sv e * (c'.2 : Int) < (Flt.val (r + 1) : Int) * (c'.2 : Int) := Int.lt_of_le_of_lt h3 hlt
      have h5 : Flt.sv e < (Flt.val (r + 1) : Int) := Int.lt_of_mul_lt_mul_right h4 (Int.natCast_nonneg _)
      rw [hv]
      unfold Flt.sv at h5 ⊢
      split
      · omega
      · rename_i hs
        rw [if_neg hs] at h5
        have h6 : Flt.rg e < r + 1 := Flt.lt_of_val (by omega)
        have := Flt.val_le (show Flt.rg e ≤ r by omega)
        omega
    · rw [sv_inf hi, hde.2.2.2.1 hi, if_pos rfl, hv]
      omega
  exact ⟨by omega, hd.finite ht a, hd.1⟩
theorem high_at {L : List (Int × Nat)} {hi t r : Nat} (h : HighOf L hi) (ht : Flt.Fin t) (hv : Flt.sv t = (Flt.val (r + 1) : Int)) (h1 : ∀ c ∈ L, c.1 ≤ Flt.sv t * (c.2 : Int)) (h2 : ∃ c ∈ L, (Flt.val r : Int) * (c.2 : Int) < c.1) :
    Flt.sv hi = Flt.sv t ∧ Flt.Fin hi ∧ hi < 2 ^ 64 := by
  obtain ⟨c, hc, hd⟩ := h.1
  obtain ⟨c', hc', hlt⟩ := h2
  obtain ⟨e, hde, hle⟩ := h.2 c' hc'
  have a := hd.2.2.2.2 t ht (h1 c hc)
  have b : Flt.sv t ≤ Flt.sv e := by
    rcases fin_or_inf hde.2.1 with hf | hi
    · have h3 := hde.2.2.1 hf
      have h4 : (Flt.val r : Int) * (c'.2 : Int) < Flt.sv e * (c'.2 : Int) := Int.lt_of_lt_of_le hlt h3
      have h5 : (Flt.val r : Int) < Flt.sv e := Int.lt_of_mul_lt_mul_right h4 (Int.natCast_nonneg _)
      rw [hv]
      unfold Flt.sv at h5 ⊢
      split
      · rename_i hs
        rw [if_pos hs] at h5
        omega
      · rename_i hs
        rw [if_neg hs] at h5
        have h6 : r < Flt.rg e := Flt.lt_of_val (by omega)
        have := Flt.val_le (show r + 1 ≤ Flt.rg e by omega)
        omega
    · rw [sv_inf hi, hde.2.2.2.1 hi]
      have h7 : Flt.Fin t := ht
      have := (sv_fin ht).2
      simp
      omega
  exact ⟨by omega, hd.finite ht a, hd.1⟩
theorem quo_val1 {p : Nat × Nat × Int} (h : IsQuot (okS 4607182418800017408 4611686018427387904 && okS 4621819117588971520 4626322717216342016) (zB 4621819117588971520 4626322717216342016) (quoC 4607182418800017408 4611686018427387904 4621819117588971520 4626322717216342016) (quoC 4607182418800017408 4611686018427387904 4621819117588971520 4626322717216342016) p) :
    p = (0x3fa9999999999999, 0x3fc999999999999a, 0) := by
  obtain ⟨lo, hi, h1, h2, rfl⟩ := h.2.2 (by decide +kernel) (by decide +kernel)
  have a := low_at (t := 0x3fa9999999999999) (r := 0x3fa9999999999999) h1 (fin_dec (by decide +kernel)) (by decide +kernel) (by decide +kernel) (by decide +kernel)
  have b := high_at (t := 0x3fc999999999999a) (r := 0x3fc9999999999999) h2 (fin_dec (by decide +kernel)) (by decide +kernel) (by decide +kernel) (by decide +kernel)
  rw [endsF_at a b (by decide) (by decide)]
  decide +kernel
theorem quo_val2 {p : Nat × Nat × Int} (h : IsQuot (okS 4607182418800017408 4607182418800017408 && okS 13835058055282163712 13830554455654793216) (zB 13835058055282163712 13830554455654793216) (quoC 4607182418800017408 4607182418800017408 13835058055282163712 13830554455654793216) (quoC 4607182418800017408 4607182418800017408 13835058055282163712 13830554455654793216) p) :
    p = (13830554455654793216, 13826050856027422720, 0) := by
  obtain ⟨lo, hi, h1, h2, rfl⟩ := h.2.2 (by decide +kernel) (by decide +kernel)
  have a := lowOf_least (t := 13830554455654793216) (by unfold Dens; decide +kernel) h1 (fin_dec (by decide +kernel)) (by decide +kernel) (by decide +kernel)
  have b := highOf_most (t := 13826050856027422720) (by unfold Dens; decide +kernel) h2 (fin_dec (by decide +kernel)) (by decide +kernel) (by decide +kernel)
  rw [endsF_at a b (by decide) (by decide)]
  decide +kernel
theorem quo_val3 {L : List (Int × Nat)} {p : Nat × Nat × Int} (h : IsQuot (okS 4607182418800017408 4607182418800017408 && okS 0 4607182418800017408) (zB 0 4607182418800017408) L L p) : p = (0, 0, 3) :=
  h.2.1 (by decide +kernel) (by decide +kernel)
theorem sqr_val {p : Nat × Nat × Int} (h : IsSqr (okS 13830554455654793216 4611686018427387904) (zB 13830554455654793216 4611686018427387904) (sqrC 13830554455654793216 4611686018427387904) p) : p = (0, 4616189618054758400, 0) := by
  obtain ⟨lo, hi, h1, h2, rfl⟩ := h.2 (by decide +kernel)
  have a := lowOf_least (t := 4607182418800017408) (by unfold Dens; decide +kernel) h1 (fin_dec (by decide +kernel)) (by decide +kernel) (by decide +kernel)
  have b := highOf_most (t := 4616189618054758400) (by unfold Dens; decide +kernel) h2 (fin_dec (by decide +kernel)) (by decide +kernel) (by decide +kernel)
  rw [endsF_at a b (by decide) (by decide), show zB 13830554455654793216 4611686018427387904 = true by decide +kernel]
  decide +kernel
theorem add_val {p : Nat × Nat × Int} (h : IsSpan (okS 9218868437227405311 9218868437227405311 && okS 9218868437227405311 9218868437227405311) (addL 9218868437227405311 9218868437227405311 9218868437227405311 9218868437227405311) (addH 9218868437227405311 9218868437227405311 9218868437227405311 9218868437227405311) p) : p = (0, 0, 6) := by
  obtain ⟨lo, hi, _, h2, rfl⟩ := h.2 (by decide +kernel)
  have hf : Flt.finB hi = false := by
    apply Flt.finB_false.2
    intro hf
    obtain ⟨c, hc, hd⟩ := h2.1
    rw [addH, List.mem_singleton] at hc
    subst hc
    have h3 := hd.2.2.1 hf
    have h4 := (sv_fin hf).2
    have h5 : ((Flt.val Flt.inf : Nat) : Int) ≤ Flt.sv 9218868437227405311 + Flt.sv 9218868437227405311 := by decide +kernel
    simp only [Int.natCast_one, Int.mul_one] at h3
    omega
  unfold endsF
  rw [hf, Bool.and_false]
  rfl
theorem root_val {x d u r : Nat} (h : IsRoot x d u) (hp : Flt.Fin x ∧ Flt.sgn x = false ∧ Flt.rg x ≠ 0) (hr : DnSq (Flt.val (Flt.rg x) * 2 ^ Flt.K74) r) : d = r ∧ u = if Flt.val r * Flt.val r = Flt.val (Flt.rg x) * 2 ^ Flt.K74 then r else r + 1 := by
  obtain ⟨s, h1, rfl, h2⟩ := h.2 hp
  obtain rfl := h1.unique hr
  exact ⟨rfl, h2⟩
theorem sqrt_val1 {p : Nat × Nat × Int} (h : SqrtT (SqrtA 4611686018427387904 4611686018427387904) 4611686018427387904 4611686018427387904 p) : p = (0x3ff6a09e667f3bcc, 0x3ff6a09e667f3bcd, 0) := by
  obtain ⟨lo, lu, hd, hi, h1, h2, rfl⟩ := h.2.2 (by decide +kernel) (by decide +kernel)
  rw [show pz (mx 4611686018427387904 0) = 4611686018427387904 by decide +kernel] at h1
  rw [show pz 4611686018427387904 = 4611686018427387904 by decide +kernel] at h2
  have hq : DnSq (Flt.val (Flt.rg 4611686018427387904) * 2 ^ Flt.K74) 0x3ff6a09e667f3bcc := by unfold DnSq; decide +kernel
  have hp : Flt.Fin 4611686018427387904 ∧ Flt.sgn 4611686018427387904 = false ∧ Flt.rg 4611686018427387904 ≠ 0 := ⟨fin_dec (by decide +kernel), by decide +kernel, by decide +kernel⟩
  obtain ⟨rfl, _⟩ := root_val h1 hp hq
  obtain ⟨_, h3⟩ := root_val h2 hp hq
  rw [if_neg (by decide +kernel)] at h3
  subst h3
  decide +kernel
theorem zero_root {d u : Nat} (h : IsRoot 0 d u) : d = 0 := by
  obtain ⟨z, h1, rfl, _⟩ := h.1 (fun k => k.2.2 (by decide))
  have h2 := h1.2
  rw [show Ieee.double.sqrt 0 = some 0 by decide +kernel] at h2
  exact h2
theorem sqrt_val2 {p : Nat × Nat × Int} (h : SqrtT (SqrtA 13830554455654793216 4616189618054758400) 13830554455654793216 4616189618054758400 p) : p = (0, 4611686018427387904, 0) := by
  obtain ⟨lo, lu, hd, hi, h1, h2, rfl⟩ := h.2.2 (by decide +kernel) (by decide +kernel)
  rw [show pz (mx 13830554455654793216 0) = 0 by decide +kernel] at h1
  rw [show pz 4616189618054758400 = 4616189618054758400 by decide +kernel] at h2
  have hq : DnSq (Flt.val (Flt.rg 4616189618054758400) * 2 ^ Flt.K74) 4611686018427387904 := by unfold DnSq; decide +kernel
  have hp : Flt.Fin 4616189618054758400 ∧ Flt.sgn 4616189618054758400 = false ∧ Flt.rg 4616189618054758400 ≠ 0 := ⟨fin_dec (by decide +kernel), by decide +kernel, by decide +kernel⟩
  obtain rfl := zero_root h1
  obtain ⟨_, h3⟩ := root_val h2 hp hq
  rw [if_pos (by decide +kernel)] at h3
  subst h3
  decide +kernel
theorem sqrt_val3 {A : Nat × Nat × Int → Prop} {p : Nat × Nat × Int} (h : SqrtT A 13835058055282163712 13830554455654793216 p) : p = (0, 0, 1) :=
  h.2.1 (by decide +kernel) (by decide +kernel)
/-- A third, between floats. -/
theorem third_val {f : LmE} {p : Nat × Nat × Int} (ho : okB f = true) (hr : rv f = (1 / 3 : Rat)) (h : SpOf f p) : p = (0x3fd5555555555555, 0x3fd5555555555556, 0) := by
  obtain ⟨d, u, h1, h2, rfl⟩ := h.2 ho
  rw [hr] at h1 h2
  have a := low_at (t := 0x3fd5555555555555) (r := 0x3fd5555555555555) (lowOf_one h1) (fin_dec (by decide +kernel)) (by decide +kernel) (by decide +kernel) (by decide +kernel)
  have b := high_at (t := 0x3fd5555555555556) (r := 0x3fd5555555555555) (highOf_one h2) (fin_dec (by decide +kernel)) (by decide +kernel) (by decide +kernel) (by decide +kernel)
  rw [endsF_at a b (by decide) (by decide)]
  decide +kernel
end Go.Proofs.YtejlicacndpfpaaDoor
