/-
  Discs of turns, plainly: the steps' spans stay within bounds.
-/
import Derived.Test.YtdmdaoginojalaaGreatDoorSnP
import Derived.Test.YtdmdaoginojalaaGreatDoorSpnU
namespace Go.Proofs.YtdmdaoginojalaaGreatDoor
open Go.RowKit

theorem sv_o : Flt.sv 4607182418800017408 = UU := by decide +kernel
theorem sv_t : Flt.sv 4611686018427387904 = 2 * UU := by decide +kernel
theorem sv_h : 2 * Flt.sv 4602678819172646912 = UU := by decide +kernel
theorem fin_o : Flt.Fin 4607182418800017408 := fin_dec (by decide +kernel)
theorem fin_t : Flt.Fin 4611686018427387904 := fin_dec (by decide +kernel)
theorem fin_h : Flt.Fin 4602678819172646912 := fin_dec (by decide +kernel)
/-- A span that may be, from x to y. -/
def Rng (p : Nat × Nat) (x y : Int) : Prop := p.1 < 2 ^ 64 ∧ p.2 < 2 ^ 64 ∧ Flt.Fin p.1 ∧ Flt.Fin p.2 ∧ x ≤ Flt.sv p.1 ∧ Flt.sv p.1 ≤ Flt.sv p.2 ∧ Flt.sv p.2 ≤ y
theorem Rng.ok {p : Nat × Nat} {x y : Int} (h : Rng p x y) : okS p.1 p.2 = true := okS_iff.2 ⟨h.2.2.1, h.2.2.2.1, h.2.2.2.2.2.1⟩
theorem rng_of {L H : List (Int × Nat)} {lo hi x y : Nat} (hL : Dens L) (hH : Dens H) (h1 : LowOf L lo) (h2 : HighOf H hi) (hx : Flt.Fin x) (hy : Flt.Fin y) (a : ∀ c ∈ L, Flt.sv x * (c.2 : Int) ≤ c.1) (b : ∀ c ∈ H, c.1 ≤ Flt.sv y * (c.2 : Int))
    (hlm : ∃ c ∈ L, ∃ c' ∈ H, c.1 * (c'.2 : Int) ≤ c'.1 * (c.2 : Int)) : ∃ p : Nat × Nat, endsF lo hi = (p.1, p.2, 0) ∧ Rng p (Flt.sv x) (Flt.sv y) := by
  obtain ⟨c, hc, hd⟩ := h1.1
  obtain ⟨c', hc', hu⟩ := h2.1
  have a1 := hd.2.2.2.2 x hx (a c hc)
  have b1 := hu.2.2.2.2 y hy (b c' hc')
  have fl := hd.finite hx a1
  have fh := hu.finite hy b1
  refine ⟨(pz lo, pz hi), ?_, pz_lt hd.1, pz_lt hu.1, fin_pz fl, fin_pz fh, ?_, ?_, ?_⟩
  · unfold endsF
    rw [Flt.finB_iff.2 fl, Flt.finB_iff.2 fh]
    rfl
  · rw [sv_pz]; exact a1
  · rw [sv_pz, sv_pz]; exact h1.le_high hL hH h2 hlm
  · rw [sv_pz]; exact b1
theorem add_rng {c : Nat × Nat} {p : Nat × Nat × Int} (hc : Rng c 0 UU) (h : IsSpan (okS 4607182418800017408 4607182418800017408 && okS c.1 c.2) (addL 4607182418800017408 4607182418800017408 c.1 c.2) (addH 4607182418800017408 4607182418800017408 c.1 c.2) p) : ∃ a : Nat × Nat, p = (a.1, a.2, 0) ∧ Rng a UU (2 * UU) := by
  obtain ⟨lo, hi, h1, h2, rfl⟩ := h.2 (by rw [hc.ok]; decide +kernel)
  obtain ⟨_, _, _, _, c1, c2, c3⟩ := hc
  have d : ∀ z : Int, Dens [(z, 1)] := fun z c hc => by rw [List.mem_singleton] at hc; subst hc; exact Nat.one_pos
  obtain ⟨q, e, hq⟩ := rng_of (x := 4607182418800017408) (y := 4611686018427387904) (d _) (d _) h1 h2 fin_o fin_t
    (fun e he => by obtain rfl : e = (Flt.sv 4607182418800017408 + Flt.sv c.1, 1) := List.mem_singleton.1 he; rw [sv_o]; simp only [Int.natCast_one, Int.mul_one]; omega)
    (fun e he => by obtain rfl : e = (Flt.sv 4607182418800017408 + Flt.sv c.2, 1) := List.mem_singleton.1 he; rw [sv_o, sv_t]; simp only [Int.natCast_one, Int.mul_one]; omega)
    ⟨_, List.mem_singleton.2 rfl, _, List.mem_singleton.2 rfl, by simp only [Int.natCast_one, Int.mul_one]; omega⟩
  rw [sv_o, sv_t] at hq
  exact ⟨q, e, hq⟩
theorem four_mem {α : Type} {a b c d x : α} (h : x ∈ [a, b, c, d]) : x = a ∨ x = b ∨ x = c ∨ x = d := by
  simpa using h
theorem sgn_pos {x : Nat} (h : 0 < Flt.sv x) : Flt.sgn x = false ∧ ((Flt.val (Flt.rg x) : Nat) : Int) = Flt.sv x := by
  unfold Flt.sv at *
  split at h
  · omega
  · rename_i hs
    rw [if_neg hs]
    exact ⟨by simpa using hs, rfl⟩
theorem qn_pos {x y : Nat} (h : 0 < Flt.sv y) : qn x y = Flt.sv x * UU := by
  unfold qn
  rw [(sgn_pos h).1, if_neg (by decide)]
  rfl
theorem quo_rng {n m : Nat × Nat} {x y : Nat} {v0 v1 u0 u1 : Int} (hn : Rng n v0 v1) (hm : Rng m u0 u1) (hu : 0 < u0) (hx : Flt.Fin x) (hy : Flt.Fin y) (ha : ∀ s t : Int, v0 ≤ s → s ≤ v1 → u0 ≤ t → t ≤ u1 → Flt.sv x * t ≤ s * UU) (hb : ∀ s t : Int, v0 ≤ s → s ≤ v1 → u0 ≤ t → t ≤ u1 → s * UU ≤ Flt.sv y * t)
    (hz : zB m.1 m.2 = false) {p : Nat × Nat × Int} (h : IsQuot (okS n.1 n.2 && okS m.1 m.2) (zB m.1 m.2) (quoC n.1 n.2 m.1 m.2) (quoC n.1 n.2 m.1 m.2) p) : ∃ a : Nat × Nat, p = (a.1, a.2, 0) ∧ Rng a (Flt.sv x) (Flt.sv y) := by
  obtain ⟨lo, hi, h1, h2, rfl⟩ := h.2.2 (by rw [hn.ok, hm.ok]; rfl) hz
  obtain ⟨_, _, _, _, n1, n2, n3⟩ := hn
  obtain ⟨_, _, _, _, m1, m2, m3⟩ := hm
  have p1 : 0 < Flt.sv m.1 := by omega
  have p2 : 0 < Flt.sv m.2 := by omega
  have q1 := (sgn_pos p1).2
  have q2 := (sgn_pos p2).2
  have e : quoC n.1 n.2 m.1 m.2 = [(Flt.sv n.1 * UU, Flt.val (Flt.rg m.1)), (Flt.sv n.1 * UU, Flt.val (Flt.rg m.2)), (Flt.sv n.2 * UU, Flt.val (Flt.rg m.1)), (Flt.sv n.2 * UU, Flt.val (Flt.rg m.2))] := by
    unfold quoC
    rw [qn_pos p1, qn_pos p2, qn_pos p1, qn_pos p2]
  rw [e] at h1 h2
  have D : Dens [(Flt.sv n.1 * UU, Flt.val (Flt.rg m.1)), (Flt.sv n.1 * UU, Flt.val (Flt.rg m.2)), (Flt.sv n.2 * UU, Flt.val (Flt.rg m.1)), (Flt.sv n.2 * UU, Flt.val (Flt.rg m.2))] := fun c hc => by
    rcases four_mem hc with rfl | rfl | rfl | rfl <;> (show 0 < Flt.val _; omega)
  refine rng_of D D h1 h2 hx hy (fun c hc => ?_) (fun c hc => ?_) ⟨_, List.mem_cons_self, _, List.mem_cons_self, Int.le_refl _⟩
  · rcases four_mem hc with rfl | rfl | rfl | rfl
    · show Flt.sv x * ((Flt.val (Flt.rg m.1) : Nat) : Int) ≤ _; rw [q1]; exact ha _ _ (by omega) (by omega) (by omega) (by omega)
    · show Flt.sv x * ((Flt.val (Flt.rg m.2) : Nat) : Int) ≤ _; rw [q2]; exact ha _ _ (by omega) (by omega) (by omega) (by omega)
    · show Flt.sv x * ((Flt.val (Flt.rg m.1) : Nat) : Int) ≤ _; rw [q1]; exact ha _ _ (by omega) (by omega) (by omega) (by omega)
    · show Flt.sv x * ((Flt.val (Flt.rg m.2) : Nat) : Int) ≤ _; rw [q2]; exact ha _ _ (by omega) (by omega) (by omega) (by omega)
  · rcases four_mem hc with rfl | rfl | rfl | rfl
    · show _ ≤ Flt.sv y * ((Flt.val (Flt.rg m.1) : Nat) : Int); rw [q1]; exact hb _ _ (by omega) (by omega) (by omega) (by omega)
    · show _ ≤ Flt.sv y * ((Flt.val (Flt.rg m.2) : Nat) : Int); rw [q2]; exact hb _ _ (by omega) (by omega) (by omega) (by omega)
    · show _ ≤ Flt.sv y * ((Flt.val (Flt.rg m.1) : Nat) : Int); rw [q1]; exact hb _ _ (by omega) (by omega) (by omega) (by omega)
    · show _ ≤ Flt.sv y * ((Flt.val (Flt.rg m.2) : Nat) : Int); rw [q2]; exact hb _ _ (by omega) (by omega) (by omega) (by omega)
theorem two_cases {m0 m1 : Nat} : ∀ c ∈ mulC 4611686018427387904 4611686018427387904 m0 m1, c = (Flt.sv 4611686018427387904 * Flt.sv m0, 2 ^ Flt.K74) ∨ c = (Flt.sv 4611686018427387904 * Flt.sv m1, 2 ^ Flt.K74) := fun c hc => by
  rcases four_mem hc with h | h | h | h
  · exact .inl h
  · exact .inr h
  · exact .inl h
  · exact .inr h
theorem mul_rng {c : Nat × Nat} {p : Nat × Nat × Int} (hc : Rng c (Flt.sv 4602678819172646912) UU) (h : IsSpan (okS 4611686018427387904 4611686018427387904 && okS c.1 c.2) (mulC 4611686018427387904 4611686018427387904 c.1 c.2) (mulC 4611686018427387904 4611686018427387904 c.1 c.2) p) : ∃ a : Nat × Nat, p = (a.1, a.2, 0) ∧ Rng a UU (2 * UU) := by
  obtain ⟨lo, hi, h1, h2, rfl⟩ := h.2 (by rw [hc.ok]; decide +kernel)
  obtain ⟨_, _, _, _, c1, c2, c3⟩ := hc
  have hh := sv_h
  have hp := UU_pos
  have hK : ((2 ^ Flt.K74 : Nat) : Int) = UU := rfl
  have key : ∀ s : Int, Flt.sv 4602678819172646912 ≤ s → s ≤ UU → UU * UU ≤ 2 * UU * s ∧ 2 * UU * s ≤ 2 * UU * UU := fun s a b => by
    have e1 : UU * UU = UU * (2 * Flt.sv 4602678819172646912) := by rw [hh]
    have e2 : UU * (2 * Flt.sv 4602678819172646912) = 2 * UU * Flt.sv 4602678819172646912 := by rw [← Int.mul_assoc, Int.mul_comm UU 2]
    exact ⟨by rw [e1, e2]; exact Int.mul_le_mul_of_nonneg_left a (by omega), Int.mul_le_mul_of_nonneg_left b (by omega)⟩
  obtain ⟨q, e, hq⟩ := rng_of (x := 4607182418800017408) (y := 4611686018427387904) (mulC_dens _ _ _ _) (mulC_dens _ _ _ _) h1 h2 fin_o fin_t
    (fun e he => by
      rcases two_cases e he with rfl | rfl
      · show Flt.sv _ * ((2 ^ Flt.K74 : Nat) : Int) ≤ Flt.sv 4611686018427387904 * Flt.sv c.1; rw [hK, sv_o, sv_t]; exact (key _ c1 (by omega)).1
      · show Flt.sv _ * ((2 ^ Flt.K74 : Nat) : Int) ≤ Flt.sv 4611686018427387904 * Flt.sv c.2; rw [hK, sv_o, sv_t]; exact (key _ (by omega) c3).1)
    (fun e he => by
      rcases two_cases e he with rfl | rfl
      · show Flt.sv 4611686018427387904 * Flt.sv c.1 ≤ Flt.sv _ * ((2 ^ Flt.K74 : Nat) : Int); rw [hK, sv_t]; exact (key _ c1 (by omega)).2
      · show Flt.sv 4611686018427387904 * Flt.sv c.2 ≤ Flt.sv _ * ((2 ^ Flt.K74 : Nat) : Int); rw [hK, sv_t]; exact (key _ (by omega) c3).2)
    ⟨_, List.mem_cons_self, _, List.mem_cons_self, Int.le_refl _⟩
  rw [sv_o, sv_t] at hq
  exact ⟨q, e, hq⟩
theorem rung_sv {r : Nat} (h : r < Flt.inf) : Flt.sv r = ((Flt.val r : Nat) : Int) ∧ Flt.Fin r ∧ r < 2 ^ 64 := by
  have hi := Flt.inf_eq
  have e1 : Flt.rg r = r := by unfold Flt.rg; omega
  have e2 : Flt.sgn r = false := by unfold Flt.sgn; simp; omega
  refine ⟨?_, ?_, by omega⟩
  · unfold Flt.sv; rw [e2, e1]; rfl
  · unfold Flt.Fin; rw [e1]; exact h
theorem val_h2 : 2 * Flt.val 4602678819172646912 = 2 ^ Flt.K74 := by decide +kernel
theorem val_o : Flt.val 4607182418800017408 = 2 ^ Flt.K74 := by decide +kernel
theorem root_of {x d u : Nat} (hx : Flt.Fin x) (h0 : 0 < Flt.sv x) (h : IsRoot x d u) : ∃ r, DnSq (Flt.val (Flt.rg x) * 2 ^ Flt.K74) r ∧ d = r ∧ u = if Flt.val r * Flt.val r = Flt.val (Flt.rg x) * 2 ^ Flt.K74 then r else r + 1 :=
  h.2 ⟨hx, (sgn_pos h0).1, fun k => by have := (sgn_pos h0).2; rw [k, Flt.val_zero] at this; omega⟩
theorem sqrt_rng {b : Nat × Nat} {p : Nat × Nat × Int} (hb : Rng b (Flt.sv 4602678819172646912) UU) (h : ∃ lo lu hd hi, IsRoot (pz (mx b.1 0)) lo lu ∧ IsRoot (pz b.2) hd hi ∧ p = endsF lo hi) : ∃ a : Nat × Nat, p = (a.1, a.2, 0) ∧ Rng a (Flt.sv 4602678819172646912) UU := by
  obtain ⟨lo, lu, hd, hi, h1, h2, rfl⟩ := h
  obtain ⟨_, _, f1, f2, b1, b2, b3⟩ := hb
  have hh := sv_h
  have hp := UU_pos
  have p1 : 0 < Flt.sv b.1 := by omega
  have p2 : 0 < Flt.sv b.2 := by omega
  have nz : ∀ {x : Nat}, 0 < Flt.sv x → pz x = x := fun {x} hx => by
    unfold pz
    rw [if_neg]
    intro k
    have := (sgn_pos hx).2
    rw [k, Flt.val_zero] at this
    omega
  have em : mx b.1 0 = b.1 := by
    unfold mx
    rw [sv_zero, if_neg (by omega), if_pos p1]
  rw [em, nz p1] at h1
  rw [nz p2] at h2
  obtain ⟨_, d1, rfl, _⟩ := root_of f1 p1 h1
  obtain ⟨q, d2, _, rfl⟩ := root_of f2 p2 h2
  have v1 := (sgn_pos p1).2
  have v2 := (sgn_pos p2).2
  obtain ⟨V1, hV1⟩ : ∃ V, Flt.val (Flt.rg b.1) = V := ⟨_, rfl⟩
  obtain ⟨V2, hV2⟩ : ∃ V, Flt.val (Flt.rg b.2) = V := ⟨_, rfl⟩
  rw [hV1] at v1 d1
  rw [hV2] at v2 d2 ⊢
  have hU : UU = ((2 ^ Flt.K74 : Nat) : Int) := rfl
  have a1 : Flt.val 4602678819172646912 ≤ V1 := by
    have e : ((Flt.val 4602678819172646912 : Nat) : Int) = Flt.sv 4602678819172646912 := by decide +kernel
    omega
  have a12 : V1 ≤ V2 := by omega
  have a2 : V2 ≤ 2 ^ Flt.K74 := by omega
  have hv2 := val_h2
  have hvo := val_o
  generalize 2 ^ Flt.K74 = K at *
  -- the lower root
  have l1 : 4602678819172646912 ≤ lo := by
    rcases Nat.lt_or_ge lo 4602678819172646912 with k | k
    · exfalso
      have k1 := Flt.val_le (show lo + 1 ≤ 4602678819172646912 from k)
      have k2 := Nat.mul_le_mul k1 k1
      have k3 : Flt.val 4602678819172646912 * Flt.val 4602678819172646912 ≤ V1 * K := Nat.mul_le_mul a1 (by omega)
      have := d1.2.2
      omega
    · exact k
  have l2 : lo ≤ q := by
    rcases Nat.lt_or_ge q lo with k | k
    · exfalso
      have k1 := Flt.val_le (show q + 1 ≤ lo from k)
      have k2 := Nat.mul_le_mul k1 k1
      have k3 : V1 * K ≤ V2 * K := Nat.mul_le_mul_right _ a12
      have := d1.2.1
      have := d2.2.2
      omega
    · exact k
  have k5 : V2 * K ≤ K * K := Nat.mul_le_mul_right _ a2
  have l3 : q ≤ 4607182418800017408 := by
    rcases Nat.lt_or_ge 4607182418800017408 q with k | k
    · exfalso
      have k1 := Flt.val_lt k
      rw [hvo] at k1
      have k2 : K * K < Flt.val q * Flt.val q := Nat.mul_lt_mul'' k1 k1
      have := d2.2.1
      omega
    · exact k
  obtain ⟨t, ht⟩ : ∃ t, (if Flt.val q * Flt.val q = V2 * K then q else q + 1) = t := ⟨_, rfl⟩
  rw [ht]
  have l4 : q ≤ t ∧ t ≤ 4607182418800017408 := by
    by_cases hq : Flt.val q * Flt.val q = V2 * K
    · rw [if_pos hq] at ht; omega
    · rw [if_neg hq] at ht
      rcases Nat.lt_or_ge q 4607182418800017408 with k | k
      · omega
      · exfalso
        have e : q = 4607182418800017408 := by omega
        rw [e, hvo] at hq
        have := d2.2.1
        rw [e, hvo] at this
        omega
  have hinf := Flt.inf_eq
  obtain ⟨s1, g1, z1⟩ := rung_sv (r := lo) (by omega)
  obtain ⟨s2, g2, z2⟩ := rung_sv (r := t) (by omega)
  obtain ⟨s3, _, _⟩ := rung_sv (r := 4602678819172646912) (by omega)
  obtain ⟨s4, _, _⟩ := rung_sv (r := 4607182418800017408) (by omega)
  have w1 := Flt.val_le l1
  have w2 := Flt.val_le (show lo ≤ t by omega)
  have w3 := Flt.val_le l4.2
  refine ⟨(pz lo, pz t), ?_, pz_lt z1, pz_lt z2, fin_pz g1, fin_pz g2, ?_, ?_, ?_⟩
  · unfold endsF
    rw [Flt.finB_iff.2 g1, Flt.finB_iff.2 g2]
    rfl
  · rw [sv_pz]; omega
  · rw [sv_pz, sv_pz]; omega
  · rw [sv_pz, hU, ← hvo]; omega
end Go.Proofs.YtdmdaoginojalaaGreatDoor
