/-
  Spans: whether two are the same; the chapter's examples (polestarlaw05.lives).
  Spans and fractions: the least span of a fraction (span.Of), does a span have it (span.Has), and what the references tell.
-/
import Derived.Test.YtjcjphgpmpjmbaaGreatDoorSpnD
import Derived.Test.YtjcjphgpmpjmbaaGreatDoorSpnZ
import Derived.Test.YtjcjphgpmpjmbaaGreatDoorTzG
import Derived.Test.YtjcjphgpmpjmbaaGreatDoorSpnA
import Derived.Test.YtjcjphgpmpjmbaaGreatDoorFrW
import Derived.Test.YtjcjphgpmpjmbaaGreatDoorSpnW
import Derived.Test.YtjcjphgpmpjmbaaGreatDoorSpnV
import Derived.Test.YtjcjphgpmpjmbaaGreatDoorSpnG
import Derived.Test.YtjcjphgpmpjmbaaGreatDoorFrV
import Derived.Test.YtjcjphgpmpjmbaaGreatDoorFrT
import Derived.Test.YtjcjphgpmpjmbaaGreatDoorRaL
namespace Go.Proofs.YtjcjphgpmpjmbaaGreatDoor
open Go.RowKit

theorem same_refl (x : Nat) : Flt.sameB x x = true := Flt.sameB_iff.2 (.inl rfl)
theorem sameSpan_eq (a b : Nat) (w : World) : Calls Tryz.prog 39 #[.agg #[.float .f64 a, .float .f64 b], .agg #[.float .f64 a, .float .f64 b]] w (RetV w (.bool true)) := by
  have HA := Lib.hid (same_refl a)
  have HB := Lib.hid (same_refl b)
  go_enter Tryz.func39, Tryz.ntmps39
  go_wp2_with fail
  refine (law_sameFloat a a _).mono ?_
  rintro e1 w1 ⟨rfl, rfl⟩
  rw [HA.out]
  go_wp2_with fail
  refine (law_sameFloat b b _).mono ?_
  rintro e2 w2 ⟨rfl, rfl⟩
  rw [HB.out]
  go_wp2_with fail
  go_ret
  exact ⟨rfl, (((Below.refl _ _).alloc (Nat.le_refl _) _).alloc (by simp) _)⟩
theorem same05_eq (a b : Nat) (e : Int) (w : World) : Calls Tryz.prog 12 #[.agg #[.float .f64 a, .float .f64 b], .int .i64 e, .agg #[.float .f64 a, .float .f64 b], .int .i64 e] w (RetV w (.bool true)) := by
  go_enter Tryz.func12, Tryz.ntmps12
  go_wp2_with fail
  refine (sameSpan_eq a b _).mono ?_
  rintro e1 w1 ⟨rfl, hb1⟩
  go_wp2_with fail
  go_ret
  exact ⟨rfl, below_box (below_box hb1)⟩

/-! ### the examples -/
def UU : Int := ((2 ^ Flt.K74 : Nat) : Int)
theorem UU_pos : 0 < UU := by unfold UU; have := Nat.two_pow_pos Flt.K74; omega
theorem sv_int {x m : Nat} (hm : m < 2 ^ 53) (h : Flt.rg x = Flt.whole m) : Flt.sv x = if Flt.sgn x then -((m : Int) * UU) else (m : Int) * UU := by
  unfold Flt.sv UU
  rw [h, Flt.val_whole hm, Int.natCast_mul]
theorem lowOf_least {L : List (Int × Nat)} {lo t : Nat} (hD : Dens L) (h : LowOf L lo) (ht : Flt.Fin t) (h1 : ∀ c ∈ L, Flt.sv t * c.2 ≤ c.1) (h2 : ∃ c ∈ L, Flt.sv t * c.2 = c.1) : Flt.sv lo = Flt.sv t ∧ Flt.Fin lo ∧ lo < 2 ^ 64 := by
  obtain ⟨c, hc, hd⟩ := h.1
  obtain ⟨c', hc', he⟩ := h2
  obtain ⟨e, hde, hle⟩ := h.2 c' hc'
  have a := hd.2.2.2.2 t ht (h1 c hc)
  have b := hde.exact (hD c' hc') ht he
  exact ⟨by omega, hd.finite ht a, hd.1⟩
theorem highOf_most {L : List (Int × Nat)} {hi t : Nat} (hD : Dens L) (h : HighOf L hi) (ht : Flt.Fin t) (h1 : ∀ c ∈ L, c.1 ≤ Flt.sv t * c.2) (h2 : ∃ c ∈ L, Flt.sv t * c.2 = c.1) : Flt.sv hi = Flt.sv t ∧ Flt.Fin hi ∧ hi < 2 ^ 64 := by
  obtain ⟨c, hc, hd⟩ := h.1
  obtain ⟨c', hc', he⟩ := h2
  obtain ⟨e, hde, hle⟩ := h.2 c' hc'
  have a := hd.2.2.2.2 t ht (h1 c hc)
  have b := hde.exact (hD c' hc') ht he
  exact ⟨by omega, hd.finite ht a, hd.1⟩
theorem endsF_at {lo hi t s : Nat} (h1 : Flt.sv lo = Flt.sv t ∧ Flt.Fin lo ∧ lo < 2 ^ 64) (h2 : Flt.sv hi = Flt.sv s ∧ Flt.Fin hi ∧ hi < 2 ^ 64) (ht : t < 2 ^ 64) (hs : s < 2 ^ 64) : endsF lo hi = (pz t, pz s, 0) := by
  unfold endsF
  rw [Flt.finB_iff.2 h1.2.1, Flt.finB_iff.2 h2.2.1, pz_same h1.2.2 ht h1.1, pz_same h2.2.2 hs h2.1]
  rfl
theorem fin_dec {x : Nat} (h : Flt.finB x = true) : Flt.Fin x := Flt.finB_iff.1 h
theorem add_lives {p : Nat × Nat × Int} (h : IsSpan (okS 4607182418800017408 4611686018427387904 && okS 4621819117588971520 4626322717216342016) (addL 4607182418800017408 4611686018427387904 4621819117588971520 4626322717216342016) (addH 4607182418800017408 4611686018427387904 4621819117588971520 4626322717216342016) p) :
    p = (4622382067542392832, 4626885667169763328, 0) := by
  obtain ⟨lo, hi, h1, h2, rfl⟩ := h.2 (by decide +kernel)
  have d : ∀ z : Int, Dens [(z, 1)] := fun z c hc => by rw [List.mem_singleton] at hc; subst hc; exact Nat.one_pos
  have v1 := sv_int (x := 4607182418800017408) (m := 1) (by decide) (by decide +kernel)
  have v2 := sv_int (x := 4611686018427387904) (m := 2) (by decide) (by decide +kernel)
  have v10 := sv_int (x := 4621819117588971520) (m := 10) (by decide) (by decide +kernel)
  have v20 := sv_int (x := 4626322717216342016) (m := 20) (by decide) (by decide +kernel)
  have v11 := sv_int (x := 4622382067542392832) (m := 11) (by decide) (by decide +kernel)
  have v22 := sv_int (x := 4626885667169763328) (m := 22) (by decide) (by decide +kernel)
  rw [if_neg (by decide +kernel)] at v1 v2 v10 v20 v11 v22
  have e1 : Flt.sv 4622382067542392832 * (1 : Nat) = Flt.sv 4607182418800017408 + Flt.sv 4621819117588971520 := by rw [v1, v10, v11]; omega
  have e2 : Flt.sv 4626885667169763328 * (1 : Nat) = Flt.sv 4611686018427387904 + Flt.sv 4626322717216342016 := by rw [v2, v20, v22]; omega
  have a := lowOf_least (t := 4622382067542392832) (d _) h1 (fin_dec (by decide +kernel)) (fun c hc => by rw [List.mem_singleton] at hc; subst hc; exact Int.le_of_eq e1) ⟨_, List.mem_singleton.2 rfl, e1⟩
  have b := highOf_most (t := 4626885667169763328) (d _) h2 (fin_dec (by decide +kernel)) (fun c hc => by rw [List.mem_singleton] at hc; subst hc; exact Int.le_of_eq e2.symm) ⟨_, List.mem_singleton.2 rfl, e2⟩
  rw [endsF_at a b (by decide) (by decide)]
  decide +kernel
theorem mul_U (a b : Int) : a * UU * (b * UU) = a * b * (UU * UU) := by
  rw [Int.mul_assoc, Int.mul_left_comm UU, ← Int.mul_assoc]
theorem mul_lives {p : Nat × Nat × Int} (h : IsSpan (okS 13830554455654793216 4611686018427387904 && okS 13837309855095848960 4616189618054758400) (mulC 13830554455654793216 4611686018427387904 13837309855095848960 4616189618054758400) (mulC 13830554455654793216 4611686018427387904 13837309855095848960 4616189618054758400) p) :
    p = (13841813454723219456, 4620693217682128896, 0) := by
  obtain ⟨lo, hi, h1, h2, rfl⟩ := h.2 (by decide +kernel)
  have v1 := sv_int (x := 13830554455654793216) (m := 1) (by decide) (by decide +kernel)
  have v2 := sv_int (x := 4611686018427387904) (m := 2) (by decide) (by decide +kernel)
  have v3 := sv_int (x := 13837309855095848960) (m := 3) (by decide) (by decide +kernel)
  have v4 := sv_int (x := 4616189618054758400) (m := 4) (by decide) (by decide +kernel)
  have v6 := sv_int (x := 13841813454723219456) (m := 6) (by decide) (by decide +kernel)
  have v8 := sv_int (x := 4620693217682128896) (m := 8) (by decide) (by decide +kernel)
  rw [if_pos (by decide +kernel)] at v1 v3 v6
  rw [if_neg (by decide +kernel)] at v2 v4 v8
  have hq : 0 < UU * UU := Int.mul_pos UU_pos UU_pos
  have hU : ((2 ^ Flt.K74 : Nat) : Int) = UU := rfl
  have f : ∀ x : Int, x * UU = x * UU := fun _ => rfl
  have n1 : Flt.sv 13830554455654793216 = -1 * UU := by rw [v1]; omega
  have n3 : Flt.sv 13837309855095848960 = -3 * UU := by rw [v3]; omega
  have n6 : Flt.sv 13841813454723219456 * UU = -6 * (UU * UU) := by rw [v6, Int.neg_mul, Int.mul_assoc]; omega
  have n8 : Flt.sv 4620693217682128896 * UU = 8 * (UU * UU) := by rw [v8, Int.mul_assoc]; omega
  have c0 : Flt.sv 13830554455654793216 * Flt.sv 13837309855095848960 = 3 * (UU * UU) := by rw [n1, n3, mul_U]; omega
  have c1 : Flt.sv 13830554455654793216 * Flt.sv 4616189618054758400 = -4 * (UU * UU) := by rw [n1, v4, mul_U]; omega
  have c2 : Flt.sv 4611686018427387904 * Flt.sv 13837309855095848960 = -6 * (UU * UU) := by rw [v2, n3, mul_U]; omega
  have c3 : Flt.sv 4611686018427387904 * Flt.sv 4616189618054758400 = 8 * (UU * UU) := by rw [v2, v4, mul_U]; omega
  have a := lowOf_least (t := 13841813454723219456) (mulC_dens _ _ _ _) h1 (fin_dec (by decide +kernel)) (fun c hc => by
    simp only [mulC, List.mem_cons, List.not_mem_nil, or_false] at hc
    rcases hc with rfl | rfl | rfl | rfl
    · show Flt.sv 13841813454723219456 * UU ≤ Flt.sv 13830554455654793216 * Flt.sv 13837309855095848960
      omega
    · show Flt.sv 13841813454723219456 * UU ≤ Flt.sv 13830554455654793216 * Flt.sv 4616189618054758400
      omega
    · show Flt.sv 13841813454723219456 * UU ≤ Flt.sv 4611686018427387904 * Flt.sv 13837309855095848960
      omega
    · show Flt.sv 13841813454723219456 * UU ≤ Flt.sv 4611686018427387904 * Flt.sv 4616189618054758400
      omega) ⟨(_, 2 ^ Flt.K74), by unfold mulC; exact mem4 (.inr (.inr (.inl rfl))), n6.trans c2.symm⟩
  have b := highOf_most (t := 4620693217682128896) (mulC_dens _ _ _ _) h2 (fin_dec (by decide +kernel)) (fun c hc => by
    simp only [mulC, List.mem_cons, List.not_mem_nil, or_false] at hc
    rcases hc with rfl | rfl | rfl | rfl
    · show Flt.sv 13830554455654793216 * Flt.sv 13837309855095848960 ≤ Flt.sv 4620693217682128896 * UU
      omega
    · show Flt.sv 13830554455654793216 * Flt.sv 4616189618054758400 ≤ Flt.sv 4620693217682128896 * UU
      omega
    · show Flt.sv 4611686018427387904 * Flt.sv 13837309855095848960 ≤ Flt.sv 4620693217682128896 * UU
      omega
    · show Flt.sv 4611686018427387904 * Flt.sv 4616189618054758400 ≤ Flt.sv 4620693217682128896 * UU
      omega) ⟨(_, 2 ^ Flt.K74), by unfold mulC; exact mem4 (.inr (.inr (.inr rfl))), n8.trans c3.symm⟩
  rw [endsF_at a b (by decide) (by decide)]
  decide +kernel
theorem quo_lives {L : List (Int × Nat)} {p : Nat × Nat × Int} (h : IsQuot (okS 4607182418800017408 4611686018427387904 && okS 13830554455654793216 4607182418800017408) (zB 13830554455654793216 4607182418800017408) L L p) : p = (0, 0, 3) :=
  h.2.1 (by decide +kernel) (by decide +kernel)
end Go.Proofs.YtjcjphgpmpjmbaaGreatDoor

namespace Go.Proofs.YtjcjphgpmpjmbaaGreatDoor
open Go.RowKit

/-- What round.Frac tells of a fraction that may be. -/
theorem round_frac_of (neg : Bool) (A : Option Addr) (n c : Nat) (l : List Nat) (neg' : Bool) (A' : Option Addr) (n' c' : Nat) (l' : List Nat) (r : Rat) (w : World) (hO : OkF w ((neg, A, n, c, l), (neg', A', n', c', l')) r) :
    Calls Tryz.prog 30 #[.agg #[.bool neg, .slice A n c, .bool neg', .slice A' n' c']] w (fun e w' => ∃ d u, e = .returned (.tuple #[.float .f64 d, .float .f64 u, .int .i64 0]) ∧ Down (r.num * ((2 ^ Flt.K74 : Nat) : Int)) r.den d ∧ Up (r.num * ((2 ^ Flt.K74 : Nat) : Int)) r.den u ∧ Below w.heap.size w w') := by
  obtain ⟨ha, hb, hn, hn'⟩ := hO.1
  refine (round_frac neg neg' A A' n c n' c' l l' w ha hb hn hn').mono ?_
  rintro e w' ⟨d, u, rfl, h1, _, hb1⟩
  obtain ⟨s, num, den, k1, k2, k3, k4⟩ := okF_brk hO h1
  refine ⟨d, u, ?_, k3, k4, hb1⟩
  rw [chkFr_ok ((okB_iff _).1 hO.2.1)]
theorem ref2_check_of (neg : Bool) (A : Option Addr) (n c : Nat) (l : List Nat) (neg' : Bool) (A' : Option Addr) (n' c' : Nat) (l' : List Nat) (w : World) (hx : LmE.at_ w ((neg, A, n, c, l), (neg', A', n', c', l'))) :
    Calls Tryz.prog 32 #[.agg #[.bool neg, .slice A n c, .bool neg', .slice A' n' c']] w (RetV w (.int .i64 (if okB ((neg, A, n, c, l), (neg', A', n', c', l')) then 0 else 1))) := by
  rw [← okB_chk ((neg, A, n, c, l), (neg', A', n', c', l'))]
  exact ref2_check neg neg' A A' n c n' c' l l' w hx.1 hx.2.1 hx.2.2.1 hx.2.2.2
/-- The least span that has a fraction. -/
def SpOf (f : LmE) (p : Nat × Nat × Int) : Prop := (okB f = false → p = (0, 0, 1)) ∧ (okB f = true → ∃ d u, Down ((rv f).num * ((2 ^ Flt.K74 : Nat) : Int)) (rv f).den d ∧ Up ((rv f).num * ((2 ^ Flt.K74 : Nat) : Int)) (rv f).den u ∧ p = endsF d u)
theorem SpOf.one {f : LmE} {p q : Nat × Nat × Int} (h : SpOf f p) (k : SpOf f q) : p = q := by
  cases ho : okB f with
  | false => rw [h.1 ho, k.1 ho]
  | true =>
    obtain ⟨d, u, a1, a2, rfl⟩ := h.2 ho
    obtain ⟨d', u', b1, b2, rfl⟩ := k.2 ho
    have hn : 0 < (rv f).den := Nat.pos_of_ne_zero (rv f).den_nz
    exact ends_of_sv a1.1 a2.1 b1.1 b2.1 (Int.le_antisymm (a1.mono b1 hn hn (Int.le_refl _)) (b1.mono a1 hn hn (Int.le_refl _))) (Int.le_antisymm (a2.mono b2 hn hn (Int.le_refl _)) (b2.mono a2 hn hn (Int.le_refl _)))

set_option maxRecDepth 100000 in
set_option maxHeartbeats 1600000 in
theorem span_of_any (neg : Bool) (A : Option Addr) (n c : Nat) (l : List Nat) (neg' : Bool) (A' : Option Addr) (n' c' : Nat) (l' : List Nat) (w : World) (hx : LmE.at_ w ((neg, A, n, c, l), (neg', A', n', c', l'))) :
    Calls Tryz.prog 8 #[.agg #[.bool neg, .slice A n c, .bool neg', .slice A' n' c']] w (RetSp w (SpOf ((neg, A, n, c, l), (neg', A', n', c', l')))) := by
  obtain ⟨o, ho⟩ : ∃ o, okB ((neg, A, n, c, l), (neg', A', n', c', l')) = o := ⟨_, rfl⟩
  obtain ⟨r, hr⟩ : ∃ r, rv ((neg, A, n, c, l), (neg', A', n', c', l')) = r := ⟨_, rfl⟩
  have K0 := ((Mm.nil w).var (g := w.heap.size) rfl [.bool neg, .slice A n c, .bool neg', .slice A' n' c'] 29).var (g := w.heap.size + 1) (by simp) [.float .f64 0, .float .f64 0] 24
  have hx0 := LmE.at_.below hx K0.1
  have HO := Lib.hid ho
  have HR := Lib.hid hr
  clear hx ho hr
  go_enter Tryz.func8, Tryz.ntmps8
  go_wp2_with fail
  generalize (w.alloc (.cells #[.bool neg, .slice A n c, .bool neg', .slice A' n' c'] 29)).alloc (.cells #[.float .f64 0, .float .f64 0] 24) = w0 at K0 hx0 ⊢
  refine (frac_check_any neg A n c l neg' A' n' c' l' _ hx0).mono ?_
  rintro e1 w1 ⟨rfl, hb1⟩
  have K1 := K0.next hb1
  have hx1 := LmE.at_.below hx0 hb1
  obtain ⟨⟨qa1, qb1, qc1, qd1⟩, _, _⟩ := (K1.blk (g := w.heap.size) (vs := [.bool neg, .slice A n c, .bool neg', .slice A' n' c']) (by simp)).four
  obtain ⟨ra1, rb1, rc1, rd1, re1⟩ := (K1.blk (g := w.heap.size + 1) (vs := [.float .f64 0, .float .f64 0]) (by simp)).two
  clear K0 hx0 hb1
  cases o with
  | false =>
    rw [HO.out]
    go_wp2_with fail
    exact bodyPost_ret (v := .tuple #[.agg #[.float .f64 0, .float .f64 0], .int .i64 1]) (by simp [results, Tryz.results8, go_sem, ra1, rb1]) rfl ⟨(0, 0, 1), ⟨fun _ => rfl, fun h => absurd (HO.out.symm.trans h) (by decide)⟩, rfl, by first | exact K1.1 | exact below_result K1.1 (by omega) _ _⟩
  | true =>
    rw [HO.out]
    have O1 : OkF w1 ((neg, A, n, c, l), (neg', A', n', c', l')) r := ⟨hx1, HO.out, HR.out⟩
    go_wp2_with fail
    refine (round_frac_of neg A n c l neg' A' n' c' l' r _ O1).mono ?_
    rintro e2 w2 ⟨d, u, rfl, hD, hU, hb2⟩
    have K2 := K1.next hb2
    have HD := Lib.hid hD
    have HU := Lib.hid hU
    clear hD hU K1 hb2
    obtain ⟨sa1, sb1, sc1, sd1, se1⟩ := (K2.blk (g := w.heap.size + 1) (vs := [.float .f64 0, .float .f64 0]) (by simp)).two
    go_wp2_with fail
    refine (span_ends_any d u HD.out.1 HU.out.1 _).mono ?_
    rintro e3 w3 ⟨rfl, hb3⟩
    have K3 := K2.next hb3
    obtain ⟨ta1, tb1, tc1, td1, te1⟩ := (K3.blk (g := w.heap.size + 1) (vs := [.float .f64 0, .float .f64 0]) (by simp)).two
    have HP : Hid (SpOf ((neg, A, n, c, l), (neg', A', n', c', l')) (endsF d u)) := Lib.hid ⟨fun h => absurd (HO.out.symm.trans h) (by decide), fun _ => ⟨d, u, by rw [HR.out]; exact HD.out, by rw [HR.out]; exact HU.out, rfl⟩⟩
    generalize endsF d u = p at HP ⊢
    obtain ⟨p1, p2, p3⟩ := p
    go_wp2_with fail
    exact bodyPost_ret (v := .tuple #[.agg #[.float .f64 p1, .float .f64 p2], .int .i64 p3]) (by simp [results, Tryz.results8, go_sem, ta1, tb1]) rfl ⟨(p1, p2, p3), HP.out, rfl, below_result K3.1 (by omega) _ _⟩

set_option maxRecDepth 100000 in
set_option maxHeartbeats 1600000 in
theorem ref5_of_any (neg : Bool) (A : Option Addr) (n c : Nat) (l : List Nat) (neg' : Bool) (A' : Option Addr) (n' c' : Nat) (l' : List Nat) (w : World) (hx : LmE.at_ w ((neg, A, n, c, l), (neg', A', n', c', l'))) :
    Calls Tryz.prog 9 #[.agg #[.bool neg, .slice A n c, .bool neg', .slice A' n' c']] w (RetSp w (SpOf ((neg, A, n, c, l), (neg', A', n', c', l')))) := by
  obtain ⟨o, ho⟩ : ∃ o, okB ((neg, A, n, c, l), (neg', A', n', c', l')) = o := ⟨_, rfl⟩
  obtain ⟨r, hr⟩ : ∃ r, rv ((neg, A, n, c, l), (neg', A', n', c', l')) = r := ⟨_, rfl⟩
  have K0 := ((Mm.nil w).var (g := w.heap.size) rfl [.bool neg, .slice A n c, .bool neg', .slice A' n' c'] 29).var (g := w.heap.size + 1) (by simp) [.float .f64 0, .float .f64 0] 24
  have hx0 := LmE.at_.below hx K0.1
  have HO := Lib.hid ho
  have HR := Lib.hid hr
  clear hx ho hr
  go_enter Tryz.func9, Tryz.ntmps9
  go_wp2_with fail
  generalize (w.alloc (.cells #[.bool neg, .slice A n c, .bool neg', .slice A' n' c'] 29)).alloc (.cells #[.float .f64 0, .float .f64 0] 24) = w0 at K0 hx0 ⊢
  refine (ref2_check_of neg A n c l neg' A' n' c' l' _ hx0).mono ?_
  rintro e1 w1 ⟨rfl, hb1⟩
  have K1 := K0.next hb1
  have hx1 := LmE.at_.below hx0 hb1
  obtain ⟨⟨qa1, qb1, qc1, qd1⟩, _, _⟩ := (K1.blk (g := w.heap.size) (vs := [.bool neg, .slice A n c, .bool neg', .slice A' n' c']) (by simp)).four
  obtain ⟨ra1, rb1, rc1, rd1, re1⟩ := (K1.blk (g := w.heap.size + 1) (vs := [.float .f64 0, .float .f64 0]) (by simp)).two
  clear K0 hx0 hb1
  cases o with
  | false =>
    rw [HO.out]
    go_wp2_with fail
    exact bodyPost_ret (v := .tuple #[.agg #[.float .f64 0, .float .f64 0], .int .i64 1]) (by simp [results, Tryz.results9, go_sem, ra1, rb1]) rfl ⟨(0, 0, 1), ⟨fun _ => rfl, fun h => absurd (HO.out.symm.trans h) (by decide)⟩, rfl, by first | exact K1.1 | exact below_result K1.1 (by omega) _ _⟩
  | true =>
    rw [HO.out]
    have O1 : OkF w1 ((neg, A, n, c, l), (neg', A', n', c', l')) r := ⟨hx1, HO.out, HR.out⟩
    obtain ⟨i1, i2, i3⟩ := O1.ints
    go_wp2_with fail
    refine (ref5_least_any neg neg' A A' n c n' c' neg neg' A A' n c n' c' r r 2048 _ i1 i2 i1 i2 i3 i3 (by decide)).mono ?_
    rintro e3 w3 ⟨p, ⟨lo, hi, hD, hU, hp⟩, rfl, hb3⟩
    have K3 := K1.next hb3
    obtain ⟨ta1, tb1, tc1, td1, te1⟩ := (K3.blk (g := w.heap.size + 1) (vs := [.float .f64 0, .float .f64 0]) (by simp)).two
    have HP : Hid (SpOf ((neg, A, n, c, l), (neg', A', n', c', l')) p) := Lib.hid ⟨fun h => absurd (HO.out.symm.trans h) (by decide), fun _ => ⟨lo, hi, by rw [HR.out]; exact hD, by rw [HR.out]; exact hU, hp⟩⟩
    clear hD hU hp K1 hb3
    obtain ⟨p1, p2, p3⟩ := p
    go_wp2_with fail
    exact bodyPost_ret (v := .tuple #[.agg #[.float .f64 p1, .float .f64 p2], .int .i64 p3]) (by simp [results, Tryz.results9, go_sem, ta1, tb1]) rfl ⟨(p1, p2, p3), HP.out, rfl, below_result K3.1 (by omega) _ _⟩
end Go.Proofs.YtjcjphgpmpjmbaaGreatDoor
