/-
  SpanRoots: the walk.
  Spans and fractions: the least span of a fraction (span.Of), does a span have it (span.Has), and what the references tell.
-/
import Derived.Test.YtejlicacndpfpaaDoorSqW
import Derived.Test.YtejlicacndpfpaaDoorSpnLw
import Derived.Test.YtejlicacndpfpaaDoorTzG
import Derived.Test.YtejlicacndpfpaaDoorSpnO
import Derived.Test.YtejlicacndpfpaaDoorSpnX
import Derived.Test.YtejlicacndpfpaaDoorSpnW
import Derived.Test.YtejlicacndpfpaaDoorSpnV
import Derived.Test.YtejlicacndpfpaaDoorSpnL
import Derived.Test.YtejlicacndpfpaaDoorExW
import Derived.Test.YtejlicacndpfpaaDoorTzF
import Derived.Test.YtejlicacndpfpaaDoorRoot
import Derived.Test.YtejlicacndpfpaaDoorSpnR
import Derived.Test.YtejlicacndpfpaaDoorSpnG
import Derived.Test.YtejlicacndpfpaaDoorFrame2
namespace Go.Proofs.YtejlicacndpfpaaDoor
open Go.RowKit

set_option maxRecDepth 100000 in
set_option maxHeartbeats 3200000 in
theorem span_sqrt_no (la ha : Nat) (b1 : la < 2 ^ 64) (b2 : ha < 2 ^ 64) (h : okS la ha = false) (w : World) : Calls Tryd.prog 7 #[.agg #[.float .f64 la, .float .f64 ha]] w (RetSpan w 0 0 (.int .i64 1)) := by
  have K0 := ((Mm.nil w).var (g := w.heap.size) rfl [.float .f64 la, .float .f64 ha] 32).var (g := w.heap.size + 1) (by simp) [.float .f64 0, .float .f64 0] 32
  have HOK := Lib.hid h
  clear h
  go_enter Tryd.func7, Tryd.ntmps7
  go_wp2_with fail
  refine (span_may_one5 (w.heap.size + 1 + 1) la ha _ b1 b2 (by simp) (by simp [go_sem]) (by simp [go_sem])).mono ?_
  rintro e1 w1 ⟨rfl, hb1⟩
  rw [HOK.out]
  have K1 := (K0.box _).next hb1
  clear hb1 K0
  obtain ⟨qa1x, qb1x, qc1x, qd1x, qe1x⟩ := (K1.blk (g := w.heap.size) (vs := [.float .f64 la, .float .f64 ha]) (by simp)).two
  obtain ⟨qa1r, qb1r, qc1r, qd1r, qe1r⟩ := (K1.blk (g := w.heap.size + 1) (vs := [.float .f64 0, .float .f64 0]) (by simp)).two
  go_wp2_with fail
  have hbw := below_result (g := w.heap.size + 1) K1.1 (by omega) (.float .f64 0) (.float .f64 0)
  exact bodyPost_ret (v := .tuple #[.agg #[.float .f64 0, .float .f64 0], .int .i64 1]) (by simp [results, Tryd.results7, go_sem, qa1r, qb1r]) rfl ⟨rfl, hbw⟩

set_option maxRecDepth 100000 in
set_option maxHeartbeats 3200000 in
theorem span_sqrt_neg (la ha : Nat) (b1 : la < 2 ^ 64) (b2 : ha < 2 ^ 64) (h : okS la ha = true) (o1 : (Ieee.double.order ha 0 == some .lt) = true) (w : World) : Calls Tryd.prog 7 #[.agg #[.float .f64 la, .float .f64 ha]] w (RetSpan w 0 0 (.int .i64 1)) := by
  have K0 := ((Mm.nil w).var (g := w.heap.size) rfl [.float .f64 la, .float .f64 ha] 32).var (g := w.heap.size + 1) (by simp) [.float .f64 0, .float .f64 0] 32
  have HOK := Lib.hid h
  clear h
  go_enter Tryd.func7, Tryd.ntmps7
  go_wp2_with fail
  refine (span_may_one5 (w.heap.size + 1 + 1) la ha _ b1 b2 (by simp) (by simp [go_sem]) (by simp [go_sem])).mono ?_
  rintro e1 w1 ⟨rfl, hb1⟩
  rw [HOK.out]
  have K1 := (K0.box _).next hb1
  clear hb1 K0
  obtain ⟨qa1x, qb1x, qc1x, qd1x, qe1x⟩ := (K1.blk (g := w.heap.size) (vs := [.float .f64 la, .float .f64 ha]) (by simp)).two
  obtain ⟨qa1r, qb1r, qc1r, qd1r, qe1r⟩ := (K1.blk (g := w.heap.size + 1) (vs := [.float .f64 0, .float .f64 0]) (by simp)).two
  go_wp2_with fail
  have hbw := below_result (g := w.heap.size + 1) K1.1 (by omega) (.float .f64 0) (.float .f64 0)
  exact bodyPost_ret (v := .tuple #[.agg #[.float .f64 0, .float .f64 0], .int .i64 1]) (by simp [results, Tryd.results7, go_sem, qa1r, qb1r]) rfl ⟨rfl, hbw⟩

/-- What is told of a root: refused, or as A says. -/
def SqrtT (A : Nat × Nat × Int → Prop) (la ha : Nat) (p : Nat × Nat × Int) : Prop :=
  (okS la ha = false → p = (0, 0, 1)) ∧ (okS la ha = true → Flt.sv ha < 0 → p = (0, 0, 1)) ∧ (okS la ha = true → 0 ≤ Flt.sv ha → A p)
theorem ret_sp {W : World} {q : Nat × Nat × Int → Prop} {lo hi : Nat} {z : Int} {e : Ending} {w' : World} (h : RetSpan W lo hi (.int .i64 z) e w') (k : q (lo, hi, z)) : RetSp W q e w' := ⟨(lo, hi, z), k, h⟩
theorem neg_order {ha : Nat} (f : Flt.Fin ha) (h : Flt.sv ha < 0) : (Ieee.double.order ha 0 == some .lt) = true := by
  rw [Flt.lt_spec (fun k => Flt.not_fin_nan k f) nan_zero, sv_zero]
  exact decide_eq_true h
def SqrtA (la ha : Nat) (p : Nat × Nat × Int) : Prop := ∃ lo lu hd hi, IsRoot (pz (mx la 0)) lo lu ∧ IsRoot (pz ha) hd hi ∧ p = endsF lo hi
theorem span_sqrt_any (la ha : Nat) (b1 : la < 2 ^ 64) (b2 : ha < 2 ^ 64) (w : World) : Calls Tryd.prog 7 #[.agg #[.float .f64 la, .float .f64 ha]] w (RetSp w (SqrtT (SqrtA la ha) la ha)) := by
  cases hok : okS la ha with
  | false => exact (span_sqrt_no la ha b1 b2 hok w).mono (fun e w' h => ret_sp h ⟨fun _ => rfl, fun k => by rw [hok] at k; exact absurd k (by decide), fun k => by rw [hok] at k; exact absurd k (by decide)⟩)
  | true =>
    obtain ⟨f1, f2, _⟩ := okS_iff.1 hok
    by_cases h0 : 0 ≤ Flt.sv ha
    · exact (span_sqrt_ok la ha b1 b2 hok h0 w).mono (fun e w' ⟨p, hp, h⟩ => ⟨p, ⟨fun k => by rw [hok] at k; exact absurd k (by decide), fun _ k => by omega, fun _ _ => hp⟩, h⟩)
    · exact (span_sqrt_neg la ha b1 b2 hok (neg_order f2 (by omega)) w).mono (fun e w' h => ret_sp h ⟨fun _ => rfl, fun _ _ => rfl, fun _ k => absurd k h0⟩)
end Go.Proofs.YtejlicacndpfpaaDoor

namespace Go.Proofs.YtejlicacndpfpaaDoor
open Go.RowKit

/-- What round.Frac tells of a fraction that may be. -/
theorem round_frac_of (neg : Bool) (A : Option Addr) (n c : Nat) (l : List Nat) (neg' : Bool) (A' : Option Addr) (n' c' : Nat) (l' : List Nat) (r : Rat) (w : World) (hO : OkF w ((neg, A, n, c, l), (neg', A', n', c', l')) r) :
    Calls Tryd.prog 17 #[.agg #[.bool neg, .slice A n c, .bool neg', .slice A' n' c']] w (fun e w' => ∃ d u, e = .returned (.tuple #[.float .f64 d, .float .f64 u, .int .i64 0]) ∧ Down (r.num * ((2 ^ Flt.K74 : Nat) : Int)) r.den d ∧ Up (r.num * ((2 ^ Flt.K74 : Nat) : Int)) r.den u ∧ Below w.heap.size w w') := by
  obtain ⟨ha, hb, hn, hn'⟩ := hO.1
  refine (round_frac neg neg' A A' n c n' c' l l' w ha hb hn hn').mono ?_
  rintro e w' ⟨d, u, rfl, h1, _, hb1⟩
  obtain ⟨s, num, den, k1, k2, k3, k4⟩ := okF_brk hO h1
  refine ⟨d, u, ?_, k3, k4, hb1⟩
  rw [chkFr_ok ((okB_iff _).1 hO.2.1)]
/-- The least span that has a fraction. -/
def SpOf (f : LmE) (p : Nat × Nat × Int) : Prop := (okB f = false → p = (0, 0, 1)) ∧ (okB f = true → ∃ d u, Down ((rv f).num * ((2 ^ Flt.K74 : Nat) : Int)) (rv f).den d ∧ Up ((rv f).num * ((2 ^ Flt.K74 : Nat) : Int)) (rv f).den u ∧ p = endsF d u)
theorem SpOf.one {f : LmE} {p q : Nat × Nat × Int} (h : SpOf f p) (k : SpOf f q) : p = q := by
  cases ho : okB f with
  | false => rw [h.1 ho, k.1 ho]
  | true =>
    obtain ⟨d, u, a1, a2, rfl⟩ := h.2 ho
    obtain ⟨d', u', b1, b2, rfl⟩ := k.2 ho
    have hn : 0 < (rv f).den := Nat.pos_of_ne_zero (rv f).den_nz
    exact ends_of_sv a1.1 a2.1 b1.1 b2.1 (Int.le_antisymm (a1.mono b1 hn hn (Int.le_refl _)) (b1.mono a1 hn hn (Int.le_refl _))) (Int.le_antisymm (a2.mono b2 hn hn (Int.le_refl _)) (b2.mono a2 hn hn (Int.le_refl _)))

set_option maxRecDepth 100000 in
set_option maxHeartbeats 1600000 in
theorem span_of_any (neg : Bool) (A : Option Addr) (n c : Nat) (l : List Nat) (neg' : Bool) (A' : Option Addr) (n' c' : Nat) (l' : List Nat) (w : World) (hx : LmE.at_ w ((neg, A, n, c, l), (neg', A', n', c', l'))) :
    Calls Tryd.prog 5 #[.agg #[.bool neg, .slice A n c, .bool neg', .slice A' n' c']] w (RetSp w (SpOf ((neg, A, n, c, l), (neg', A', n', c', l')))) := by
  obtain ⟨o, ho⟩ : ∃ o, okB ((neg, A, n, c, l), (neg', A', n', c', l')) = o := ⟨_, rfl⟩
  obtain ⟨r, hr⟩ : ∃ r, rv ((neg, A, n, c, l), (neg', A', n', c', l')) = r := ⟨_, rfl⟩
  have K0 := ((Mm.nil w).var (g := w.heap.size) rfl [.bool neg, .slice A n c, .bool neg', .slice A' n' c'] 26).var (g := w.heap.size + 1) (by simp) [.float .f64 0, .float .f64 0] 32
  have hx0 := LmE.at_.below hx K0.1
  have HO := Lib.hid ho
  have HR := Lib.hid hr
  clear hx ho hr
  go_enter Tryd.func5, Tryd.ntmps5
  go_wp2_with fail
  generalize (w.alloc (.cells #[.bool neg, .slice A n c, .bool neg', .slice A' n' c'] 26)).alloc (.cells #[.float .f64 0, .float .f64 0] 32) = w0 at K0 hx0 ⊢
  refine (frac_check_any neg A n c l neg' A' n' c' l' _ hx0).mono ?_
  rintro e1 w1 ⟨rfl, hb1⟩
  have K1 := K0.next hb1
  have hx1 := LmE.at_.below hx0 hb1
  obtain ⟨⟨qa1, qb1, qc1, qd1⟩, _, _⟩ := (K1.blk (g := w.heap.size) (vs := [.bool neg, .slice A n c, .bool neg', .slice A' n' c']) (by simp)).four
  obtain ⟨ra1, rb1, rc1, rd1, re1⟩ := (K1.blk (g := w.heap.size + 1) (vs := [.float .f64 0, .float .f64 0]) (by simp)).two
  clear K0 hx0 hb1
  cases o with
  | false =>
    rw [HO.out]
    go_wp2_with fail
    exact bodyPost_ret (v := .tuple #[.agg #[.float .f64 0, .float .f64 0], .int .i64 1]) (by simp [results, Tryd.results5, go_sem, ra1, rb1]) rfl ⟨(0, 0, 1), ⟨fun _ => rfl, fun h => absurd (HO.out.symm.trans h) (by decide)⟩, rfl, by first | exact K1.1 | exact below_result K1.1 (by omega) _ _⟩
  | true =>
    rw [HO.out]
    have O1 : OkF w1 ((neg, A, n, c, l), (neg', A', n', c', l')) r := ⟨hx1, HO.out, HR.out⟩
    go_wp2_with fail
    refine (round_frac_of neg A n c l neg' A' n' c' l' r _ O1).mono ?_
    rintro e2 w2 ⟨d, u, rfl, hD, hU, hb2⟩
    have K2 := K1.next hb2
    have HD := Lib.hid hD
    have HU := Lib.hid hU
    clear hD hU K1 hb2
    obtain ⟨sa1, sb1, sc1, sd1, se1⟩ := (K2.blk (g := w.heap.size + 1) (vs := [.float .f64 0, .float .f64 0]) (by simp)).two
    go_wp2_with fail
    refine (span_ends_any d u HD.out.1 HU.out.1 _).mono ?_
    rintro e3 w3 ⟨rfl, hb3⟩
    have K3 := K2.next hb3
    obtain ⟨ta1, tb1, tc1, td1, te1⟩ := (K3.blk (g := w.heap.size + 1) (vs := [.float .f64 0, .float .f64 0]) (by simp)).two
    have HP : Hid (SpOf ((neg, A, n, c, l), (neg', A', n', c', l')) (endsF d u)) := Lib.hid ⟨fun h => absurd (HO.out.symm.trans h) (by decide), fun _ => ⟨d, u, by rw [HR.out]; exact HD.out, by rw [HR.out]; exact HU.out, rfl⟩⟩
    generalize endsF d u = p at HP ⊢
    obtain ⟨p1, p2, p3⟩ := p
    go_wp2_with fail
    exact bodyPost_ret (v := .tuple #[.agg #[.float .f64 p1, .float .f64 p2], .int .i64 p3]) (by simp [results, Tryd.results5, go_sem, ta1, tb1]) rfl ⟨(p1, p2, p3), HP.out, rfl, below_result K3.1 (by omega) _ _⟩

end Go.Proofs.YtejlicacndpfpaaDoor
