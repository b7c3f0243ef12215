/-
  Spans: the chapter's examples (polestarlaw05.lives).
  SpanOps: the walk.
  Spans and fractions: the least span of a fraction (span.Of), does a span have it (span.Has), and what the references tell.
-/
import Derived.Test.YtjcjphgpmpjmbaaGreatDoorSpnL
import Derived.Test.YtjcjphgpmpjmbaaGreatDoorNeaP
import Derived.Test.YtjcjphgpmpjmbaaGreatDoorAnC
import Derived.Test.YtjcjphgpmpjmbaaGreatDoorSpnO
import Derived.Test.YtjcjphgpmpjmbaaGreatDoorSpnW
import Derived.Test.YtjcjphgpmpjmbaaGreatDoorSpnV
import Derived.Test.YtjcjphgpmpjmbaaGreatDoorExB
import Derived.Test.YtjcjphgpmpjmbaaGreatDoorTzP
import Derived.Test.YtjcjphgpmpjmbaaGreatDoorCom
import Derived.Test.YtjcjphgpmpjmbaaGreatDoorSpnR
import Derived.Test.YtjcjphgpmpjmbaaGreatDoorSpnG
import Derived.Test.YtjcjphgpmpjmbaaGreatDoorFrDp
namespace Go.Proofs.YtjcjphgpmpjmbaaGreatDoor
open Go.RowKit

set_option maxRecDepth 100000 in
set_option maxHeartbeats 1600000 in
theorem lives05 (w : World) : Calls Tryz.prog 14 #[] w (RetV w (.bool true)) := by
  have HI1 : Hid (inB 4607182418800017408 4611686018427387904 4607182418800017408 4611686018427387904 = true) := Lib.hid (by decide +kernel)
  have HI2 : Hid (inB 4621819117588971520 4626322717216342016 4607182418800017408 4611686018427387904 = false) := Lib.hid (by decide +kernel)
  go_enter Tryz.func14, Tryz.ntmps14
  go_wp2_with fail
  refine (span_add_any _ _ _ _ (by decide) (by decide) (by decide) (by decide) _).mono ?_
  rintro e1 w1 ⟨p1, h1, rfl, hb1⟩
  have := add_lives h1
  subst this
  clear h1
  have k0 : w1.cell? ⟨w.heap.size, 0, none⟩ = some (.float .f64 4607182418800017408) := by rw [(bcell hb1).1 w.heap.size 0 (by simp <;> omega)]; simp [go_sem]
  have k1 : w1.cell? ⟨w.heap.size, 1, none⟩ = some (.float .f64 4611686018427387904) := by rw [(bcell hb1).1 w.heap.size 1 (by simp <;> omega)]; simp [go_sem]
  have k2 : w1.cell? ⟨w.heap.size + 1, 0, none⟩ = some (.float .f64 4621819117588971520) := by rw [(bcell hb1).1 (w.heap.size + 1) 0 (by simp <;> omega)]; simp [go_sem]
  have k3 : w1.cell? ⟨w.heap.size + 1, 1, none⟩ = some (.float .f64 4626322717216342016) := by rw [(bcell hb1).1 (w.heap.size + 1) 1 (by simp <;> omega)]; simp [go_sem]
  have sz1 : w.heap.size + 1 < w1.heap.size := by have := hb1.size; simp at this; omega
  have hbw1 := below_box (below_box hb1)
  clear hb1
  go_wp2_with fail
  refine (span_mul_any _ _ _ _ (by decide) (by decide) (by decide) (by decide) _).mono ?_
  rintro e2 w2 ⟨p2, h2, rfl, hb2⟩
  have := mul_lives h2
  subst this
  clear h2
  have j0 : w2.cell? ⟨w.heap.size, 0, none⟩ = some (.float .f64 4607182418800017408) := by rw [(bcell hb2).1 w.heap.size 0 (by simp <;> omega)]; simp [go_sem, k0, show w.heap.size < w1.heap.size by omega]
  have j1 : w2.cell? ⟨w.heap.size, 1, none⟩ = some (.float .f64 4611686018427387904) := by rw [(bcell hb2).1 w.heap.size 1 (by simp <;> omega)]; simp [go_sem, k1, show w.heap.size < w1.heap.size by omega]
  have j2 : w2.cell? ⟨w.heap.size + 1, 0, none⟩ = some (.float .f64 4621819117588971520) := by rw [(bcell hb2).1 (w.heap.size + 1) 0 (by simp <;> omega)]; simp [go_sem, k2, sz1]
  have j3 : w2.cell? ⟨w.heap.size + 1, 1, none⟩ = some (.float .f64 4626322717216342016) := by rw [(bcell hb2).1 (w.heap.size + 1) 1 (by simp <;> omega)]; simp [go_sem, k3, sz1]
  have j4 : w2.cell? ⟨w1.heap.size, 0, none⟩ = some (.float .f64 4622382067542392832) := by rw [(bcell hb2).1 w1.heap.size 0 (by simp <;> omega)]; simp [go_sem]
  have j5 : w2.cell? ⟨w1.heap.size, 1, none⟩ = some (.float .f64 4626885667169763328) := by rw [(bcell hb2).1 w1.heap.size 1 (by simp <;> omega)]; simp [go_sem]
  have sz2 : w1.heap.size < w2.heap.size := by have := hb2.size; simp at this; omega
  have hbw2 : Below w.heap.size w w2 := below_next hbw1 (below_box hb2)
  clear hb2 k0 k1 k2 k3
  have y1 : w.heap.size < w2.heap.size := by omega
  have y2 : w.heap.size + 1 < w2.heap.size := by omega
  go_wp2_with fail
  refine (span_quo_any _ _ _ _ (by decide) (by decide) (by decide) (by decide) _).mono ?_
  rintro e3 w3 ⟨p3, h3, rfl, hb3⟩
  have := quo_lives h3
  subst this
  clear h3
  have i0 : w3.cell? ⟨w.heap.size, 0, none⟩ = some (.float .f64 4607182418800017408) := by rw [(bcell hb3).1 w.heap.size 0 (by simp <;> omega)]; simp [go_sem, j0, y1]
  have i1 : w3.cell? ⟨w.heap.size, 1, none⟩ = some (.float .f64 4611686018427387904) := by rw [(bcell hb3).1 w.heap.size 1 (by simp <;> omega)]; simp [go_sem, j1, y1]
  have i2 : w3.cell? ⟨w.heap.size + 1, 0, none⟩ = some (.float .f64 4621819117588971520) := by rw [(bcell hb3).1 (w.heap.size + 1) 0 (by simp <;> omega)]; simp [go_sem, j2, y2]
  have i3 : w3.cell? ⟨w.heap.size + 1, 1, none⟩ = some (.float .f64 4626322717216342016) := by rw [(bcell hb3).1 (w.heap.size + 1) 1 (by simp <;> omega)]; simp [go_sem, j3, y2]
  have i4 : w3.cell? ⟨w1.heap.size, 0, none⟩ = some (.float .f64 4622382067542392832) := by rw [(bcell hb3).1 w1.heap.size 0 (by simp <;> omega)]; simp [go_sem, j4, sz2]
  have i5 : w3.cell? ⟨w1.heap.size, 1, none⟩ = some (.float .f64 4626885667169763328) := by rw [(bcell hb3).1 w1.heap.size 1 (by simp <;> omega)]; simp [go_sem, j5, sz2]
  have i6 : w3.cell? ⟨w2.heap.size, 0, none⟩ = some (.float .f64 13841813454723219456) := by rw [(bcell hb3).1 w2.heap.size 0 (by simp <;> omega)]; simp [go_sem]
  have i7 : w3.cell? ⟨w2.heap.size, 1, none⟩ = some (.float .f64 4620693217682128896) := by rw [(bcell hb3).1 w2.heap.size 1 (by simp <;> omega)]; simp [go_sem]
  have sz3 : w2.heap.size < w3.heap.size := by have := hb3.size; simp at this; omega
  have hbw3 : Below w.heap.size w w3 := below_next hbw2 (below_box hb3)
  clear hb3 j0 j1 j2 j3 j4 j5
  have x1 : w.heap.size < w3.heap.size := by omega
  have x2 : w.heap.size + 1 < w3.heap.size := by omega
  have x3 : w1.heap.size < w3.heap.size := by omega
  have E1 : (Ieee.double.order 4622382067542392832 4622382067542392832 == some .eq) = true := by decide +kernel
  have E2 : (Ieee.double.order 4626885667169763328 4626885667169763328 == some .eq) = true := by decide +kernel
  have E3 : (Ieee.double.order 13841813454723219456 13841813454723219456 == some .eq) = true := by decide +kernel
  have E4 : (Ieee.double.order 4620693217682128896 4620693217682128896 == some .eq) = true := by decide +kernel
  go_wp2_with fail
  refine (span_in_any _ _ _ _ (by decide) (by decide) (by decide) (by decide) _).mono ?_
  rintro e4 w4 ⟨rfl, hb4⟩
  rw [HI1.out]
  have j0 : w4.cell? ⟨w.heap.size, 0, none⟩ = some (.float .f64 4607182418800017408) := by rw [(bcell hb4).1 w.heap.size 0 (by simp <;> omega)]; simp [go_sem, i0, x1]
  have j1 : w4.cell? ⟨w.heap.size, 1, none⟩ = some (.float .f64 4611686018427387904) := by rw [(bcell hb4).1 w.heap.size 1 (by simp <;> omega)]; simp [go_sem, i1, x1]
  have j2 : w4.cell? ⟨w.heap.size + 1, 0, none⟩ = some (.float .f64 4621819117588971520) := by rw [(bcell hb4).1 (w.heap.size + 1) 0 (by simp <;> omega)]; simp [go_sem, i2, x2]
  have j3 : w4.cell? ⟨w.heap.size + 1, 1, none⟩ = some (.float .f64 4626322717216342016) := by rw [(bcell hb4).1 (w.heap.size + 1) 1 (by simp <;> omega)]; simp [go_sem, i3, x2]
  have hbw4 : Below w.heap.size w w4 := below_next hbw3 (below_box hb4)
  clear hb4 i0 i1 i2 i3 i4 i5 i6 i7
  go_wp2_with fail
  refine (span_in_any _ _ _ _ (by decide) (by decide) (by decide) (by decide) _).mono ?_
  rintro e5 w5 ⟨rfl, hb5⟩
  rw [HI2.out]
  go_wp2_with fail
  go_ret
  exact ⟨rfl, below_next hbw4 hb5⟩
end Go.Proofs.YtjcjphgpmpjmbaaGreatDoor

namespace Go.Proofs.YtjcjphgpmpjmbaaGreatDoor
open Go.RowKit

set_option maxRecDepth 100000 in
set_option maxHeartbeats 1600000 in
theorem span_check_any (la ha : Nat) (b1 : la < 2 ^ 64) (b2 : ha < 2 ^ 64) (w : World) : Calls Tryz.prog 42 #[.agg #[.float .f64 la, .float .f64 ha]] w (RetV w (.int .i64 (okI la ha))) := by
  have K0 := (Mm.nil w).var (g := w.heap.size) rfl [.float .f64 la, .float .f64 ha] 24
  obtain ⟨m, hm⟩ : ∃ m, okS la ha = m := ⟨_, rfl⟩
  have HM := Lib.hid hm
  have HI : Hid (okI la ha = if m then 0 else 1) := Lib.hid (by unfold okI; rw [hm])
  clear hm
  cases m with
  | false =>
    have HJ : Hid (okI la ha = 1) := HI
    rw [HJ.out]
    clear HI HJ
    go_enter Tryz.func42, Tryz.ntmps42
    go_wp2_with fail
    refine (span_may_one (w.heap.size + 1) la ha _ b1 b2 (by simp) (by simp [go_sem]) (by simp [go_sem])).mono ?_
    rintro e1 w1 ⟨rfl, hb1⟩
    rw [HM.out]
    have K1 := (K0.box _).next hb1
    go_wp2_with fail
    go_ret
    exact ⟨rfl, K1.1⟩
  | true =>
    have HJ : Hid (okI la ha = 0) := HI
    rw [HJ.out]
    clear HI HJ
    go_enter Tryz.func42, Tryz.ntmps42
    go_wp2_with fail
    refine (span_may_one (w.heap.size + 1) la ha _ b1 b2 (by simp) (by simp [go_sem]) (by simp [go_sem])).mono ?_
    rintro e1 w1 ⟨rfl, hb1⟩
    rw [HM.out]
    have K1 := (K0.box _).next hb1
    go_wp2_with fail
    go_ret
    exact ⟨rfl, K1.1⟩
end Go.Proofs.YtjcjphgpmpjmbaaGreatDoor

namespace Go.Proofs.YtjcjphgpmpjmbaaGreatDoor
open Go.RowKit

/-- What round.Frac tells of a fraction that may be. -/
theorem round_frac_of (neg : Bool) (A : Option Addr) (n c : Nat) (l : List Nat) (neg' : Bool) (A' : Option Addr) (n' c' : Nat) (l' : List Nat) (r : Rat) (w : World) (hO : OkF w ((neg, A, n, c, l), (neg', A', n', c', l')) r) :
    Calls Tryz.prog 30 #[.agg #[.bool neg, .slice A n c, .bool neg', .slice A' n' c']] w (fun e w' => ∃ d u, e = .returned (.tuple #[.float .f64 d, .float .f64 u, .int .i64 0]) ∧ Down (r.num * ((2 ^ Flt.K74 : Nat) : Int)) r.den d ∧ Up (r.num * ((2 ^ Flt.K74 : Nat) : Int)) r.den u ∧ Below w.heap.size w w') := by
  obtain ⟨ha, hb, hn, hn'⟩ := hO.1
  refine (round_frac neg neg' A A' n c n' c' l l' w ha hb hn hn').mono ?_
  rintro e w' ⟨d, u, rfl, h1, _, hb1⟩
  obtain ⟨s, num, den, k1, k2, k3, k4⟩ := okF_brk hO h1
  refine ⟨d, u, ?_, k3, k4, hb1⟩
  rw [chkFr_ok ((okB_iff _).1 hO.2.1)]
/-- The least span that has a fraction. -/
def SpOf (f : LmE) (p : Nat × Nat × Int) : Prop := (okB f = false → p = (0, 0, 1)) ∧ (okB f = true → ∃ d u, Down ((rv f).num * ((2 ^ Flt.K74 : Nat) : Int)) (rv f).den d ∧ Up ((rv f).num * ((2 ^ Flt.K74 : Nat) : Int)) (rv f).den u ∧ p = endsF d u)
theorem SpOf.one {f : LmE} {p q : Nat × Nat × Int} (h : SpOf f p) (k : SpOf f q) : p = q := by
  cases ho : okB f with
  | false => rw [h.1 ho, k.1 ho]
  | true =>
    obtain ⟨d, u, a1, a2, rfl⟩ := h.2 ho
    obtain ⟨d', u', b1, b2, rfl⟩ := k.2 ho
    have hn : 0 < (rv f).den := Nat.pos_of_ne_zero (rv f).den_nz
    exact ends_of_sv a1.1 a2.1 b1.1 b2.1 (Int.le_antisymm (a1.mono b1 hn hn (Int.le_refl _)) (b1.mono a1 hn hn (Int.le_refl _))) (Int.le_antisymm (a2.mono b2 hn hn (Int.le_refl _)) (b2.mono a2 hn hn (Int.le_refl _)))

set_option maxRecDepth 100000 in
set_option maxHeartbeats 1600000 in
theorem span_of_any (neg : Bool) (A : Option Addr) (n c : Nat) (l : List Nat) (neg' : Bool) (A' : Option Addr) (n' c' : Nat) (l' : List Nat) (w : World) (hx : LmE.at_ w ((neg, A, n, c, l), (neg', A', n', c', l'))) :
    Calls Tryz.prog 8 #[.agg #[.bool neg, .slice A n c, .bool neg', .slice A' n' c']] w (RetSp w (SpOf ((neg, A, n, c, l), (neg', A', n', c', l')))) := by
  obtain ⟨o, ho⟩ : ∃ o, okB ((neg, A, n, c, l), (neg', A', n', c', l')) = o := ⟨_, rfl⟩
  obtain ⟨r, hr⟩ : ∃ r, rv ((neg, A, n, c, l), (neg', A', n', c', l')) = r := ⟨_, rfl⟩
  have K0 := ((Mm.nil w).var (g := w.heap.size) rfl [.bool neg, .slice A n c, .bool neg', .slice A' n' c'] 29).var (g := w.heap.size + 1) (by simp) [.float .f64 0, .float .f64 0] 24
  have hx0 := LmE.at_.below hx K0.1
  have HO := Lib.hid ho
  have HR := Lib.hid hr
  clear hx ho hr
  go_enter Tryz.func8, Tryz.ntmps8
  go_wp2_with fail
  generalize (w.alloc (.cells #[.bool neg, .slice A n c, .bool neg', .slice A' n' c'] 29)).alloc (.cells #[.float .f64 0, .float .f64 0] 24) = w0 at K0 hx0 ⊢
  refine (frac_check_any neg A n c l neg' A' n' c' l' _ hx0).mono ?_
  rintro e1 w1 ⟨rfl, hb1⟩
  have K1 := K0.next hb1
  have hx1 := LmE.at_.below hx0 hb1
  obtain ⟨⟨qa1, qb1, qc1, qd1⟩, _, _⟩ := (K1.blk (g := w.heap.size) (vs := [.bool neg, .slice A n c, .bool neg', .slice A' n' c']) (by simp)).four
  obtain ⟨ra1, rb1, rc1, rd1, re1⟩ := (K1.blk (g := w.heap.size + 1) (vs := [.float .f64 0, .float .f64 0]) (by simp)).two
  clear K0 hx0 hb1
  cases o with
  | false =>
    rw [HO.out]
    go_wp2_with fail
    exact bodyPost_ret (v := .tuple #[.agg #[.float .f64 0, .float .f64 0], .int .i64 1]) (by simp [results, Tryz.results8, go_sem, ra1, rb1]) rfl ⟨(0, 0, 1), ⟨fun _ => rfl, fun h => absurd (HO.out.symm.trans h) (by decide)⟩, rfl, by first | exact K1.1 | exact below_result K1.1 (by omega) _ _⟩
  | true =>
    rw [HO.out]
    have O1 : OkF w1 ((neg, A, n, c, l), (neg', A', n', c', l')) r := ⟨hx1, HO.out, HR.out⟩
    go_wp2_with fail
    refine (round_frac_of neg A n c l neg' A' n' c' l' r _ O1).mono ?_
    rintro e2 w2 ⟨d, u, rfl, hD, hU, hb2⟩
    have K2 := K1.next hb2
    have HD := Lib.hid hD
    have HU := Lib.hid hU
    clear hD hU K1 hb2
    obtain ⟨sa1, sb1, sc1, sd1, se1⟩ := (K2.blk (g := w.heap.size + 1) (vs := [.float .f64 0, .float .f64 0]) (by simp)).two
    go_wp2_with fail
    refine (span_ends_any d u HD.out.1 HU.out.1 _).mono ?_
    rintro e3 w3 ⟨rfl, hb3⟩
    have K3 := K2.next hb3
    obtain ⟨ta1, tb1, tc1, td1, te1⟩ := (K3.blk (g := w.heap.size + 1) (vs := [.float .f64 0, .float .f64 0]) (by simp)).two
    have HP : Hid (SpOf ((neg, A, n, c, l), (neg', A', n', c', l')) (endsF d u)) := Lib.hid ⟨fun h => absurd (HO.out.symm.trans h) (by decide), fun _ => ⟨d, u, by rw [HR.out]; exact HD.out, by rw [HR.out]; exact HU.out, rfl⟩⟩
    generalize endsF d u = p at HP ⊢
    obtain ⟨p1, p2, p3⟩ := p
    go_wp2_with fail
    exact bodyPost_ret (v := .tuple #[.agg #[.float .f64 p1, .float .f64 p2], .int .i64 p3]) (by simp [results, Tryz.results8, go_sem, ta1, tb1]) rfl ⟨(p1, p2, p3), HP.out, rfl, below_result K3.1 (by omega) _ _⟩

end Go.Proofs.YtjcjphgpmpjmbaaGreatDoor
