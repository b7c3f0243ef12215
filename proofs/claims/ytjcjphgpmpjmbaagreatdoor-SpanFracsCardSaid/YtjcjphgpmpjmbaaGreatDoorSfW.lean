/-
  Spans: the chapter's examples (polestarlaw05.lives).
  SpanFracs answers true.
-/
import Derived.Test.YtjcjphgpmpjmbaaGreatDoorSfO
import Derived.Test.YtjcjphgpmpjmbaaGreatDoorSfH
import Derived.Test.YtjcjphgpmpjmbaaGreatDoorExFb
import Derived.Test.YtjcjphgpmpjmbaaGreatDoorEyT
import Derived.Test.YtjcjphgpmpjmbaaGreatDoorExFe
import Derived.Test.YtjcjphgpmpjmbaaGreatDoorBey
namespace Go.Proofs.YtjcjphgpmpjmbaaGreatDoor
open Go.RowKit

set_option maxRecDepth 100000 in
set_option maxHeartbeats 1600000 in
theorem lives05 (w : World) : Calls Tryz.prog 14 #[] w (RetV w (.bool true)) := by
  have HI1 : Hid (inB 4607182418800017408 4611686018427387904 4607182418800017408 4611686018427387904 = true) := Lib.hid (by decide +kernel)
  have HI2 : Hid (inB 4621819117588971520 4626322717216342016 4607182418800017408 4611686018427387904 = false) := Lib.hid (by decide +kernel)
  go_enter Tryz.func14, Tryz.ntmps14
  go_wp2_with fail
  refine (span_add_any _ _ _ _ (by decide) (by decide) (by decide) (by decide) _).mono ?_
  rintro e1 w1 ⟨p1, h1, rfl, hb1⟩
  have := add_lives h1
  subst this
  clear h1
  have k0 : w1.cell? ⟨w.heap.size, 0, none⟩ = some (.float .f64 4607182418800017408) := by rw [(bcell hb1).1 w.heap.size 0 (by simp <;> omega)]; simp [go_sem]
  have k1 : w1.cell? ⟨w.heap.size, 1, none⟩ = some (.float .f64 4611686018427387904) := by rw [(bcell hb1).1 w.heap.size 1 (by simp <;> omega)]; simp [go_sem]
  have k2 : w1.cell? ⟨w.heap.size + 1, 0, none⟩ = some (.float .f64 4621819117588971520) := by rw [(bcell hb1).1 (w.heap.size + 1) 0 (by simp <;> omega)]; simp [go_sem]
  have k3 : w1.cell? ⟨w.heap.size + 1, 1, none⟩ = some (.float .f64 4626322717216342016) := by rw [(bcell hb1).1 (w.heap.size + 1) 1 (by simp <;> omega)]; simp [go_sem]
  have sz1 : w.heap.size + 1 < w1.heap.size := by have := hb1.size; simp at this; omega
  have hbw1 := below_box (below_box hb1)
  clear hb1
  go_wp2_with fail
  refine (span_mul_any _ _ _ _ (by decide) (by decide) (by decide) (by decide) _).mono ?_
  rintro e2 w2 ⟨p2, h2, rfl, hb2⟩
  have := mul_lives h2
  subst this
  clear h2
  have j0 : w2.cell? ⟨w.heap.size, 0, none⟩ = some (.float .f64 4607182418800017408) := by rw [(bcell hb2).1 w.heap.size 0 (by simp <;> omega)]; simp [go_sem, k0, show w.heap.size < w1.heap.size by omega]
  have j1 : w2.cell? ⟨w.heap.size, 1, none⟩ = some (.float .f64 4611686018427387904) := by rw [(bcell hb2).1 w.heap.size 1 (by simp <;> omega)]; simp [go_sem, k1, show w.heap.size < w1.heap.size by omega]
  have j2 : w2.cell? ⟨w.heap.size + 1, 0, none⟩ = some (.float .f64 4621819117588971520) := by rw [(bcell hb2).1 (w.heap.size + 1) 0 (by simp <;> omega)]; simp [go_sem, k2, sz1]
  have j3 : w2.cell? ⟨w.heap.size + 1, 1, none⟩ = some (.float .f64 4626322717216342016) := by rw [(bcell hb2).1 (w.heap.size + 1) 1 (by simp <;> omega)]; simp [go_sem, k3, sz1]
  have j4 : w2.cell? ⟨w1.heap.size, 0, none⟩ = some (.float .f64 4622382067542392832) := by rw [(bcell hb2).1 w1.heap.size 0 (by simp <;> omega)]; simp [go_sem]
  have j5 : w2.cell? ⟨w1.heap.size, 1, none⟩ = some (.float .f64 4626885667169763328) := by rw [(bcell hb2).1 w1.heap.size 1 (by simp <;> omega)]; simp [go_sem]
  have sz2 : w1.heap.size < w2.heap.size := by have := hb2.size; simp at this; omega
  have hbw2 : Below w.heap.size w w2 := below_next hbw1 (below_box hb2)
  clear hb2 k0 k1 k2 k3
  have y1 : w.heap.size < w2.heap.size := by omega
  have y2 : w.heap.size + 1 < w2.heap.size := by omega
  go_wp2_with fail
  refine (span_quo_any _ _ _ _ (by decide) (by decide) (by decide) (by decide) _).mono ?_
  rintro e3 w3 ⟨p3, h3, rfl, hb3⟩
  have := quo_lives h3
  subst this
  clear h3
  have i0 : w3.cell? ⟨w.heap.size, 0, none⟩ = some (.float .f64 4607182418800017408) := by rw [(bcell hb3).1 w.heap.size 0 (by simp <;> omega)]; simp [go_sem, j0, y1]
  have i1 : w3.cell? ⟨w.heap.size, 1, none⟩ = some (.float .f64 4611686018427387904) := by rw [(bcell hb3).1 w.heap.size 1 (by simp <;> omega)]; simp [go_sem, j1, y1]
  have i2 : w3.cell? ⟨w.heap.size + 1, 0, none⟩ = some (.float .f64 4621819117588971520) := by rw [(bcell hb3).1 (w.heap.size + 1) 0 (by simp <;> omega)]; simp [go_sem, j2, y2]
  have i3 : w3.cell? ⟨w.heap.size + 1, 1, none⟩ = some (.float .f64 4626322717216342016) := by rw [(bcell hb3).1 (w.heap.size + 1) 1 (by simp <;> omega)]; simp [go_sem, j3, y2]
  have i4 : w3.cell? ⟨w1.heap.size, 0, none⟩ = some (.float .f64 4622382067542392832) := by rw [(bcell hb3).1 w1.heap.size 0 (by simp <;> omega)]; simp [go_sem, j4, sz2]
  have i5 : w3.cell? ⟨w1.heap.size, 1, none⟩ = some (.float .f64 4626885667169763328) := by rw [(bcell hb3).1 w1.heap.size 1 (by simp <;> omega)]; simp [go_sem, j5, sz2]
  have i6 : w3.cell? ⟨w2.heap.size, 0, none⟩ = some (.float .f64 13841813454723219456) := by rw [(bcell hb3).1 w2.heap.size 0 (by simp <;> omega)]; simp [go_sem]
  have i7 : w3.cell? ⟨w2.heap.size, 1, none⟩ = some (.float .f64 4620693217682128896) := by rw [(bcell hb3).1 w2.heap.size 1 (by simp <;> omega)]; simp [go_sem]
  have sz3 : w2.heap.size < w3.heap.size := by have := hb3.size; simp at this; omega
  have hbw3 : Below w.heap.size w w3 := below_next hbw2 (below_box hb3)
  clear hb3 j0 j1 j2 j3 j4 j5
  have x1 : w.heap.size < w3.heap.size := by omega
  have x2 : w.heap.size + 1 < w3.heap.size := by omega
  have x3 : w1.heap.size < w3.heap.size := by omega
  have E1 : (Ieee.double.order 4622382067542392832 4622382067542392832 == some .eq) = true := by decide +kernel
  have E2 : (Ieee.double.order 4626885667169763328 4626885667169763328 == some .eq) = true := by decide +kernel
  have E3 : (Ieee.double.order 13841813454723219456 13841813454723219456 == some .eq) = true := by decide +kernel
  have E4 : (Ieee.double.order 4620693217682128896 4620693217682128896 == some .eq) = true := by decide +kernel
  go_wp2_with fail
  refine (span_in_any _ _ _ _ (by decide) (by decide) (by decide) (by decide) _).mono ?_
  rintro e4 w4 ⟨rfl, hb4⟩
  rw [HI1.out]
  have j0 : w4.cell? ⟨w.heap.size, 0, none⟩ = some (.float .f64 4607182418800017408) := by rw [(bcell hb4).1 w.heap.size 0 (by simp <;> omega)]; simp [go_sem, i0, x1]
  have j1 : w4.cell? ⟨w.heap.size, 1, none⟩ = some (.float .f64 4611686018427387904) := by rw [(bcell hb4).1 w.heap.size 1 (by simp <;> omega)]; simp [go_sem, i1, x1]
  have j2 : w4.cell? ⟨w.heap.size + 1, 0, none⟩ = some (.float .f64 4621819117588971520) := by rw [(bcell hb4).1 (w.heap.size + 1) 0 (by simp <;> omega)]; simp [go_sem, i2, x2]
  have j3 : w4.cell? ⟨w.heap.size + 1, 1, none⟩ = some (.float .f64 4626322717216342016) := by rw [(bcell hb4).1 (w.heap.size + 1) 1 (by simp <;> omega)]; simp [go_sem, i3, x2]
  have hbw4 : Below w.heap.size w w4 := below_next hbw3 (below_box hb4)
  clear hb4 i0 i1 i2 i3 i4 i5 i6 i7
  go_wp2_with fail
  refine (span_in_any _ _ _ _ (by decide) (by decide) (by decide) (by decide) _).mono ?_
  rintro e5 w5 ⟨rfl, hb5⟩
  rw [HI2.out]
  go_wp2_with fail
  go_ret
  exact ⟨rfl, below_next hbw4 hb5⟩
end Go.Proofs.YtjcjphgpmpjmbaaGreatDoor

namespace Go.Proofs.YtjcjphgpmpjmbaaGreatDoor
open Go.RowKit

set_option maxRecDepth 100000 in
set_option maxHeartbeats 6400000 in
theorem law_spanFracs (lo hi : Nat) (neg neg' : Bool) (A A' : Option Addr) (n c n' c' : Nat) (l l' : List Nat) (w : World) (b1 : lo < 2 ^ 64) (b2 : hi < 2 ^ 64) (ha : Sl w A n c l) (hb : Sl w A' n' c' l') (hn : n ≤ 281474976710656) (hn' : n' ≤ 281474976710656) (hT : Tab w) :
    Calls Tryz.prog 3 #[.agg #[.float .f64 lo, .float .f64 hi], .agg #[.bool neg, .slice A n c, .bool neg', .slice A' n' c']] w (RetV w (.bool true)) := by
  have K0 := ((Mm.nil w).var (g := w.heap.size) rfl [.float .f64 lo, .float .f64 hi] 24).var (g := w.heap.size + 1) (by simp) [.bool neg, .slice A n c, .bool neg', .slice A' n' c'] 29
  have ha0 := ha.below K0.1
  have hb0 := hb.below K0.1
  have HS := Lib.hid (cost_sum n n' hn hn')
  have HT := Lib.hid hT
  clear ha hb hT
  go_enter Tryz.func3, Tryz.ntmps3
  go_wp2_with fail
  refine (frac_cost_any neg neg' A A' n c n' c' _ hn hn').mono ?_
  rintro e1 w1 ⟨rfl, hb1⟩
  have K1 := K0.next hb1
  have ha1 := ha0.below hb1
  have hb2 := hb0.below hb1
  obtain ⟨⟨qa1, qb1, qc1, qd1⟩, _, _⟩ := (K1.blk (g := w.heap.size + 1) (vs := [.bool neg, .slice A n c, .bool neg', .slice A' n' c']) (by simp)).four
  clear K0 ha0 hb0 hb1
  go_wp2_with fail
  have hR2 := nats_new w1 3 [costFr n n']
  have hB2 : Below w1.heap.size w1 (w1.alloc (.cells (nats [costFr n n']).toArray 3)) := (Below.refl _ _).alloc (Nat.le_refl _) _
  have hsum : [costFr n n'].sum = costFr n n' := by simp
  generalize hg2 : w1.alloc (.cells (nats [costFr n n']).toArray 3) = w2 at hB2 hR2
  rw [show w1.alloc (.cells #[.int .i64 ((costFr n n' : Nat) : Int)] 3) = w2 from hg2]
  clear hg2
  refine (beyond_any (some ⟨w1.heap.size, 0, none⟩) 1 1 [costFr n n'] _ hR2 (by decide) HS.out).mono ?_
  rintro e2 w3 ⟨rfl, rfl⟩
  rw [hsum]
  have K2 := K1.next hB2
  have ha3 := ha1.below hB2
  have hb3 := hb2.below hB2
  clear K1 ha1 hb2 hB2 hR2 HS qa1 qb1 qc1 qd1
  by_cases hbig : 1048576 < costFr n n'
  · rw [decide_eq_true hbig]
    go_wp2_with fail
    go_ret
    exact ⟨rfl, K2.1⟩
  · rw [decide_eq_false hbig]
    obtain ⟨n1, n2⟩ := cost_le hbig
    clear hbig hn hn' hsum
    obtain ⟨⟨qa1, qb1, qc1, qd1⟩, _, _⟩ := (K2.blk (g := w.heap.size + 1) (vs := [.bool neg, .slice A n c, .bool neg', .slice A' n' c']) (by simp)).four
    go_wp2_with fail
    refine (twin_frac_any neg neg' A A' n c n' c' l l' _ ha3 hb3 n1 n2).mono ?_
    rintro e3 w3 ⟨g, d, g', d', rfl, T, T', hb4, _, _⟩
    have K3 := (K2.next hb4).var (g := w3.heap.size) rfl [.bool neg, .slice (some ⟨g, 0, none⟩) n d, .bool neg', .slice (some ⟨g', 0, none⟩) n' d'] 29
    have hbx : Below w3.heap.size w3 (w3.alloc (.cells #[.bool neg, .slice (some ⟨g, 0, none⟩) n d, .bool neg', .slice (some ⟨g', 0, none⟩) n' d'] 29)) := (Below.refl _ _).alloc (Nat.le_refl _) _
    have ha4 := (ha3.below hb4).below hbx
    have hb5 := (hb3.below hb4).below hbx
    have T4 := T.below hbx
    have T5 := T'.below hbx
    clear K2 ha3 hb3 hb4 T T' hbx qa1 qb1 qc1 qd1
    go_upto_region 4 with (fail)
    generalize hgs : w3.heap.size = gs at K3 ⊢
    generalize w3.alloc (.cells #[.bool neg, .slice (some ⟨g, 0, none⟩) n d, .bool neg', .slice (some ⟨g', 0, none⟩) n' d'] 29) = w4 at K3 ha4 hb5 T4 T5 ⊢
    clear hgs
    obtain ⟨⟨qa1, qb1, qc1, qd1⟩, _, _⟩ := (K3.blk (g := gs) (vs := [.bool neg, .slice (some ⟨g, 0, none⟩) n d, .bool neg', .slice (some ⟨g', 0, none⟩) n' d']) (by simp)).four
    go_wp2_with fail
    refine (span_of_any neg (some ⟨g, 0, none⟩) n d l neg' (some ⟨g', 0, none⟩) n' d' l' _ ⟨T4.2.1, T5.2.1, n1, n2⟩).mono ?_
    rintro e5 w5 ⟨⟨p1, p2, p3⟩, hp, rfl, hb6⟩
    have K4 := (K3.next hb6).var (g := w5.heap.size) rfl [.float .f64 p1, .float .f64 p2] 24
    have hbx : Below w4.heap.size w4 (w5.alloc (.cells #[.float .f64 p1, .float .f64 p2] 24)) := below_next hb6 ((Below.refl _ _).alloc (Nat.le_refl _) _)
    have ha5 := ha4.below hbx
    have hb7 := hb5.below hbx
    have T6 := T4.below hbx
    have T7 := T5.below hbx
    clear K3 ha4 hb5 T4 T5 hb6 hbx qa1 qb1 qc1 qd1
    go_upto_region 5 with (fail)
    generalize hga : w5.heap.size = ga at K4 ⊢
    generalize w5.alloc (.cells #[.float .f64 p1, .float .f64 p2] 24) = w6 at K4 ha5 hb7 T6 T7 ⊢
    clear hga
    obtain ⟨⟨qa1, qb1, qc1, qd1⟩, _, _⟩ := (K4.blk (g := w.heap.size + 1) (vs := [.bool neg, .slice A n c, .bool neg', .slice A' n' c']) (by simp)).four
    go_wp2_with fail
    refine (ref5_of_any neg A n c l neg' A' n' c' l' _ ⟨ha5, hb7, n1, n2⟩).mono ?_
    rintro e7 w7 ⟨⟨q1, q2, q3⟩, hq, rfl, hb8⟩
    have heq : (p1, p2, p3) = (q1, q2, q3) := SpOf.one hp hq
    injection heq with h1 h2
    injection h2 with h2 h3
    subst h1 h2 h3
    have K5 := (K4.next hb8).var (g := w7.heap.size) rfl [.float .f64 p1, .float .f64 p2] 24
    have hbx : Below w6.heap.size w6 (w7.alloc (.cells #[.float .f64 p1, .float .f64 p2] 24)) := below_next hb8 ((Below.refl _ _).alloc (Nat.le_refl _) _)
    have ha6 := ha5.below hbx
    have hb9 := hb7.below hbx
    have T8 := T6.below hbx
    have T9 := T7.below hbx
    clear K4 ha5 hb7 T6 T7 hb8 hbx qa1 qb1 qc1 qd1 hp hq
    go_upto_region 6 with (fail)
    generalize hgb : w7.heap.size = gb at K5 ⊢
    generalize w7.alloc (.cells #[.float .f64 p1, .float .f64 p2] 24) = w8 at K5 ha6 hb9 T8 T9 ⊢
    clear hgb
    obtain ⟨⟨qa1, qb1, qc1, qd1⟩, _, _⟩ := (K5.blk (g := gs) (vs := [.bool neg, .slice (some ⟨g, 0, none⟩) n d, .bool neg', .slice (some ⟨g', 0, none⟩) n' d']) (by simp)).four
    obtain ⟨ra1, rb1, _, _, _⟩ := (K5.blk (g := w.heap.size) (vs := [.float .f64 lo, .float .f64 hi]) (by simp)).two
    have hT8 := Lib.hid (HT.out.next K5.1)
    obtain ⟨v, hv⟩ : ∃ v, hasV lo hi ((neg, A, n, c, l), (neg', A', n', c', l')) = v := ⟨_, rfl⟩
    have hv' : hasV lo hi ((neg, some ⟨g, 0, none⟩, n, d, l), (neg', some ⟨g', 0, none⟩, n', d', l')) = v := hv
    have HV1 := Lib.hid hv
    have HV2 := Lib.hid hv'
    clear hv hv'
    go_wp2_with fail
    refine (span_has_any lo hi b1 b2 neg (some ⟨g, 0, none⟩) n d l neg' (some ⟨g', 0, none⟩) n' d' l' _ ⟨T8.2.1, T9.2.1, n1, n2⟩ hT8.out).mono ?_
    rintro e9 w9 ⟨rfl, hb10⟩
    rw [HV2.out]
    have K6 := K5.next hb10
    have ha7 := ha6.below hb10
    have hb11 := hb9.below hb10
    have T10 := T8.below hb10
    have T11 := T9.below hb10
    clear K5 ha6 hb9 T8 T9 hb10 qa1 qb1 qc1 qd1 ra1 rb1
    obtain ⟨⟨qa1, qb1, qc1, qd1⟩, _, _⟩ := (K6.blk (g := w.heap.size + 1) (vs := [.bool neg, .slice A n c, .bool neg', .slice A' n' c']) (by simp)).four
    obtain ⟨ra1, rb1, _, _, _⟩ := (K6.blk (g := w.heap.size) (vs := [.float .f64 lo, .float .f64 hi]) (by simp)).two
    go_wp2_with fail
    refine (ref5_asked_any lo hi b1 b2 neg A n c l neg' A' n' c' l' _ ⟨ha7, hb11, n1, n2⟩).mono ?_
    rintro e10 w10 ⟨rfl, hb12⟩
    rw [HV1.out]
    have K7 := K6.next hb12
    have ha8 := ha7.below hb12
    have hb13 := hb11.below hb12
    have T12 := T10.below hb12
    have T13 := T11.below hb12
    clear K6 ha7 hb11 T10 T11 hb12 qa1 qb1 qc1 qd1 ra1 rb1
    obtain ⟨v1, v2⟩ := v
    go_upto_region 8 with (fail)
    obtain ⟨ra1, rb1, _, _, _⟩ := (K7.blk (g := ga) (vs := [.float .f64 p1, .float .f64 p2]) (by simp)).two
    obtain ⟨sa1, sb1, _, _, _⟩ := (K7.blk (g := gb) (vs := [.float .f64 p1, .float .f64 p2]) (by simp)).two
    go_wp2_with fail
    refine (same05_eq p1 p2 p3 _).mono ?_
    rintro e11 w11 ⟨rfl, hb14⟩
    have K8 := K7.next hb14
    have ha9 := ha8.below hb14
    have hb15 := hb13.below hb14
    have T14 := T12.below hb14
    have T15 := T13.below hb14
    clear K7 ha8 hb13 T12 T13 hb14 ra1 rb1 sa1 sb1
    obtain ⟨⟨qa1, qb1, qc1, qd1⟩, _, _⟩ := (K8.blk (g := w.heap.size + 1) (vs := [.bool neg, .slice A n c, .bool neg', .slice A' n' c']) (by simp)).four
    obtain ⟨⟨ua1, ub1, uc1, ud1⟩, _, _⟩ := (K8.blk (g := gs) (vs := [.bool neg, .slice (some ⟨g, 0, none⟩) n d, .bool neg', .slice (some ⟨g', 0, none⟩) n' d']) (by simp)).four
    go_wp2_with fail
    refine (left_frac_any neg neg' A A' n c n' c' g d g' d' l l' _ ha9 hb15 T14 T15 n1 n2).mono ?_
    rintro e12 w12 ⟨rfl, hb16⟩
    have K9 := K8.next hb16
    clear K8 ha9 hb15 T14 T15 hb16
    go_wp2_with fail
    refine (lives05 _).mono ?_
    rintro e13 w13 ⟨rfl, hb17⟩
    go_wp2_with fail
    go_ret
    exact ⟨rfl, (K9.next hb17).1⟩
end Go.Proofs.YtjcjphgpmpjmbaaGreatDoor
