/-
  The chapter's numbers (polestarlaw05.SpanNames).
-/
import Derived.Test.YtejlicacndpfpaaDoorSnP
import Derived.Test.YtejlicacndpfpaaDoorSpHm
import Derived.Test.YtejlicacndpfpaaDoorSpnX
import Derived.Test.YtejlicacndpfpaaDoorSpnLw
namespace Go.Proofs.YtejlicacndpfpaaDoor
open Go.RowKit

set_option maxRecDepth 100000 in
set_option maxHeartbeats 3200000 in
theorem span_has_no (lo hi : Nat) (b1 : lo < 2 ^ 64) (b2 : hi < 2 ^ 64) (hos : okS lo hi = false) (neg : Bool) (A : Option Addr) (n c : Nat) (neg' : Bool) (A' : Option Addr) (n' c' : Nat) (w : World) :
    Calls Tryd.prog 10 #[.agg #[.float .f64 lo, .float .f64 hi], .agg #[.bool neg, .slice A n c, .bool neg', .slice A' n' c']] w (RetV w (.tuple #[.bool false, .int .i64 1])) := by
  have HOS := Lib.hid hos
  have K0 := (((Mm.nil w).var (g := w.heap.size) rfl [.float .f64 lo, .float .f64 hi] 32).var (g := w.heap.size + 1) (by simp) [.bool neg, .slice A n c, .bool neg', .slice A' n' c'] 26).box (.cells #[.float .f64 lo, .float .f64 hi] 32)
  clear hos
  go_enter Tryd.func10, Tryd.ntmps10
  go_wp2_with fail
  refine (span_may_one (w.heap.size + 1 + 1) lo hi _ b1 b2 (by simp) (by simp [go_sem]) (by simp [go_sem])).mono ?_
  rintro e1 w1 ⟨rfl, hb1⟩
  rw [HOS.out]
  have K1 := K0.next hb1
  clear K0 hb1
  go_wp2_with fail
  go_ret2
  exact ⟨rfl, K1.1⟩
set_option maxRecDepth 100000 in
set_option maxHeartbeats 12800000 in
theorem law_names (w : World) : Calls Tryd.prog 3 #[] w (RetV w (.bool true)) := by
  have K0 := Mm.nil w
  have HQ : Hid (Rat.divInt 1 3 = (1 / 3 : Rat)) := Lib.hid (by decide +kernel)
  have E0 : (Ieee.double.order 0 0 == some .eq) = true := by decide +kernel
  have E1 : (Ieee.double.order 4611686018427387904 4611686018427387904 == some .eq) = true := by decide +kernel
  have E2 : (Ieee.double.order 4616189618054758400 4616189618054758400 == some .eq) = true := by decide +kernel
  have E3 : (Ieee.double.order 13830554455654793216 13830554455654793216 == some .eq) = true := by decide +kernel
  have E4 : (Ieee.double.order 13826050856027422720 13826050856027422720 == some .eq) = true := by decide +kernel
  have E5 : (Ieee.double.order 4607182418800017408 4607182418800017408 == some .eq) = true := by decide +kernel
  go_enter Tryd.func3, Tryd.ntmps3
  go_wp2_with fail
  refine (frac_of_any 1 3 (1 / 3) _ (by decide) (by decide) (by decide) HQ).mono ?_
  rintro e1 v1 ⟨s1, A1, n1, p1, l1, z1, B1, m1, d1, k1, rfl, O1, hb⟩
  have K1 := (K0.next hb).var (g := v1.heap.size) rfl [.bool s1, .slice A1 n1 p1, .bool z1, .slice B1 m1 d1] 26
  replace O1 := O1.next (w' := v1.alloc (.cells #[.bool s1, .slice A1 n1 p1, .bool z1, .slice B1 m1 d1] 26)) ((Below.refl _ _).alloc (Nat.le_refl _) _)
  clear K0 hb
  go_upto_region 2 with (fail)
  generalize v1.heap.size = g1 at K1 ⊢
  generalize v1.alloc (.cells #[.bool s1, .slice A1 n1 p1, .bool z1, .slice B1 m1 d1] 26) = u1 at K1 O1 ⊢
  obtain ⟨⟨xa, xb, xc, xd⟩, _, _⟩ := (K1.blk (g := g1) (vs := [.bool s1, .slice A1 n1 p1, .bool z1, .slice B1 m1 d1]) (by simp)).four
  go_wp2_with fail
  refine (span_of_any s1 A1 n1 p1 l1 z1 B1 m1 d1 k1 _ O1.1).mono ?_
  rintro e2 v2 ⟨p2, h2, rfl, hb⟩
  have := third_val O1.2.1 O1.2.2 h2
  subst this
  clear h2
  have hbx : Below u1.heap.size u1 (v2.alloc (.cells #[.float .f64 4599676419421066581, .float .f64 4599676419421066582] 32)) := below_next hb ((Below.refl _ _).alloc (Nat.le_refl _) _)
  have K2 := (K1.next hb).var (g := v2.heap.size) rfl [.float .f64 4599676419421066581, .float .f64 4599676419421066582] 32
  replace O1 := O1.next hbx
  clear K1 hb hbx xa xb xc xd
  go_upto_region 3 with (fail)
  generalize v2.heap.size = g2 at K2 ⊢
  generalize v2.alloc (.cells #[.float .f64 4599676419421066581, .float .f64 4599676419421066582] 32) = u2 at K2 O1 ⊢
  go_wp2_with fail
  refine (span_quo_any 4607182418800017408 4611686018427387904 4621819117588971520 4626322717216342016 (by decide) (by decide) (by decide) (by decide) _).mono ?_
  rintro e3 v3 ⟨p3, h3, rfl, hb⟩
  have := quo_val1 h3
  subst this
  clear h3
  have hbx : Below u2.heap.size u2 (v3.alloc (.cells #[.float .f64 4587366580439587225, .float .f64 4596373779694328218] 32)) := below_next hb ((Below.refl _ _).alloc (Nat.le_refl _) _)
  have K3 := (K2.next hb).var (g := v3.heap.size) rfl [.float .f64 4587366580439587225, .float .f64 4596373779694328218] 32
  replace O1 := O1.next hbx
  clear K2 hb hbx
  go_upto_region 4 with (fail)
  generalize v3.heap.size = g3 at K3 ⊢
  generalize v3.alloc (.cells #[.float .f64 4587366580439587225, .float .f64 4596373779694328218] 32) = u3 at K3 O1 ⊢
  go_wp2_with fail
  refine (span_sqrt_any 4611686018427387904 4611686018427387904 (by decide) (by decide) _).mono ?_
  rintro e4 v4 ⟨p4, h4, rfl, hb⟩
  have := sqrt_val1 h4
  subst this
  clear h4
  have hbx : Below u3.heap.size u3 (v4.alloc (.cells #[.float .f64 4609047870845172684, .float .f64 4609047870845172685] 32)) := below_next hb ((Below.refl _ _).alloc (Nat.le_refl _) _)
  have K4 := (K3.next hb).var (g := v4.heap.size) rfl [.float .f64 4609047870845172684, .float .f64 4609047870845172685] 32
  replace O1 := O1.next hbx
  clear K3 hb hbx
  go_upto_region 5 with (fail)
  generalize v4.heap.size = g4 at K4 ⊢
  generalize v4.alloc (.cells #[.float .f64 4609047870845172684, .float .f64 4609047870845172685] 32) = u4 at K4 O1 ⊢
  go_wp2_with fail
  refine (span_sqrt_any 13830554455654793216 4616189618054758400 (by decide) (by decide) _).mono ?_
  rintro e5 v5 ⟨p5, h5, rfl, hb⟩
  have := sqrt_val2 h5
  subst this
  clear h5
  have hbx : Below u4.heap.size u4 (v5.alloc (.cells #[.float .f64 0, .float .f64 4611686018427387904] 32)) := below_next hb ((Below.refl _ _).alloc (Nat.le_refl _) _)
  have K5 := (K4.next hb).var (g := v5.heap.size) rfl [.float .f64 0, .float .f64 4611686018427387904] 32
  replace O1 := O1.next hbx
  clear K4 hb hbx
  go_upto_region 6 with (fail)
  generalize v5.heap.size = g5 at K5 ⊢
  generalize v5.alloc (.cells #[.float .f64 0, .float .f64 4611686018427387904] 32) = u5 at K5 O1 ⊢
  go_wp2_with fail
  refine (span_sqrt_any 13835058055282163712 13830554455654793216 (by decide) (by decide) _).mono ?_
  rintro e6 v6 ⟨p6, h6, rfl, hb⟩
  have := sqrt_val3 h6
  subst this
  clear h6
  have hbx : Below u5.heap.size u5 (v6.alloc (.cells #[.float .f64 0, .float .f64 0] 32)) := below_next hb ((Below.refl _ _).alloc (Nat.le_refl _) _)
  have K6 := (K5.next hb).var (g := v6.heap.size) rfl [.float .f64 0, .float .f64 0] 32
  replace O1 := O1.next hbx
  clear K5 hb hbx
  go_upto_region 7 with (fail)
  generalize v6.heap.size = g6 at K6 ⊢
  generalize v6.alloc (.cells #[.float .f64 0, .float .f64 0] 32) = u6 at K6 O1 ⊢
  go_wp2_with fail
  refine (span_square_any 13830554455654793216 4611686018427387904 (by decide) (by decide) _).mono ?_
  rintro e7 v7 ⟨p7, h7, rfl, hb⟩
  have := sqr_val h7
  subst this
  clear h7
  have hbx : Below u6.heap.size u6 (v7.alloc (.cells #[.float .f64 0, .float .f64 4616189618054758400] 32)) := below_next hb ((Below.refl _ _).alloc (Nat.le_refl _) _)
  have K7 := (K6.next hb).var (g := v7.heap.size) rfl [.float .f64 0, .float .f64 4616189618054758400] 32
  replace O1 := O1.next hbx
  clear K6 hb hbx
  go_upto_region 8 with (fail)
  generalize v7.heap.size = g7 at K7 ⊢
  generalize v7.alloc (.cells #[.float .f64 0, .float .f64 4616189618054758400] 32) = u7 at K7 O1 ⊢
  go_wp2_with fail
  refine (span_quo_any 4607182418800017408 4607182418800017408 0 4607182418800017408 (by decide) (by decide) (by decide) (by decide) _).mono ?_
  rintro e8 v8 ⟨p8, h8, rfl, hb⟩
  have := quo_val3 h8
  subst this
  clear h8
  have hbx : Below u7.heap.size u7 (v8.alloc (.cells #[.float .f64 0, .float .f64 0] 32)) := below_next hb ((Below.refl _ _).alloc (Nat.le_refl _) _)
  have K8 := (K7.next hb).var (g := v8.heap.size) rfl [.float .f64 0, .float .f64 0] 32
  replace O1 := O1.next hbx
  clear K7 hb hbx
  go_upto_region 9 with (fail)
  generalize v8.heap.size = g8 at K8 ⊢
  generalize v8.alloc (.cells #[.float .f64 0, .float .f64 0] 32) = u8 at K8 O1 ⊢
  go_wp2_with fail
  refine (span_quo_any 4607182418800017408 4607182418800017408 13835058055282163712 13830554455654793216 (by decide) (by decide) (by decide) (by decide) _).mono ?_
  rintro e9 v9 ⟨p9, h9, rfl, hb⟩
  have := quo_val2 h9
  subst this
  clear h9
  have hbx : Below u8.heap.size u8 (v9.alloc (.cells #[.float .f64 13830554455654793216, .float .f64 13826050856027422720] 32)) := below_next hb ((Below.refl _ _).alloc (Nat.le_refl _) _)
  have K9 := (K8.next hb).var (g := v9.heap.size) rfl [.float .f64 13830554455654793216, .float .f64 13826050856027422720] 32
  replace O1 := O1.next hbx
  clear K8 hb hbx
  go_upto_region 10 with (fail)
  generalize v9.heap.size = g9 at K9 ⊢
  generalize v9.alloc (.cells #[.float .f64 13830554455654793216, .float .f64 13826050856027422720] 32) = u9 at K9 O1 ⊢
  go_wp2_with fail
  refine (span_add_any 9218868437227405311 9218868437227405311 9218868437227405311 9218868437227405311 (by decide) (by decide) (by decide) (by decide) _).mono ?_
  rintro e10 v10 ⟨p10, h10, rfl, hb⟩
  have := add_val h10
  subst this
  clear h10
  have hbx : Below u9.heap.size u9 (v10.alloc (.cells #[.float .f64 0, .float .f64 0] 32)) := below_next hb ((Below.refl _ _).alloc (Nat.le_refl _) _)
  have K10 := (K9.next hb).var (g := v10.heap.size) rfl [.float .f64 0, .float .f64 0] 32
  replace O1 := O1.next hbx
  clear K9 hb hbx
  go_upto_region 11 with (fail)
  generalize v10.heap.size = g10 at K10 ⊢
  generalize v10.alloc (.cells #[.float .f64 0, .float .f64 0] 32) = u10 at K10 O1 ⊢
  obtain ⟨⟨xa, xb, xc, xd⟩, _, _⟩ := (K10.blk (g := g1) (vs := [.bool s1, .slice A1 n1 p1, .bool z1, .slice B1 m1 d1]) (by simp)).four
  go_wp2_with fail
  refine (span_has_no 4607182418800017408 0 (by decide) (by decide) (by decide +kernel) s1 A1 n1 p1 z1 B1 m1 d1 _).mono ?_
  rintro e11 u11 ⟨rfl, hb⟩
  have K11 := K10.next hb
  replace O1 := O1.next hb
  clear K10 hb xa xb xc xd O1
  go_wp2_with fail
  refine (span_meet_any 0 4611686018427387904 4607182418800017408 4613937818241073152 (by decide) (by decide) (by decide) (by decide) _).mono ?_
  rintro e12 v12 ⟨rfl, hb⟩
  rw [show meetF 0 4611686018427387904 4607182418800017408 4613937818241073152 = (4607182418800017408, 4611686018427387904, true) by decide +kernel]
  have K12 := (K11.next hb).var (g := v12.heap.size) rfl [.float .f64 4607182418800017408, .float .f64 4611686018427387904] 32
  clear K11 hb
  go_upto_region 13 with (fail)
  generalize v12.heap.size = g12 at K12 ⊢
  generalize v12.alloc (.cells #[.float .f64 4607182418800017408, .float .f64 4611686018427387904] 32) = u12 at K12 ⊢
  go_wp2_with fail
  refine (span_meet_any 0 4607182418800017408 4611686018427387904 4613937818241073152 (by decide) (by decide) (by decide) (by decide) _).mono ?_
  rintro e13 v13 ⟨rfl, hb⟩
  rw [show meetF 0 4607182418800017408 4611686018427387904 4613937818241073152 = (0, 0, false) by decide +kernel]
  have K13 := (K12.next hb).var (g := v13.heap.size) rfl [.float .f64 0, .float .f64 0] 32
  clear K12 hb
  go_upto_region 14 with (fail)
  generalize v13.heap.size = g13 at K13 ⊢
  generalize v13.alloc (.cells #[.float .f64 0, .float .f64 0] 32) = u13 at K13 ⊢
  obtain ⟨a2, b2, _, _, _⟩ := (K13.blk (g := g2) (vs := [.float .f64 4599676419421066581, .float .f64 4599676419421066582]) (by simp)).two
  obtain ⟨a3, b3, _, _, _⟩ := (K13.blk (g := g3) (vs := [.float .f64 4587366580439587225, .float .f64 4596373779694328218]) (by simp)).two
  obtain ⟨a4, b4, _, _, _⟩ := (K13.blk (g := g4) (vs := [.float .f64 4609047870845172684, .float .f64 4609047870845172685]) (by simp)).two
  obtain ⟨a5, b5, _, _, _⟩ := (K13.blk (g := g5) (vs := [.float .f64 0, .float .f64 4611686018427387904]) (by simp)).two
  obtain ⟨a7, b7, _, _, _⟩ := (K13.blk (g := g7) (vs := [.float .f64 0, .float .f64 4616189618054758400]) (by simp)).two
  obtain ⟨a9, b9, _, _, _⟩ := (K13.blk (g := g9) (vs := [.float .f64 13830554455654793216, .float .f64 13826050856027422720]) (by simp)).two
  obtain ⟨a12, b12, _, _, _⟩ := (K13.blk (g := g12) (vs := [.float .f64 4607182418800017408, .float .f64 4611686018427387904]) (by simp)).two
  go_wp2_with fail
  refine (lives05 _).mono ?_
  rintro e17 w17 ⟨rfl, hb17⟩
  go_wp2_with fail
  go_ret
  exact ⟨rfl, below_next K13.1 hb17⟩
end Go.Proofs.YtejlicacndpfpaaDoor
