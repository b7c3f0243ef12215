/-
  TurnNames: the walk.
-/
import Derived.Test.YtdmdaoginojalaaGreatDoorDtE
import Derived.Test.YtdmdaoginojalaaGreatDoorTurT
import Derived.Test.YtdmdaoginojalaaGreatDoorTurL
namespace Go.Proofs.YtdmdaoginojalaaGreatDoor
open Go.RowKit

theorem table_no17 (n : Int) (h : cntF n ≠ 0) (w : World) : Calls Tryz.prog 11 #[.int .i64 n] w
    fun e w' => e = .returned (.tuple #[.slice none 0 0, .int .i64 (cntF n)]) ∧ w = w' := by
  go_enter Tryz.func11, Tryz.ntmps11
  go_wp2_with fail
  refine (counted_any _ _).mono ?_
  rintro e1 w1 ⟨rfl, rfl⟩
  go_wp2_with fail
  exact bodyPost_ret (v := .tuple #[.slice none 0 0, .int .i64 (cntF n)]) (by simp [results, Tryz.results11, go_sem]) rfl ⟨rfl, rfl⟩
theorem cell17 {w : World} {base : Nat} {t : TypeId} {g S n k : Nat} {xs : List Value} (h : w.ownsRow base t 1 (.slice (some ⟨g, 0, none⟩) S S) S xs) (hX : Laid n S xs) (hk : k < S) : w.cell? ⟨g, k, none⟩ = some (tabV n k) := by
  rw [h.cellAt k (by omega)]
  exact hX k hk
/-- A table's first cell, and what comes after keeps the cell. -/
theorem names_units : uF (jF 0 0) = (4607182418800017408, 0) ∧ uF (jF (-1) 2) = (0, 13830554455654793216) ∧ uF (jF 5 2) = (0, 4607182418800017408) ∧ uF (jF 1 3) = (4604544271217802189, 4604544271217802189) ∧ uF (jF 3 3) = (13827916308072577997, 4604544271217802189) ∧ uF (jF 7 3) = (4604544271217802189, 13827916308072577997) ∧ uF (jF (-9223372036854775808) 16) = (4607182418800017408, 0) := by
  refine ⟨?_, ?_, ?_, ?_, ?_, ?_, ?_⟩ <;> decide +kernel
theorem names_tab : tabV 2 3 = .complex .f64 0 13830554455654793216 := by
  rw [tabV_eq, show uF (jF ((3 : Nat) : Int) 2) = (0, 13830554455654793216) by decide +kernel]

set_option maxRecDepth 100000 in
set_option maxHeartbeats 12800000 in
theorem law_names17 (w : World) : Calls Tryz.prog 3 #[] w (RetV w (.bool true)) := by
  have E0 : (Ieee.double.order 0 0 == some .eq) = true := by decide +kernel
  have E1 : (Ieee.double.order 4607182418800017408 4607182418800017408 == some .eq) = true := by decide +kernel
  have E2 : (Ieee.double.order 13830554455654793216 13830554455654793216 == some .eq) = true := by decide +kernel
  have E3 : (Ieee.double.order 4604544271217802189 4604544271217802189 == some .eq) = true := by decide +kernel
  have E4 : (Ieee.double.order 13827916308072577997 13827916308072577997 == some .eq) = true := by decide +kernel
  have E5 : (Ieee.double.order 4604544271217802188 4604544271217802188 == some .eq) = true := by decide +kernel
  have hq1 : ∀ w, (Op.equalIn 9999 22 (.float .f64 0) (.float .f64 0)).run Tryz.prog w = .ok true w := fun _ => by kernel_rfl
  have hq2 : ∀ w, (Op.equalIn 9999 25 (.complex .f64 0 4607182418800017408) (.complex .f64 0 4607182418800017408)).run Tryz.prog w = .ok true w := fun _ => by kernel_rfl
  obtain ⟨U0, U1, U2, U3, U4, U5, U6⟩ := names_units
  have K0 := Mm.nil w
  go_enter Tryz.func3, Tryz.ntmps3
  go_wp2_with fail
  refine (unit_ok 0 0 (by decide) _).mono ?_
  rintro e0 w0 ⟨rfl, hb⟩
  rw [U0]
  have K1 := K0.next hb
  clear K0 hb U0
  go_wp2_with fail
  refine (unit_ok (-1) 2 (by decide) _).mono ?_
  rintro e1 w1 ⟨rfl, hb⟩
  rw [U1]
  have K2 := K1.next hb
  clear K1 hb U1
  go_wp2_with fail
  refine (unit_ok 5 2 (by decide) _).mono ?_
  rintro e2 w2 ⟨rfl, hb⟩
  rw [U2]
  have K3 := K2.next hb
  clear K2 hb U2
  go_wp2_with fail
  refine (unit_ok 1 3 (by decide) _).mono ?_
  rintro e3 w3 ⟨rfl, hb⟩
  rw [U3]
  have K4 := K3.next hb
  clear K3 hb U3
  go_wp2_with fail
  refine (unit_ok 3 3 (by decide) _).mono ?_
  rintro e4 w4 ⟨rfl, hb⟩
  rw [U4]
  have K5 := K4.next hb
  clear K4 hb U4
  go_wp2_with fail
  refine (unit_ok 7 3 (by decide) _).mono ?_
  rintro e5 w5 ⟨rfl, hb⟩
  rw [U5]
  have K6 := K5.next hb
  clear K5 hb U5
  go_wp2_with fail
  refine (unit_ok (-9223372036854775808) 16 (by decide) _).mono ?_
  rintro e6 w6 ⟨rfl, hb⟩
  rw [U6]
  have K7 := K6.next hb
  clear K6 hb U6
  go_wp2_with fail
  refine (disc_quarter _).mono ?_
  rintro e7 w7 ⟨r7, rfl, hr7, hb⟩
  obtain rfl := hr7 (by decide)
  have K8 := (K7.next hb).var (g := w7.heap.size) rfl [.complex .f64 0 4607182418800017408, .float .f64 0] 30
  clear K7 hb hr7
  go_upto_region 11 with (fail)
  generalize w7.alloc _ = v7 at K8 ⊢
  generalize w7.heap.size = g7 at K8 ⊢
  go_wp2_with fail
  refine (disc_eighth _).mono ?_
  rintro e8 w8 ⟨r8, rfl, _, hb⟩
  have K9 := (K8.next hb).var (g := w8.heap.size) rfl [.complex .f64 4604544271217802188 4604544271217802188, .float .f64 r8] 30
  have s8 : g7 < w8.heap.size := ((K8.next hb).blk (g := g7) (vs := [.complex .f64 0 4607182418800017408, .float .f64 0]) (by simp)).1
  clear K8 hb
  go_upto_region 12 with (fail)
  generalize w8.alloc _ = v8 at K9 ⊢
  generalize w8.heap.size = g8 at K9 s8 ⊢
  go_wp2_with fail
  refine (table_ok 0 (by decide) 1 rfl _).mono ?_
  rintro e9 w9 ⟨g9, xs9, rfl, _, _, _, hb⟩
  have K10 := K9.next hb
  clear K9 hb
  go_wp2_with fail
  refine (table_ok 2 (by decide) 4 rfl _).mono ?_
  rintro e10 w10 ⟨g10, xs10, rfl, _, ho, hL, hb⟩
  have K11 := K10.next hb
  have hc := cell17 ho hL (k := 3) (by decide)
  rw [names_tab] at hc
  have hg10 := (ho.lt g10 rfl).2
  clear K10 hb ho hL
  go_wp2_with fail
  refine (table_no17 17 (by decide) _).mono ?_
  rintro e11 w11 ⟨rfl, rfl⟩
  rw [show cntF 17 = 4 from rfl]
  go_wp2_with fail
  refine (disc_no 0 (-1) (by decide) _).mono ?_
  rintro e12 w12 ⟨rfl, hb⟩
  rw [show cntF (-1) = 1 from rfl]
  replace hc := ((bcell hb).1 g10 3 hg10).trans hc
  have K12 := K11.next hb
  clear K11
  have K13 := K12.var (g := w12.heap.size) rfl [.complex .f64 0 0, .float .f64 0] 30
  have hg12 : g10 < w12.heap.size := Nat.lt_of_lt_of_le hg10 hb.size
  have n1 : ¬ g10 = w12.heap.size := by omega
  go_upto_region 16 with (fail)
  replace hc : (w12.alloc (.cells #[.complex .f64 0 0, .float .f64 0] 30)).cell? ⟨g10, 3, none⟩ = some (.complex .f64 0 13830554455654793216) := by rw [World.cell?_alloc_lt w12 (a := ⟨g10, 3, none⟩) (h := hg12)]; exact hc
  generalize w12.alloc _ = w13 at K13 hc ⊢
  clear K12 hg12 hg10
  obtain ⟨a1, a2, a3, a4, a5⟩ := (K13.blk (g := g7) (vs := [.complex .f64 0 4607182418800017408, .float .f64 0]) (by simp)).two
  obtain ⟨b1, b2, b3, b4, b5⟩ := (K13.blk (g := g8) (vs := [.complex .f64 4604544271217802188 4604544271217802188, .float .f64 r8]) (by simp)).two
  go_upto_region 18 with (fail)
  go_wp2_with fail
  refine (lives17 _).mono ?_
  rintro e14 w14 ⟨rfl, hb14⟩
  go_wp2_with fail
  go_ret
  exact ⟨rfl, (K13.next hb14).1⟩
end Go.Proofs.YtdmdaoginojalaaGreatDoor
