/-
  Spans: the chapter's examples (polestarlaw05.lives).
-/
import Derived.Test.YtejlicacndpfpaaDoorSpnL
namespace Go.Proofs.YtejlicacndpfpaaDoor
open Go.RowKit

set_option maxRecDepth 100000 in
set_option maxHeartbeats 1600000 in
theorem lives05 (w : World) : Calls Tryd.prog 13 #[] w (RetV w (.bool true)) := by
  have HI1 : Hid (inB 4607182418800017408 4611686018427387904 4607182418800017408 4611686018427387904 = true) := Lib.hid (by decide +kernel)
  have HI2 : Hid (inB 4621819117588971520 4626322717216342016 4607182418800017408 4611686018427387904 = false) := Lib.hid (by decide +kernel)
  go_enter Tryd.func13, Tryd.ntmps13
  go_wp2_with fail
  refine (span_add_any _ _ _ _ (by decide) (by decide) (by decide) (by decide) _).mono ?_
  rintro e1 w1 ⟨p1, h1, rfl, hb1⟩
  have := add_lives h1
  subst this
  clear h1
  have k0 : w1.cell? ⟨w.heap.size, 0, none⟩ = some (.float .f64 4607182418800017408) := by rw [(bcell hb1).1 w.heap.size 0 (by simp <;> omega)]; simp [go_sem]
  have k1 : w1.cell? ⟨w.heap.size, 1, none⟩ = some (.float .f64 4611686018427387904) := by rw [(bcell hb1).1 w.heap.size 1 (by simp <;> omega)]; simp [go_sem]
  have k2 : w1.cell? ⟨w.heap.size + 1, 0, none⟩ = some (.float .f64 4621819117588971520) := by rw [(bcell hb1).1 (w.heap.size + 1) 0 (by simp <;> omega)]; simp [go_sem]
  have k3 : w1.cell? ⟨w.heap.size + 1, 1, none⟩ = some (.float .f64 4626322717216342016) := by rw [(bcell hb1).1 (w.heap.size + 1) 1 (by simp <;> omega)]; simp [go_sem]
  have sz1 : w.heap.size + 1 < w1.heap.size := by have := hb1.size; simp at this; omega
  have hbw1 := below_box (below_box hb1)
  clear hb1
  go_wp2_with fail
  refine (span_mul_any _ _ _ _ (by decide) (by decide) (by decide) (by decide) _).mono ?_
  rintro e2 w2 ⟨p2, h2, rfl, hb2⟩
  have := mul_lives h2
  subst this
  clear h2
  have j0 : w2.cell? ⟨w.heap.size, 0, none⟩ = some (.float .f64 4607182418800017408) := by rw [(bcell hb2).1 w.heap.size 0 (by simp <;> omega)]; simp [go_sem, k0, show w.heap.size < w1.heap.size by omega]
  have j1 : w2.cell? ⟨w.heap.size, 1, none⟩ = some (.float .f64 4611686018427387904) := by rw [(bcell hb2).1 w.heap.size 1 (by simp <;> omega)]; simp [go_sem, k1, show w.heap.size < w1.heap.size by omega]
  have j2 : w2.cell? ⟨w.heap.size + 1, 0, none⟩ = some (.float .f64 4621819117588971520) := by rw [(bcell hb2).1 (w.heap.size + 1) 0 (by simp <;> omega)]; simp [go_sem, k2, sz1]
  have j3 : w2.cell? ⟨w.heap.size + 1, 1, none⟩ = some (.float .f64 4626322717216342016) := by rw [(bcell hb2).1 (w.heap.size + 1) 1 (by simp <;> omega)]; simp [go_sem, k3, sz1]
  have j4 : w2.cell? ⟨w1.heap.size, 0, none⟩ = some (.float .f64 4622382067542392832) := by rw [(bcell hb2).1 w1.heap.size 0 (by simp <;> omega)]; simp [go_sem]
  have j5 : w2.cell? ⟨w1.heap.size, 1, none⟩ = some (.float .f64 4626885667169763328) := by rw [(bcell hb2).1 w1.heap.size 1 (by simp <;> omega)]; simp [go_sem]
  have sz2 : w1.heap.size < w2.heap.size := by have := hb2.size; simp at this; omega
  have hbw2 : Below w.heap.size w w2 := below_next hbw1 (below_box hb2)
  clear hb2 k0 k1 k2 k3
  have y1 : w.heap.size < w2.heap.size := by omega
  have y2 : w.heap.size + 1 < w2.heap.size := by omega
  go_wp2_with fail
  refine (span_quo_any _ _ _ _ (by decide) (by decide) (by decide) (by decide) _).mono ?_
  rintro e3 w3 ⟨p3, h3, rfl, hb3⟩
  have := quo_lives h3
  subst this
  clear h3
  have i0 : w3.cell? ⟨w.heap.size, 0, none⟩ = some (.float .f64 4607182418800017408) := by rw [(bcell hb3).1 w.heap.size 0 (by simp <;> omega)]; simp [go_sem, j0, y1]
  have i1 : w3.cell? ⟨w.heap.size, 1, none⟩ = some (.float .f64 4611686018427387904) := by rw [(bcell hb3).1 w.heap.size 1 (by simp <;> omega)]; simp [go_sem, j1, y1]
  have i2 : w3.cell? ⟨w.heap.size + 1, 0, none⟩ = some (.float .f64 4621819117588971520) := by rw [(bcell hb3).1 (w.heap.size + 1) 0 (by simp <;> omega)]; simp [go_sem, j2, y2]
  have i3 : w3.cell? ⟨w.heap.size + 1, 1, none⟩ = some (.float .f64 4626322717216342016) := by rw [(bcell hb3).1 (w.heap.size + 1) 1 (by simp <;> omega)]; simp [go_sem, j3, y2]
  have i4 : w3.cell? ⟨w1.heap.size, 0, none⟩ = some (.float .f64 4622382067542392832) := by rw [(bcell hb3).1 w1.heap.size 0 (by simp <;> omega)]; simp [go_sem, j4, sz2]
  have i5 : w3.cell? ⟨w1.heap.size, 1, none⟩ = some (.float .f64 4626885667169763328) := by rw [(bcell hb3).1 w1.heap.size 1 (by simp <;> omega)]; simp [go_sem, j5, sz2]
  have i6 : w3.cell? ⟨w2.heap.size, 0, none⟩ = some (.float .f64 13841813454723219456) := by rw [(bcell hb3).1 w2.heap.size 0 (by simp <;> omega)]; simp [go_sem]
  have i7 : w3.cell? ⟨w2.heap.size, 1, none⟩ = some (.float .f64 4620693217682128896) := by rw [(bcell hb3).1 w2.heap.size 1 (by simp <;> omega)]; simp [go_sem]
  have sz3 : w2.heap.size < w3.heap.size := by have := hb3.size; simp at this; omega
  have hbw3 : Below w.heap.size w w3 := below_next hbw2 (below_box hb3)
  clear hb3 j0 j1 j2 j3 j4 j5
  have x1 : w.heap.size < w3.heap.size := by omega
  have x2 : w.heap.size + 1 < w3.heap.size := by omega
  have x3 : w1.heap.size < w3.heap.size := by omega
  have E1 : (Ieee.double.order 4622382067542392832 4622382067542392832 == some .eq) = true := by decide +kernel
  have E2 : (Ieee.double.order 4626885667169763328 4626885667169763328 == some .eq) = true := by decide +kernel
  have E3 : (Ieee.double.order 13841813454723219456 13841813454723219456 == some .eq) = true := by decide +kernel
  have E4 : (Ieee.double.order 4620693217682128896 4620693217682128896 == some .eq) = true := by decide +kernel
  go_wp2_with fail
  refine (span_in_any _ _ _ _ (by decide) (by decide) (by decide) (by decide) _).mono ?_
  rintro e4 w4 ⟨rfl, hb4⟩
  rw [HI1.out]
  have j0 : w4.cell? ⟨w.heap.size, 0, none⟩ = some (.float .f64 4607182418800017408) := by rw [(bcell hb4).1 w.heap.size 0 (by simp <;> omega)]; simp [go_sem, i0, x1]
  have j1 : w4.cell? ⟨w.heap.size, 1, none⟩ = some (.float .f64 4611686018427387904) := by rw [(bcell hb4).1 w.heap.size 1 (by simp <;> omega)]; simp [go_sem, i1, x1]
  have j2 : w4.cell? ⟨w.heap.size + 1, 0, none⟩ = some (.float .f64 4621819117588971520) := by rw [(bcell hb4).1 (w.heap.size + 1) 0 (by simp <;> omega)]; simp [go_sem, i2, x2]
  have j3 : w4.cell? ⟨w.heap.size + 1, 1, none⟩ = some (.float .f64 4626322717216342016) := by rw [(bcell hb4).1 (w.heap.size + 1) 1 (by simp <;> omega)]; simp [go_sem, i3, x2]
  have hbw4 : Below w.heap.size w w4 := below_next hbw3 (below_box hb4)
  clear hb4 i0 i1 i2 i3 i4 i5 i6 i7
  go_wp2_with fail
  refine (span_in_any _ _ _ _ (by decide) (by decide) (by decide) (by decide) _).mono ?_
  rintro e5 w5 ⟨rfl, hb5⟩
  rw [HI2.out]
  go_wp2_with fail
  go_ret
  exact ⟨rfl, below_next hbw4 hb5⟩
end Go.Proofs.YtejlicacndpfpaaDoor
