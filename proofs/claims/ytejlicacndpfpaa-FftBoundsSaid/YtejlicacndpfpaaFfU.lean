/-
  What is done with two elements (in fft.transform).
-/
import Derived.Test.YtejlicacndpfpaaFfT
import Derived.Test.YtejlicacndpfpaaStk1
import Derived.Test.YtejlicacndpfpaaTurA
namespace Go.Proofs.Ytejlicacndpfpaa
open Go.RowKit

def StepR (u a b r1 r2 : Nat × Nat) : Prop := ∃ t1 t2, MulR u b t1 t2 ∧ AddR a (t1, t2) r1.1 r1.2 ∧ SubR a (t1, t2) r2.1 r2.2
set_option maxRecDepth 100000 in
set_option maxHeartbeats 3200000 in
theorem step_any (part way : Int) (round : Nat) (hr : round ≤ 16) (gw G i j a1 a2 b1 b2 : Nat) (w : World) (hw : w.cell? ⟨gw, 0, none⟩ = some (.int .i64 way)) (ha : w.cell? ⟨G, i, none⟩ = some (.complex .f64 a1 a2)) (hb : w.cell? ⟨G, j, none⟩ = some (.complex .f64 b1 b2))
    (fa : w.frozen? ⟨G, i, none⟩ = false) (fb : w.frozen? ⟨G, j, none⟩ = false) (hij : i ≠ j) (hG : G < w.heap.size) :
    Calls Try.prog 123 #[.int .i64 part, .int .i64 (round : Int), .pointer (some ⟨G, i, none⟩), .pointer (some ⟨G, j, none⟩), .pointer (some ⟨gw, 0, none⟩)] w fun e w' => e = .returned (.bool true) ∧
      ∃ r1 r2 w1, StepR (uF (jF (wrap64 (way * part)) round)) (a1, a2) (b1, b2) r1 r2 ∧ Below w.heap.size w w1 ∧ w' = (w1.setCell ⟨G, i, none⟩ (.complex .f64 r1.1 r1.2)).setCell ⟨G, j, none⟩ (.complex .f64 r2.1 r2.2) := by
  have hij2 : ¬ i = j := hij
  have hij3 : ¬ j = i := fun e => hij e.symm
  go_enter Try.func123, Try.ntmps123
  go_wp2_with fail
  refine (unit_ok _ round hr _).mono ?_
  rintro e1 w1 ⟨rfl, hb1⟩
  have ha1 := ((bcell hb1).1 _ _ hG).trans ha
  have hb2 := ((bcell hb1).1 _ _ hG).trans hb
  have fa1 := ((bcell hb1).2 _ _ hG).trans fa
  have fb1 := ((bcell hb1).2 _ _ hG).trans fb
  have hG1 : G < w1.heap.size := Nat.lt_of_lt_of_le hG hb1.size
  have HB1 := Lib.hid hb1
  clear hw ha hb fa fb hb1
  obtain ⟨⟨u1, u2⟩, hu⟩ : ∃ u, uF (jF (wrap64 (way * part)) round) = u := ⟨_, rfl⟩
  rw [hu]
  have HU := Lib.hid hu
  clear hu
  go_wp2_with fail
  refine (cmul_any u1 u2 b1 b2 _).mono ?_
  rintro e2 w2 ⟨t1, t2, rfl, hm, k2, rfl⟩
  have HM := Lib.hid hm
  clear hm
  have ha2 : (w1.drewN k2).cell? ⟨G, i, none⟩ = some (.complex .f64 a1 a2) := ha1
  have hb3 : (w1.drewN k2).cell? ⟨G, j, none⟩ = some (.complex .f64 b1 b2) := hb2
  have fa2 : (w1.drewN k2).frozen? ⟨G, i, none⟩ = false := fa1
  have fb2 : (w1.drewN k2).frozen? ⟨G, j, none⟩ = false := fb1
  have HB2 : Hid (Below w.heap.size w (w1.drewN k2)) := Lib.hid (below_drewN HB1.out _)
  have hG2 : G < (w1.drewN k2).heap.size := hG1
  clear ha1 hb2 fa1 fb1 HB1 hG1
  generalize w1.drewN k2 = w3 at ha2 hb3 fa2 fb2 HB2 hG2 ⊢
  go_wp2_with fail
  go_region_with (first
    | (go_at_call 126; (with_reducible refine (cplx_add_any a1 a2 t1 t2 _).mono ?_); rintro e4 w4 ⟨r1, r2, rfl, hadd, k4, rfl⟩; have HA := Lib.hid hadd; clear hadd)
    | (go_at_call 127; (with_reducible refine (cplx_sub_any a1 a2 t1 t2 _).mono ?_); rintro e5 w5 ⟨s1, s2, rfl, hsub, k5, rfl⟩; have HS := Lib.hid hsub; clear hsub)
    | fail)
  all_goals go_wp2_with fail
  all_goals go_ret
  all_goals (first
    | exact ⟨rfl, (r1, r2), (s1, s2), _, ⟨t1, t2, (by rw [HU.out]; exact HM.out), HA.out, HS.out⟩, below_drewN HB2.out _, rfl⟩)
end Go.Proofs.Ytejlicacndpfpaa
