/-
  Floats: math.Min, math.Max of floats from nought on.
-/
import Derived.Test.YtjcknikgfcjhhaaSpnU
namespace Go.Proofs.Ytjcknikgfcjhhaa
open Go.RowKit

def loF (x y : Nat) : Nat := if Ieee.double.order x y == some .lt then x else y
def upF (x y : Nat) : Nat := if Ieee.double.order x y == some .gt then x else y
theorem zero_sv {x m p : Nat} (e : Ieee.double.read x = .number (Flt.sgn x) m ((p : Int) - 1074)) (v : m * 2 ^ p = Flt.val (Flt.rg x)) (z : (Ieee.double.read x).isZero = true) : Flt.sv x = 0 := by
  rw [e] at z
  have hm : m = 0 := by
    cases m with
    | zero => rfl
    | succ k => exact absurd z (by simp [Ieee.Datum.isZero])
  rw [hm, Nat.zero_mul] at v
  have := Flt.le_val (Flt.rg x)
  exact Flt.sv_zero_iff.2 (by omega)
theorem pick_min {x y : Nat} (fx : Flt.Fin x) (fy : Flt.Fin y) (sx : Flt.sgn x = false) (nm : String) :
    Extern.MathDim.pick nm true .lt #[.float .f64 x, .float .f64 y] = pure (.float .f64 (loF x y)) := by
  obtain ⟨m, p, e1, v1⟩ := Flt.read_fin fx
  obtain ⟨n, q, e2, v2⟩ := Flt.read_fin fy
  have ho : Ieee.double.order x y = (Ieee.double.read x).order (Ieee.double.read y) := rfl
  have e : Extern.MathDim.pick nm true .lt #[.float .f64 x, .float .f64 y] = pure (.float .f64 (
      if Ieee.double.read x == .infinity true || Ieee.double.read y == .infinity true then FloatKind.f64.encode (.infinity true)
      else if (Ieee.double.read x).isNaN || (Ieee.double.read y).isNaN then 0x7FF8000000000001
      else if (Ieee.double.read x).isZero && (Ieee.double.read y).isZero then (if (Ieee.double.read x).neg == true then x else y)
      else if (Ieee.double.read x).order (Ieee.double.read y) == some .lt then x else y)) := rfl
  rw [e]
  congr 2
  unfold loF
  rw [ho]
  have i1 : (Ieee.double.read x == .infinity true) = false := by rw [e1]; rfl
  have i2 : (Ieee.double.read y == .infinity true) = false := by rw [e2]; rfl
  have i3 : (Ieee.double.read x).isNaN = false := by rw [e1]; rfl
  have i4 : (Ieee.double.read y).isNaN = false := by rw [e2]; rfl
  have i5 : (Ieee.double.read x).neg = false := by rw [e1, sx]; rfl
  rw [i1, i2, i3, i4, i5]
  simp only [Bool.or_self, Bool.false_eq_true, if_false]
  split
  · rename_i hz
    have : ((Ieee.double.read x).order (Ieee.double.read y) == some .lt) = false := by
      obtain ⟨z1, z2⟩ := Bool.and_eq_true_iff.1 hz
      rw [← ho, Flt.lt_spec (fun k => Flt.not_fin_nan k fx) (fun k => Flt.not_fin_nan k fy), zero_sv e1 v1 z1, zero_sv e2 v2 z2]
      exact decide_eq_false (by omega)
    rw [this]
    rfl
  · rfl
theorem pick_max {x y : Nat} (hx : x < 2 ^ 64) (hy : y < 2 ^ 64) (fx : Flt.Fin x) (fy : Flt.Fin y) (sx : Flt.sgn x = false) (sy : Flt.sgn y = false) (nm : String) :
    Extern.MathDim.pick nm false .gt #[.float .f64 x, .float .f64 y] = pure (.float .f64 (upF x y)) := by
  obtain ⟨m, p, e1, v1⟩ := Flt.read_fin fx
  obtain ⟨n, q, e2, v2⟩ := Flt.read_fin fy
  have ho : Ieee.double.order x y = (Ieee.double.read x).order (Ieee.double.read y) := rfl
  have e : Extern.MathDim.pick nm false .gt #[.float .f64 x, .float .f64 y] = pure (.float .f64 (
      if Ieee.double.read x == .infinity false || Ieee.double.read y == .infinity false then FloatKind.f64.encode (.infinity false)
      else if (Ieee.double.read x).isNaN || (Ieee.double.read y).isNaN then 0x7FF8000000000001
      else if (Ieee.double.read x).isZero && (Ieee.double.read y).isZero then (if (Ieee.double.read x).neg == false then x else y)
      else if (Ieee.double.read x).order (Ieee.double.read y) == some .gt then x else y)) := rfl
  rw [e]
  congr 2
  unfold upF
  rw [ho]
  have i1 : (Ieee.double.read x == .infinity false) = false := by rw [e1]; rfl
  have i2 : (Ieee.double.read y == .infinity false) = false := by rw [e2]; rfl
  have i3 : (Ieee.double.read x).isNaN = false := by rw [e1]; rfl
  have i4 : (Ieee.double.read y).isNaN = false := by rw [e2]; rfl
  have i5 : (Ieee.double.read x).neg = false := by rw [e1, sx]; rfl
  rw [i1, i2, i3, i4, i5]
  simp only [Bool.or_self, Bool.false_eq_true, if_false]
  split
  · rename_i hz
    have : ((Ieee.double.read x).order (Ieee.double.read y) == some .gt) = false := by
      obtain ⟨z1, z2⟩ := Bool.and_eq_true_iff.1 hz
      rw [← ho, Flt.gt_spec (fun k => Flt.not_fin_nan k fx) (fun k => Flt.not_fin_nan k fy), zero_sv e1 v1 z1, zero_sv e2 v2 z2]
      exact decide_eq_false (by omega)
    rw [this]
    obtain ⟨z1, z2⟩ := Bool.and_eq_true_iff.1 hz
    have r1 := Flt.sv_zero_iff.1 (zero_sv e1 v1 z1)
    have r2 := Flt.sv_zero_iff.1 (zero_sv e2 v2 z2)
    have w1 := Flt.word_eq x hx
    have w2 := Flt.word_eq y hy
    rw [sx, r1] at w1
    rw [sy, r2] at w2
    rw [← w1, ← w2]
    rfl
  · rfl

set_option maxRecDepth 100000 in
theorem min_of (x y : Nat) (fx : Flt.Fin x) (fy : Flt.Fin y) (sx : Flt.sgn x = false) (w : World) :
    Calls Try.prog 26 #[.float .f64 x, .float .f64 y] w fun e w' => e = .returned (.float .f64 (loF x y)) ∧ w = w' := by
  have hrun : (callFunc 52 #[.float .f64 x, .float .f64 y]).run Try.prog w = .ok (.value (.float .f64 (loF x y))) w := by
    rw [run_callFunc_extern Try.func52 (by kernel_rfl) (by kernel_rfl) (by kernel_rfl) (e := Extern.MathDim.pick "math.archMin" true .lt) (by kernel_rfl), pick_min fx fy sx]
    simp
  clear fx fy sx
  go_enter Try.func26, Try.ntmps26
  go_wp2
  go_ret
  exact ⟨rfl, rfl⟩
set_option maxRecDepth 100000 in
theorem max_of (x y : Nat) (hx : x < 2 ^ 64) (hy : y < 2 ^ 64) (fx : Flt.Fin x) (fy : Flt.Fin y) (sx : Flt.sgn x = false) (sy : Flt.sgn y = false) (w : World) :
    Calls Try.prog 28 #[.float .f64 x, .float .f64 y] w fun e w' => e = .returned (.float .f64 (upF x y)) ∧ w = w' := by
  have hrun : (callFunc 56 #[.float .f64 x, .float .f64 y]).run Try.prog w = .ok (.value (.float .f64 (upF x y))) w := by
    rw [run_callFunc_extern Try.func56 (by kernel_rfl) (by kernel_rfl) (by kernel_rfl) (e := Extern.MathDim.pick "math.archMax" false .gt) (by kernel_rfl), pick_max hx hy fx fy sx sy]
    simp
  clear fx fy sx sy
  go_enter Try.func28, Try.ntmps28
  go_wp2
  go_ret
  exact ⟨rfl, rfl⟩
end Go.Proofs.Ytjcknikgfcjhhaa
