/-
  Roots, rounded down and up (round.Sqrt): the walks.
-/
import Derived.Test.YtejlicacndpfpaaRoot
namespace Go.Proofs.Ytejlicacndpfpaa
open Go.RowKit

theorem sqrt_eq (x : Nat) : Extern.MathSqrt.sqrt #[.float .f64 x] = (match Ieee.double.sqrt x with | some r => pure (.float .f64 r) | none => do pure (.float .f64 (← choose (.nanBits .f64 x x)))) := rfl
theorem sqrt_run (x : Nat) (w : World) : ∃ z n, (callFunc 178 #[.float .f64 x]).run Try.prog w = .ok (.value (.float .f64 z)) (w.drewN n) ∧ IsSq x z := by
  rw [run_callFunc_extern Try.func178 (by kernel_rfl) (by kernel_rfl) (by kernel_rfl) (e := Extern.MathSqrt.sqrt) (by kernel_rfl), sqrt_eq]
  cases h : Ieee.double.sqrt x with
  | some r => exact ⟨r, 0, by rw [World.drewN_zero]; simp, Ieee.Format.sqrt_lt _ h, by rw [h]⟩
  | none =>
    refine ⟨(Question.nanBits .f64 x x).cut (w.tape w.drawn (Question.nanBits .f64 x x)), 1, ?_, ?_⟩
    · have e : (Question.nanBits .f64 x x).forced = false := rfl
      simp [e]
      rfl
    · exact ⟨(nan_cut x x _).2, by rw [h]; exact (nan_cut x x _).1⟩

def RetSq (w : World) (x : Nat) (e : Ending) (w' : World) : Prop := ∃ z d, e = .returned (.float .f64 z) ∧ IsSq x z ∧ w.drewN d = w'
theorem sqrt_any (x : Nat) (w : World) : Calls Try.prog 169 #[.float .f64 x] w (RetSq w x) := by
  obtain ⟨z, n, hrun, hz⟩ := sqrt_run x w
  have HZ := Lib.hid hz
  clear hz
  go_enter Try.func169, Try.ntmps169
  go_wp2
  go_ret
  exact ⟨z, n, rfl, HZ.out, rfl⟩

end Go.Proofs.Ytejlicacndpfpaa
