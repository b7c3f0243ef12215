/-
  Laws that the walks of this seat share: float operations, whose result may be no number of unknown bits; body-less functions of package math.
-/
import Derived.Test.YthddodhcpfponaaFltD
import Derived.Test.YthddodhcpfponaaLimb
import Derived.Test.YthddodhcpfponaaChecked
import Derived.WalkKit
import Derived.WalkSpells
import Derived.WalkLawsBesides
import Derived.Deep.QuietTactic
import Derived.BigQuiet
import Derived.Lib.Hide
namespace Go.Proofs.Ythddodhcpfponaa
open Go.RowKit

/-! ### a float operation -/
section
variable {P : Program} (w : World)

/-- What an operation on floats may give. -/
def IsOp (f : Nat → Nat → Option Nat) (x y z : Nat) : Prop := z < 2 ^ 64 ∧ (match f x y with | some r => z = r | none => Flt.Nan z)

theorem nan_cut (x y t : Nat) : Flt.Nan ((Question.nanBits .f64 x y).cut t) ∧ (Question.nanBits .f64 x y).cut t < 2 ^ 64 := by
  unfold Question.cut Flt.Nan Flt.rg
  simp only
  have h1 := Flt.inf_eq
  rw [h1]
  have h2 : t / 2 % (2 ^ 52 - 1) < 2 ^ 52 - 1 := Nat.mod_lt _ (by decide)
  have h3 : t % 2 < 2 := Nat.mod_lt _ (by decide)
  generalize t / 2 % (2 ^ 52 - 1) = a at *
  generalize t % 2 = b at *
  have : b = 0 ∨ b = 1 := by omega
  rcases this with rfl | rfl <;> omega

theorem run_fop (op : BinOp) (f : Nat → Nat → Option Nat) (hf : (op = .add ∧ f = Ieee.double.add) ∨ (op = .sub ∧ f = Ieee.double.sub) ∨ (op = .mul ∧ f = Ieee.double.mul) ∨ (op = .quo ∧ f = Ieee.double.div))
    (t : TypeId) (x y : Nat) : ∃ z n, (binOp op t (.float .f64 x) (.float .f64 y)).run P w = .ok (.float .f64 z) (w.drewN n) ∧ IsOp f x y z := by
  cases h : f x y with
  | some r =>
    have hb : floatBits op .f64 x y = some r := by rcases hf with ⟨rfl, rfl⟩ | ⟨rfl, rfl⟩ | ⟨rfl, rfl⟩ | ⟨rfl, rfl⟩ <;> exact h
    refine ⟨r, 0, ?_, ?_⟩
    · rw [World.drewN_zero]; exact run_float_arith w op t .f64 x y r hb
    · refine ⟨?_, by rw [h]⟩
      rcases hf with ⟨rfl, rfl⟩ | ⟨rfl, rfl⟩ | ⟨rfl, rfl⟩ | ⟨rfl, rfl⟩
      · exact Ieee.Format.add_lt _ h
      · exact Ieee.Format.sub_lt _ h
      · exact Ieee.Format.mul_lt _ h
      · exact Ieee.Format.div_lt _ h
  | none =>
    refine ⟨(Question.nanBits .f64 x y).cut (w.tape w.drawn (Question.nanBits .f64 x y)), 1, ?_, ?_⟩
    · have e : (Question.nanBits .f64 x y).forced = false := rfl
      rcases hf with ⟨rfl, rfl⟩ | ⟨rfl, rfl⟩ | ⟨rfl, rfl⟩ | ⟨rfl, rfl⟩ <;> simp [binOp, Op.floatArith, FloatKind.format, h, e] <;> rfl
    · exact ⟨(nan_cut x y _).2, by rw [h]; exact (nan_cut x y _).1⟩

theorem wpList_fop (op : BinOp) (f : Nat → Nat → Option Nat) (hf : (op = .add ∧ f = Ieee.double.add) ∨ (op = .sub ∧ f = Ieee.double.sub) ∨ (op = .mul ∧ f = Ieee.double.mul) ∨ (op = .quo ∧ f = Ieee.double.div))
    {ops : Array Oper} {rest : List Oper} {d : Option Tmp} {t u ty : TypeId} {pos : String} {after : Array Edge} {a : Act} {Q : Exit → Act → World → Prop} {l r : Operand} {x y : Nat}
    (hl : a.eval l = .float .f64 x) (hr : a.eval r = .float .f64 y)
    (hK : ∀ z n, IsOp f x y z → wpList P ops Q rest (a.put d (.float .f64 z)) (w.drewN n)) :
    wpList P ops Q (⟨d, .binOp op t l r u, ty, pos, after, none⟩ :: rest) a w := by
  refine wpList_plain rfl fun K hK' => ?_
  obtain ⟨z, n, hrun, hz⟩ := run_fop (P := P) w op f hf t x y
  have hg : eqGuard op t l r (.float .f64 x) (.float .f64 y) = pure () := by rcases hf with ⟨rfl, _⟩ | ⟨rfl, _⟩ | ⟨rfl, _⟩ | ⟨rfl, _⟩ <;> rfl
  unfold Oper.wp
  simp [execOp, hl, hr, hg, hrun, Result.andThen]
  exact hK' _ _ (hK z n hz)
end

theorem wpList_fadd {P : Program} (w : World) {ops : Array Oper} {rest : List Oper} {d : Option Tmp} {t u ty : TypeId} {pos : String} {after : Array Edge} {a : Act} {Q : Exit → Act → World → Prop} {l r : Operand} {x y : Nat}
    (hl : a.eval l = .float .f64 x) (hr : a.eval r = .float .f64 y)
    (hK : ∀ z n, IsOp Ieee.double.add x y z → wpList P ops Q rest (a.put d (.float .f64 z)) (w.drewN n)) :
    wpList P ops Q (⟨d, .binOp .add t l r u, ty, pos, after, none⟩ :: rest) a w := wpList_fop w .add _ (.inl ⟨rfl, rfl⟩) hl hr hK
theorem wpList_fsub {P : Program} (w : World) {ops : Array Oper} {rest : List Oper} {d : Option Tmp} {t u ty : TypeId} {pos : String} {after : Array Edge} {a : Act} {Q : Exit → Act → World → Prop} {l r : Operand} {x y : Nat}
    (hl : a.eval l = .float .f64 x) (hr : a.eval r = .float .f64 y)
    (hK : ∀ z n, IsOp Ieee.double.sub x y z → wpList P ops Q rest (a.put d (.float .f64 z)) (w.drewN n)) :
    wpList P ops Q (⟨d, .binOp .sub t l r u, ty, pos, after, none⟩ :: rest) a w := wpList_fop w .sub _ (.inr (.inl ⟨rfl, rfl⟩)) hl hr hK
theorem wpList_fmul {P : Program} (w : World) {ops : Array Oper} {rest : List Oper} {d : Option Tmp} {t u ty : TypeId} {pos : String} {after : Array Edge} {a : Act} {Q : Exit → Act → World → Prop} {l r : Operand} {x y : Nat}
    (hl : a.eval l = .float .f64 x) (hr : a.eval r = .float .f64 y)
    (hK : ∀ z n, IsOp Ieee.double.mul x y z → wpList P ops Q rest (a.put d (.float .f64 z)) (w.drewN n)) :
    wpList P ops Q (⟨d, .binOp .mul t l r u, ty, pos, after, none⟩ :: rest) a w := wpList_fop w .mul _ (.inr (.inr (.inl ⟨rfl, rfl⟩))) hl hr hK
theorem wpList_fquo {P : Program} (w : World) {ops : Array Oper} {rest : List Oper} {d : Option Tmp} {t u ty : TypeId} {pos : String} {after : Array Edge} {a : Act} {Q : Exit → Act → World → Prop} {l r : Operand} {x y : Nat}
    (hl : a.eval l = .float .f64 x) (hr : a.eval r = .float .f64 y)
    (hK : ∀ z n, IsOp Ieee.double.div x y z → wpList P ops Q rest (a.put d (.float .f64 z)) (w.drewN n)) :
    wpList P ops Q (⟨d, .binOp .quo t l r u, ty, pos, after, none⟩ :: rest) a w := wpList_fop w .quo _ (.inr (.inr (.inr ⟨rfl, rfl⟩))) hl hr hK

/-! ### body-less functions -/
theorem float64bits_run (x : Nat) (w : World) : (callFunc 63 #[.float .f64 x]).run Try.prog w = .ok (.value (.int .u64 x)) w := by
  rw [run_callFunc_extern Try.func63 (by kernel_rfl) (by kernel_rfl) (by kernel_rfl) (e := Extern.MathFloatBits.float64bits) (by kernel_rfl)]; rfl
theorem float64frombits_run (n : Int) (w : World) : (callFunc 65 #[.int .u64 n]).run Try.prog w = .ok (.value (.float .f64 n.toNat)) w := by
  rw [run_callFunc_extern Try.func65 (by kernel_rfl) (by kernel_rfl) (by kernel_rfl) (e := Extern.MathFloatBits.float64frombits) (by kernel_rfl)]; rfl
attribute [go_sem] float64bits_run
attribute [go_sem] float64frombits_run

theorem f64_format : FloatKind.f64.format = Ieee.double := rfl
attribute [go_sem] f64_format

theorem isNaN_any (x : Nat) (w : World) : Calls Try.prog 64 #[.float .f64 x] w fun e w' => e = .returned (.bool (Flt.nanB x)) ∧ w = w' := by
  go_enter Try.func64, Try.ntmps64
  go_wp2
  go_ret
  exact ⟨by rw [← Flt.order_self]; rfl, rfl⟩

/-- The opposite of a float, as the model reckons it. -/
def neg64 (b : Nat) : Nat := b ^^^ 2 ^ 63
theorem neg64_eq (b : Nat) (h : b < 2 ^ 64) : neg64 b = Flt.opp b := Flt.opp_xor b h
theorem unary_negf (b : Nat) : Op.unary .neg (.float .f64 b) = pure (.float .f64 (neg64 b)) := rfl
attribute [go_sem] unary_negf

theorem andNot_sign (x : Nat) (h : x < 2 ^ 64) : (bits .andNot .u64 (x : Int) 9223372036854775808).toNat = Flt.rg x := by
  have := u64_andNot_nat x 9223372036854775808 (by omega) (by omega)
  rw [show ((9223372036854775808 : Nat) : Int) = 9223372036854775808 from rfl] at this
  rw [this]
  exact Nat.and_two_pow_sub_one_eq_mod x 63

theorem abs_any (x : Nat) (h : x < 2 ^ 64) (w : World) : Calls Try.prog 36 #[.float .f64 x] w fun e w' => e = .returned (.float .f64 (Flt.rg x)) ∧ w = w' := by
  go_enter Try.func36, Try.ntmps36
  go_wp2
  go_ret
  exact ⟨by rw [← andNot_sign x h]; rfl, rfl⟩

theorem isInf0_any (x : Nat) (h : x < 2 ^ 64) (w : World) : Calls Try.prog 66 #[.float .f64 x, .int .i64 0] w fun e w' => e = .returned (.bool (Flt.infB x)) ∧ w = w' := by
  go_enter Try.func66, Try.ntmps66
  go_wp2_with (go_at_call 36; refine (abs_any _ h _).mono ?_; rintro e w' ⟨rfl, rfl⟩)
  go_ret
  refine ⟨?_, rfl⟩
  have e1 := Flt.order_max (Flt.rg x)
  rw [Flt.sgn_rg] at e1
  unfold Flt.infB at e1 ⊢
  rw [Flt.rg_abs] at e1
  simp at e1 ⊢
  exact e1
end Go.Proofs.Ythddodhcpfponaa
