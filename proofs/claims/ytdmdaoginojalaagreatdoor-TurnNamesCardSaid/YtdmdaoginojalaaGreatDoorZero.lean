/-
  Limbs, plainly; laws that all walks share; words for memory.
-/
import Derived.Test.YtdmdaoginojalaaGreatDoorFlt
import Derived.Test.YtdmdaoginojalaaGreatDoorChecked
import Derived.WalkKit
import Derived.WalkSpells
import Derived.WalkLawsBesides
import Derived.Deep.QuietTactic
import Derived.BigQuiet
import Derived.Lib.Hide
import Derived.Laws.OwnMore
import Derived.Deep.AppendLies
import Derived.Maps.AppendAt
import Derived.Deep.Draws
import Derived.RegionTactic
import Derived.OwnWalk
namespace Go.Proofs.YtdmdaoginojalaaGreatDoor.Lm

/-- The base of the limbs. -/
abbrev B : Nat := 4294967296

def lv : List Nat → Nat
  | [] => 0
  | x :: xs => x + B * lv xs

def ok (l : List Nat) : Prop := ∀ x ∈ l, x < B

theorem ok_nil : ok [] := by intro x h; cases h
theorem ok_take {l : List Nat} (h : ok l) (k : Nat) : ok (l.take k) := fun x hx => h x (List.mem_of_mem_take hx)
theorem ok_drop {l : List Nat} (h : ok l) (k : Nat) : ok (l.drop k) := fun x hx => h x (List.mem_of_mem_drop hx)
theorem lv_append (a b : List Nat) : lv (a ++ b) = lv a + B ^ a.length * lv b := by
  induction a with
  | nil => simp [lv]
  | cons x xs ih =>
    simp only [List.cons_append, lv, ih, List.length_cons, Nat.pow_succ]
    rw [Nat.mul_add, Nat.add_assoc, Nat.mul_comm (B ^ xs.length) B, Nat.mul_assoc]
theorem lv_one (x : Nat) : lv [x] = x := by simp [lv]
theorem lv_snoc (a : List Nat) (x : Nat) : lv (a ++ [x]) = lv a + B ^ a.length * x := by rw [lv_append, lv_one]
theorem lv_lt {l : List Nat} (h : ok l) : lv l < B ^ l.length := by
  induction l with
  | nil => simp [lv]
  | cons x xs ih =>
    have hx : x < B := h x (List.mem_cons_self)
    have hxs := ih (fun y hy => h y (List.mem_cons_of_mem _ hy))
    simp only [lv, List.length_cons, Nat.pow_succ]
    have h2 : B * (lv xs + 1) ≤ B * B ^ xs.length := Nat.mul_le_mul_left _ hxs
    rw [Nat.mul_add] at h2
    rw [Nat.mul_comm (B ^ xs.length)]
    omega
/-- The last limb is not nought. -/
def canon (l : List Nat) : Prop := ∀ h : l ≠ [], l.getLast h ≠ 0
theorem lv_pos {l : List Nat} (hc : canon l) (hne : l ≠ []) : B ^ (l.length - 1) ≤ lv l := by
  rcases List.eq_nil_or_concat l with rfl | ⟨xs, x, rfl⟩
  · exact absurd rfl hne
  · rw [List.concat_eq_append] at *
    have hx : x ≠ 0 := by have := hc (by simp); simpa using this
    rw [lv_snoc, List.length_append, List.length_singleton, Nat.add_sub_cancel]
    have : B ^ xs.length * 1 ≤ B ^ xs.length * x := Nat.mul_le_mul_left _ (by omega)
    omega
theorem lv_zero {l : List Nat} (hc : canon l) : lv l = 0 ↔ l = [] := by
  constructor
  · intro h
    by_cases hn : l = []
    · exact hn
    · have := lv_pos hc hn
      have := Nat.pow_pos (n := l.length - 1) (show 0 < B by decide)
      omega
  · rintro rfl; rfl
/-- Limbs held against limbs. -/
def cmp (a b : List Nat) : Int := if lv a < lv b then -1 else if lv b < lv a then 1 else 0
theorem cmp_zero {a b : List Nat} (h : lv a = lv b) : cmp a b = 0 := by unfold cmp; rw [if_neg (by omega), if_neg (by omega)]

end Go.Proofs.YtdmdaoginojalaaGreatDoor.Lm

/-! Laws that the walks of this seat share: float operations, whose result may be no number of unknown bits; body-less functions of package math. -/
namespace Go.Proofs.YtdmdaoginojalaaGreatDoor
open Go.RowKit

/-! ### a float operation -/
section
variable {P : Program} (w : World)

/-- What an operation on floats may give. -/
def IsOp (f : Nat → Nat → Option Nat) (x y z : Nat) : Prop := z < 2 ^ 64 ∧ (match f x y with | some r => z = r | none => Flt.Nan z)

theorem nan_cut (x y t : Nat) : Flt.Nan ((Question.nanBits .f64 x y).cut t) ∧ (Question.nanBits .f64 x y).cut t < 2 ^ 64 := by
  unfold Question.cut Flt.Nan Flt.rg
  simp only
  have h1 := Flt.inf_eq
  rw [h1]
  have h2 : t / 2 % (2 ^ 52 - 1) < 2 ^ 52 - 1 := Nat.mod_lt _ (by decide)
  have h3 : t % 2 < 2 := Nat.mod_lt _ (by decide)
  generalize t / 2 % (2 ^ 52 - 1) = a at *
  generalize t % 2 = b at *
  have : b = 0 ∨ b = 1 := by omega
  rcases this with rfl | rfl <;> omega

theorem run_fop (op : BinOp) (f : Nat → Nat → Option Nat) (hf : (op = .add ∧ f = Ieee.double.add) ∨ (op = .sub ∧ f = Ieee.double.sub) ∨ (op = .mul ∧ f = Ieee.double.mul) ∨ (op = .quo ∧ f = Ieee.double.div))
    (t : TypeId) (x y : Nat) : ∃ z n, (binOp op t (.float .f64 x) (.float .f64 y)).run P w = .ok (.float .f64 z) (w.drewN n) ∧ IsOp f x y z := by
  cases h : f x y with
  | some r =>
    have hb : floatBits op .f64 x y = some r := by rcases hf with ⟨rfl, rfl⟩ | ⟨rfl, rfl⟩ | ⟨rfl, rfl⟩ | ⟨rfl, rfl⟩ <;> exact h
    refine ⟨r, 0, ?_, ?_⟩
    · rw [World.drewN_zero]; exact run_float_arith w op t .f64 x y r hb
    · refine ⟨?_, by rw [h]⟩
      rcases hf with ⟨rfl, rfl⟩ | ⟨rfl, rfl⟩ | ⟨rfl, rfl⟩ | ⟨rfl, rfl⟩
      · exact Ieee.Format.add_lt _ h
      · exact Ieee.Format.sub_lt _ h
      · exact Ieee.Format.mul_lt _ h
      · exact Ieee.Format.div_lt _ h
  | none =>
    refine ⟨(Question.nanBits .f64 x y).cut (w.tape w.drawn (Question.nanBits .f64 x y)), 1, ?_, ?_⟩
    · have e : (Question.nanBits .f64 x y).forced = false := rfl
      rcases hf with ⟨rfl, rfl⟩ | ⟨rfl, rfl⟩ | ⟨rfl, rfl⟩ | ⟨rfl, rfl⟩ <;> simp [binOp, Op.floatArith, FloatKind.format, h, e] <;> rfl
    · exact ⟨(nan_cut x y _).2, by rw [h]; exact (nan_cut x y _).1⟩

theorem wpList_fop (op : BinOp) (f : Nat → Nat → Option Nat) (hf : (op = .add ∧ f = Ieee.double.add) ∨ (op = .sub ∧ f = Ieee.double.sub) ∨ (op = .mul ∧ f = Ieee.double.mul) ∨ (op = .quo ∧ f = Ieee.double.div))
    {ops : Array Oper} {rest : List Oper} {d : Option Tmp} {t u ty : TypeId} {pos : String} {after : Array Edge} {a : Act} {Q : Exit → Act → World → Prop} {l r : Operand} {x y : Nat}
    (hl : a.eval l = .float .f64 x) (hr : a.eval r = .float .f64 y)
    (hK : ∀ z n, IsOp f x y z → wpList P ops Q rest (a.put d (.float .f64 z)) (w.drewN n)) :
    wpList P ops Q (⟨d, .binOp op t l r u, ty, pos, after, none⟩ :: rest) a w := by
  refine wpList_plain rfl fun K hK' => ?_
  obtain ⟨z, n, hrun, hz⟩ := run_fop (P := P) w op f hf t x y
  have hg : eqGuard op t l r (.float .f64 x) (.float .f64 y) = pure () := by rcases hf with ⟨rfl, _⟩ | ⟨rfl, _⟩ | ⟨rfl, _⟩ | ⟨rfl, _⟩ <;> rfl
  unfold Oper.wp
  simp [execOp, hl, hr, hg, hrun, Result.andThen]
  exact hK' _ _ (hK z n hz)
end

theorem wpList_fadd {P : Program} (w : World) {ops : Array Oper} {rest : List Oper} {d : Option Tmp} {t u ty : TypeId} {pos : String} {after : Array Edge} {a : Act} {Q : Exit → Act → World → Prop} {l r : Operand} {x y : Nat}
    (hl : a.eval l = .float .f64 x) (hr : a.eval r = .float .f64 y)
    (hK : ∀ z n, IsOp Ieee.double.add x y z → wpList P ops Q rest (a.put d (.float .f64 z)) (w.drewN n)) :
    wpList P ops Q (⟨d, .binOp .add t l r u, ty, pos, after, none⟩ :: rest) a w := wpList_fop w .add _ (.inl ⟨rfl, rfl⟩) hl hr hK
theorem wpList_fsub {P : Program} (w : World) {ops : Array Oper} {rest : List Oper} {d : Option Tmp} {t u ty : TypeId} {pos : String} {after : Array Edge} {a : Act} {Q : Exit → Act → World → Prop} {l r : Operand} {x y : Nat}
    (hl : a.eval l = .float .f64 x) (hr : a.eval r = .float .f64 y)
    (hK : ∀ z n, IsOp Ieee.double.sub x y z → wpList P ops Q rest (a.put d (.float .f64 z)) (w.drewN n)) :
    wpList P ops Q (⟨d, .binOp .sub t l r u, ty, pos, after, none⟩ :: rest) a w := wpList_fop w .sub _ (.inr (.inl ⟨rfl, rfl⟩)) hl hr hK
theorem wpList_fmul {P : Program} (w : World) {ops : Array Oper} {rest : List Oper} {d : Option Tmp} {t u ty : TypeId} {pos : String} {after : Array Edge} {a : Act} {Q : Exit → Act → World → Prop} {l r : Operand} {x y : Nat}
    (hl : a.eval l = .float .f64 x) (hr : a.eval r = .float .f64 y)
    (hK : ∀ z n, IsOp Ieee.double.mul x y z → wpList P ops Q rest (a.put d (.float .f64 z)) (w.drewN n)) :
    wpList P ops Q (⟨d, .binOp .mul t l r u, ty, pos, after, none⟩ :: rest) a w := wpList_fop w .mul _ (.inr (.inr (.inl ⟨rfl, rfl⟩))) hl hr hK
theorem wpList_fquo {P : Program} (w : World) {ops : Array Oper} {rest : List Oper} {d : Option Tmp} {t u ty : TypeId} {pos : String} {after : Array Edge} {a : Act} {Q : Exit → Act → World → Prop} {l r : Operand} {x y : Nat}
    (hl : a.eval l = .float .f64 x) (hr : a.eval r = .float .f64 y)
    (hK : ∀ z n, IsOp Ieee.double.div x y z → wpList P ops Q rest (a.put d (.float .f64 z)) (w.drewN n)) :
    wpList P ops Q (⟨d, .binOp .quo t l r u, ty, pos, after, none⟩ :: rest) a w := wpList_fop w .quo _ (.inr (.inr (.inr ⟨rfl, rfl⟩))) hl hr hK

/-! ### body-less functions -/
theorem float64bits_run (x : Nat) (w : World) : (callFunc 345 #[.float .f64 x]).run Tryz.prog w = .ok (.value (.int .u64 x)) w := by
  rw [run_callFunc_extern Tryz.func345 (by kernel_rfl) (by kernel_rfl) (by kernel_rfl) (e := Extern.MathFloatBits.float64bits) (by kernel_rfl)]; rfl
theorem float64frombits_run (n : Int) (w : World) : (callFunc 8 #[.int .u64 n]).run Tryz.prog w = .ok (.value (.float .f64 n.toNat)) w := by
  rw [run_callFunc_extern Tryz.func8 (by kernel_rfl) (by kernel_rfl) (by kernel_rfl) (e := Extern.MathFloatBits.float64frombits) (by kernel_rfl)]; rfl
attribute [go_sem] float64bits_run
attribute [go_sem] float64frombits_run

theorem f64_format : FloatKind.f64.format = Ieee.double := rfl
attribute [go_sem] f64_format

theorem isNaN_any (x : Nat) (w : World) : Calls Tryz.prog 341 #[.float .f64 x] w fun e w' => e = .returned (.bool (Flt.nanB x)) ∧ w = w' := by
  go_enter Tryz.func341, Tryz.ntmps341
  go_wp2
  go_ret
  exact ⟨by rw [← Flt.order_self]; rfl, rfl⟩

/-- The opposite of a float, as the model reckons it. -/
def neg64 (b : Nat) : Nat := b ^^^ 2 ^ 63
theorem neg64_eq (b : Nat) (h : b < 2 ^ 64) : neg64 b = Flt.opp b := Flt.opp_xor b h
theorem unary_negf (b : Nat) : Op.unary .neg (.float .f64 b) = pure (.float .f64 (neg64 b)) := rfl
attribute [go_sem] unary_negf

theorem andNot_sign (x : Nat) (h : x < 2 ^ 64) : (bits .andNot .u64 (x : Int) 9223372036854775808).toNat = Flt.rg x := by
  have := u64_andNot_nat x 9223372036854775808 (by omega) (by omega)
  rw [show ((9223372036854775808 : Nat) : Int) = 9223372036854775808 from rfl] at this
  rw [this]
  exact Nat.and_two_pow_sub_one_eq_mod x 63

theorem abs_any (x : Nat) (h : x < 2 ^ 64) (w : World) : Calls Tryz.prog 343 #[.float .f64 x] w fun e w' => e = .returned (.float .f64 (Flt.rg x)) ∧ w = w' := by
  go_enter Tryz.func343, Tryz.ntmps343
  go_wp2
  go_ret
  exact ⟨by rw [← andNot_sign x h]; rfl, rfl⟩

theorem isInf0_any (x : Nat) (h : x < 2 ^ 64) (w : World) : Calls Tryz.prog 342 #[.float .f64 x, .int .i64 0] w fun e w' => e = .returned (.bool (Flt.infB x)) ∧ w = w' := by
  go_enter Tryz.func342, Tryz.ntmps342
  go_wp2_with (go_at_call 343; refine (abs_any _ h _).mono ?_; rintro e w' ⟨rfl, rfl⟩)
  go_ret
  refine ⟨?_, rfl⟩
  have e1 := Flt.order_max (Flt.rg x)
  rw [Flt.sgn_rg] at e1
  unfold Flt.infB at e1 ⊢
  rw [Flt.rg_abs] at e1
  simp at e1 ⊢
  exact e1
end Go.Proofs.YtdmdaoginojalaaGreatDoor

/-! Words for memory that the walks share: a slice that reads as a list, limbs, whole numbers in memory; what a call leaves. -/
namespace Go.Proofs.YtdmdaoginojalaaGreatDoor
open Go.RowKit

theorem block_of_add (a : Addr) (n : Nat) : (a.add n).block = a.block := by unfold Addr.add; split <;> rfl
theorem add_of_add (a : Addr) (i j : Nat) : (a.add i).add j = a.add (i + j) := by
  unfold Addr.add
  by_cases hi : i = 0 <;> by_cases hj : j = 0 <;> simp [hi, hj, Nat.add_assoc]

theorem bcell {W w1 : World} (hb : Below W.heap.size W w1) : (∀ b o, b < W.heap.size → w1.cell? ⟨b, o, none⟩ = W.cell? ⟨b, o, none⟩) ∧ (∀ b o, b < W.heap.size → w1.frozen? ⟨b, o, none⟩ = W.frozen? ⟨b, o, none⟩) :=
  ⟨fun b o h => hb.cell (p := ⟨b, o, none⟩) h, fun b o h => hb.frozen (p := ⟨b, o, none⟩) h⟩
theorem below_drewN {B : Nat} {a w : World} (h : Below B a w) (n : Nat) : Below B a (w.drewN n) := ⟨h.os, h.tape, h.output, h.size, h.block⟩

/-- Behind a box of the call's own. -/
theorem below_box {w w' : World} {o : Obj} (h : Below (w.alloc o).heap.size (w.alloc o) w') : Below w.heap.size w w' :=
  ((Below.refl _ _).alloc (Nat.le_refl _) _).trans (h.mono (by simp))
theorem below_next {w w1 w2 : World} (h : Below w.heap.size w w1) (k : Below w1.heap.size w1 w2) : Below w.heap.size w w2 := h.trans (k.mono h.size)

theorem below_of_drew {B : Nat} {a w : World} (h : Below B a.drew w) : Below B a w := ⟨h.os, h.tape, h.output, h.size, h.block⟩
theorem below_of_drewN {B k : Nat} {a w : World} (h : Below B (a.drewN k) w) : Below B a w := ⟨h.os, h.tape, h.output, h.size, h.block⟩

/-- The slice of n one-cell elements at A reads as the cells xs, all of them in blocks below B. -/
def Reads (w : World) (B : Nat) (A : Option Addr) (n : Nat) (xs : List Value) : Prop :=
  xs.length = n ∧ (0 < n → ∃ ad, A = some ad ∧ ad.block < B ∧ ∀ j u, xs[j]? = some u → w.cell? (ad.add j) = some u)

section
variable {w w' : World} {B B' n : Nat} {A : Option Addr} {xs : List Value}
theorem Reads.nil : Reads w B A 0 [] := ⟨rfl, fun h => absurd h (by omega)⟩
theorem Reads.at_ {k : Nat} (h : Reads w B A n xs) (hk : k < n) : ∃ ad u, A = some ad ∧ ad.block < B ∧ xs[k]? = some u ∧ w.cell? (ad.add k) = some u := by
  obtain ⟨ad, e, hb, hc⟩ := h.2 (by omega)
  have hl : k < xs.length := by have := h.1; omega
  exact ⟨ad, xs[k], e, hb, List.getElem?_eq_getElem hl, hc k _ (List.getElem?_eq_getElem hl)⟩
theorem Reads.keep (h : Reads w B A n xs) (hk : ∀ p : Addr, p.block < B → w'.cell? p = w.cell? p) : Reads w' B A n xs :=
  ⟨h.1, fun hn => by
    obtain ⟨ad, e, hb, hc⟩ := h.2 hn
    exact ⟨ad, e, hb, fun j u hu => (hk _ (by rw [block_of_add]; exact hb)).trans (hc j u hu)⟩⟩
theorem Reads.more (h : Reads w B A n xs) (hB : B ≤ B') : Reads w B' A n xs :=
  ⟨h.1, fun hn => by
    obtain ⟨ad, e, hb, hc⟩ := h.2 hn
    exact ⟨ad, e, by omega, hc⟩⟩
theorem Reads.below (h : Reads w B A n xs) (hb : Below B w w') : Reads w' B A n xs := h.keep fun _ hp => hb.cell hp
theorem Reads.take (h : Reads w B A n xs) {k : Nat} (hk : k ≤ n) : Reads w B A k (xs.take k) := by
  refine ⟨by rw [List.length_take, h.1]; omega, fun h0 => ?_⟩
  obtain ⟨ad, e, hb, hc⟩ := h.2 (by omega)
  refine ⟨ad, e, hb, fun j u hu => hc j u ?_⟩
  rw [List.getElem?_take] at hu
  split at hu
  · exact hu
  · cases hu
theorem Reads.cut (h : Reads w B A n xs) {k cap : Nat} (hk : k ≤ n) (hc : n ≤ cap) :
    Reads w B (if cap = k then A else A.map (·.add k)) (n - k) (xs.drop k) := by
  refine ⟨by rw [List.length_drop, h.1], fun hn => ?_⟩
  obtain ⟨ad, rfl, hb, hcell⟩ := h.2 (by omega)
  rw [if_neg (by omega)]
  refine ⟨ad.add k, rfl, by rw [block_of_add]; exact hb, fun j u hu => ?_⟩
  rw [add_of_add]
  exact hcell _ u (by rw [← hu, List.getElem?_drop])
end

/-! ### limbs -/
def u32s (l : List Nat) : List Value := l.map fun (x : Nat) => Value.int .u32 (x : Int)
theorem u32s_get {l : List Nat} {k : Nat} {u : Value} (h : (u32s l)[k]? = some u) : ∃ hk : k < l.length, u = .int .u32 (l[k] : Nat) := by
  unfold u32s at h
  rw [List.getElem?_map] at h
  rcases Nat.lt_or_ge k l.length with hk | hk
  · rw [List.getElem?_eq_getElem hk] at h
    exact ⟨hk, by simpa using h.symm⟩
  · rw [List.getElem?_eq_none hk] at h; cases h

/-- The slice value reads as limbs. -/
def Sl (w : World) (A : Option Addr) (n c : Nat) (l : List Nat) : Prop := Reads w w.heap.size A n (u32s l) ∧ n ≤ c ∧ Lm.ok l

section
variable {w w' : World} {n c : Nat} {A : Option Addr} {l : List Nat}
theorem Sl.len (h : Sl w A n c l) : l.length = n := by have := h.1.1; unfold u32s at this; simpa using this
theorem Sl.cap (h : Sl w A n c l) : n ≤ c := h.2.1
theorem Sl.ok (h : Sl w A n c l) : Lm.ok l := h.2.2
theorem Sl.below (h : Sl w A n c l) (hb : Below w.heap.size w w') : Sl w' A n c l := ⟨(h.1.below hb).more hb.size, h.2⟩
theorem Sl.drewN (h : Sl w A n c l) (k : Nat) : Sl (w.drewN k) A n c l := h
theorem Sl.alloc (h : Sl w A n c l) (o : Obj) : Sl (w.alloc o) A n c l := h.below ((Below.refl _ _).alloc (Nat.le_refl _) o)
theorem Sl.take (h : Sl w A n c l) {k : Nat} (hk : k ≤ n) : Sl w A k c (l.take k) :=
  ⟨by have := h.1.take hk; unfold u32s at this ⊢; rwa [List.map_take], by have := h.cap; omega, Lm.ok_take h.ok k⟩
theorem Sl.nil : Sl w none 0 0 [] := ⟨Reads.nil, Nat.le_refl _, Lm.ok_nil⟩
theorem Sl.at_ (h : Sl w A n c l) {k : Nat} (hk : k < n) : ∃ ad, A = some ad ∧ ad.block < w.heap.size ∧ ∃ hl : k < l.length, w.cell? (ad.add k) = some (.int .u32 (l[k] : Nat)) ∧ l[k] < 4294967296 := by
  obtain ⟨ad, u, rfl, hb, hu, hc⟩ := h.1.at_ hk
  obtain ⟨hl, rfl⟩ := u32s_get hu
  exact ⟨ad, rfl, hb, hl, hc, h.ok _ (List.getElem_mem hl)⟩
end

/-- A store into a cell that holds no limb. -/
theorem Sl.store {w : World} {n c : Nat} {A : Option Addr} {l : List Nat} (h : Sl w A n c l) {p : Addr} {u : Value} (v : Value) (hp : w.cell? p = some u) (hu : ∀ x, u ≠ .int .u32 x) : Sl (w.setCell p v) A n c l := by
  refine ⟨⟨h.1.1, fun h0 => ?_⟩, h.2⟩
  obtain ⟨ad, rfl, hb, hc⟩ := h.1.2 h0
  refine ⟨ad, rfl, by simpa [World.setCell] using hb, fun j x hx => ?_⟩
  have hcx := hc j x hx
  obtain ⟨_, rfl⟩ := u32s_get hx
  have hne : p ≠ ad.add j := by
    intro e
    rw [← e, hp] at hcx
    injection hcx with hcx
    exact hu _ hcx
  rw [World.cell?_setCell_other w p (ad.add j) v hne]
  exact hcx

/-! ### what a call leaves: a slice of limbs; a whole number -/
/-- A number of a sign and a size. -/
def sgnd (neg : Bool) (n : Nat) : Int := if neg then -(n : Int) else (n : Int)
/-- The value is a whole number in memory. -/
def IsInt (w : World) (neg : Bool) (A : Option Addr) (n c : Nat) (z : Int) : Prop :=
  ∃ l, Sl w A n c l ∧ Lm.canon l ∧ (l = [] → neg = false) ∧ z = sgnd neg (Lm.lv l)
theorem IsInt.below {w w' : World} {neg : Bool} {A : Option Addr} {n c : Nat} {z : Int} (h : IsInt w neg A n c z) (hb : Below w.heap.size w w') : IsInt w' neg A n c z := by
  obtain ⟨l, h1, h2⟩ := h
  exact ⟨l, h1.below hb, h2⟩
theorem IsInt.store {w : World} {neg : Bool} {A : Option Addr} {n c : Nat} {z : Int} (h : IsInt w neg A n c z) {p : Addr} {u : Value} (v : Value) (hp : w.cell? p = some u) (hu : ∀ x, u ≠ .int .u32 x) : IsInt (w.setCell p v) neg A n c z := by
  obtain ⟨l, h1, h2⟩ := h
  exact ⟨l, h1.store v hp hu, h2⟩
/-- A whole number stored into the cells of a result. -/
theorem isInt_result {w : World} {neg : Bool} {A : Option Addr} {n c : Nat} {z : Int} {g : Nat} {b0 : Bool} {a0 : Option Addr} {n0 c0 : Nat} (h : IsInt w neg A n c z)
    (h0 : w.cell? ⟨g, 0, none⟩ = some (.bool b0)) (h1 : w.cell? ⟨g, 1, none⟩ = some (.slice a0 n0 c0)) (u v : Value) :
    IsInt ((w.setCell ⟨g, 0, none⟩ u).setCell ⟨g, 1, none⟩ v) neg A n c z := by
  refine (h.store u h0 (by intro x e; cases e)).store v (p := ⟨g, 1, none⟩) (u := .slice a0 n0 c0) ?_ (by intro x e; cases e)
  rw [World.cell?_setCell_other w ⟨g, 0, none⟩ ⟨g, 1, none⟩ u (by intro e; injection e with _ e2; cases e2)]
  exact h1
theorem below_result {B : Nat} {a w : World} {g : Nat} (h : Below B a w) (hg : B ≤ g) (u v : Value) : Below B a ((w.setCell ⟨g, 0, none⟩ u).setCell ⟨g, 1, none⟩ v) :=
  (h.setCell (p := ⟨g, 0, none⟩) hg u).setCell (p := ⟨g, 1, none⟩) hg v
end Go.Proofs.YtdmdaoginojalaaGreatDoor

/-! append onto a row of the call's own, the source nil, empty or not (a kit's small lemma, copied as its page bids, for elements of one cell). -/
namespace Go.Proofs.YtdmdaoginojalaaGreatDoor
open Go.RowKit
section
variable {P : Program} (w : World)

end

end Go.Proofs.YtdmdaoginojalaaGreatDoor
