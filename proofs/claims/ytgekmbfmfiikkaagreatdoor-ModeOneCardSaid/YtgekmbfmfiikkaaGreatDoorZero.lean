/-
  Limbs, plainly; laws that all walks share; words for memory.
-/
import Derived.Test.YtgekmbfmfiikkaaGreatDoorFlt
import Derived.Test.YtgekmbfmfiikkaaGreatDoorChecked
import Derived.WalkKit
import Derived.WalkSpells
import Derived.WalkLawsBesides
import Derived.Deep.QuietTactic
import Derived.BigQuiet
import Derived.Lib.Hide
import Derived.Laws.OwnMore
import Derived.Deep.AppendLies
import Derived.Maps.AppendAt
import Derived.Deep.Draws
import Derived.RegionTactic
import Derived.OwnWalk
namespace Go.Proofs.YtgekmbfmfiikkaaGreatDoor.Lm
abbrev B : Nat := 4294967296
def lv : List Nat → Nat
 | [] => 0
 | x :: xs => x + B * lv xs
def ok (l : List Nat) : Prop := ∀ x ∈ l, x < B
theorem ok_nil : ok [] := by intro x h; cases h
theorem ok_append {a b : List Nat} (ha : ok a) (hb : ok b) : ok (a ++ b) := by
 intro x hx; rcases List.mem_append.1 hx with h | h
 ·exact ha x h
 ·exact hb x h
theorem ok_one {x : Nat} (h : x < B) : ok [x] := by intro y hy; simp at hy; subst hy; exact h
theorem ok_take {l : List Nat} (h : ok l) (k : Nat) : ok (l.take k) := fun x hx => h x (List.mem_of_mem_take hx)
theorem ok_drop {l : List Nat} (h : ok l) (k : Nat) : ok (l.drop k) := fun x hx => h x (List.mem_of_mem_drop hx)
theorem ok_get {l : List Nat} (h : ok l) {k : Nat} (hk : k < l.length) : l[k] < B := h _ (List.getElem_mem hk)
theorem lv_append (a b : List Nat) : lv (a ++ b) = lv a + B ^ a.length * lv b := by
 induction a with
 | nil => simp [lv]
 | cons x xs ih =>
  simp only [List.cons_append, lv, ih, List.length_cons, Nat.pow_succ]
  rw [Nat.mul_add, Nat.add_assoc, Nat.mul_comm (B ^ xs.length) B, Nat.mul_assoc]
theorem lv_one (x : Nat) : lv [x] = x := by simp [lv]
theorem lv_snoc (a : List Nat) (x : Nat) : lv (a ++ [x]) = lv a + B ^ a.length * x := by rw [lv_append, lv_one]
theorem lv_lt {l : List Nat} (h : ok l) : lv l < B ^ l.length := by
 induction l with
 | nil => simp [lv]
 | cons x xs ih =>
  have hx : x < B := h x (List.mem_cons_self)
  have hxs := ih (fun y hy => h y (List.mem_cons_of_mem _ hy))
  simp only [lv, List.length_cons, Nat.pow_succ]
  have h2 : B * (lv xs + 1) ≤ B * B ^ xs.length := Nat.mul_le_mul_left _ hxs
  rw [Nat.mul_add] at h2
  rw [Nat.mul_comm (B ^ xs.length)]
  omega
theorem lv_take_succ (l : List Nat) (k : Nat) (h : k < l.length) : lv (l.take (k + 1)) = lv (l.take k) + B ^ k * l[k] := by
 rw [List.take_succ_eq_append_getElem h, lv_snoc, List.length_take, Nat.min_eq_left (by omega)]
theorem lv_take_drop (l : List Nat) (k : Nat) (h : k ≤ l.length) : lv l = lv (l.take k) + B ^ k * lv (l.drop k) := by
 conv => lhs; rw [← List.take_append_drop k l]
 rw [lv_append, List.length_take, Nat.min_eq_left h]
theorem lv_take_ge (l : List Nat) (k : Nat) (h : l.length ≤ k) : lv (l.take k) = lv l := by rw [List.take_of_length_le h]
def canon (l : List Nat) : Prop := ∀ h : l ≠ [], l.getLast h ≠ 0
theorem canon_nil : canon [] := fun h => absurd rfl h
def trim : List Nat → List Nat
 | [] => []
 | x :: xs => if trim xs = [] ∧ x = 0 then [] else x :: trim xs
theorem trim_lv (l : List Nat) : lv (trim l) = lv l := by
 induction l with
 | nil => rfl
 | cons x xs ih =>
  unfold trim
  split
  ·rename_i h
   have : lv xs = 0 := by rw [← ih, h.1]; rfl
   simp [lv, h.2, this]
  ·simp [lv, ih]
theorem trim_snoc_zero (l : List Nat) : trim (l ++ [0]) = trim l := by
 induction l with
 | nil => simp [trim]
 | cons x xs ih => simp only [List.cons_append, trim, ih]
theorem trim_snoc (l : List Nat) (x : Nat) (hx : x ≠ 0) : trim (l ++ [x]) = l ++ [x] := by
 induction l with
 | nil => simp [trim, hx]
 | cons y ys ih => simp only [List.cons_append, trim, ih]; simp
theorem trim_canon (l : List Nat) : canon (trim l) := by
 induction l with
 | nil => exact canon_nil
 | cons x xs ih =>
  unfold trim
  split
  ·exact canon_nil
  ·rename_i h
   intro hne
   by_cases ht : trim xs = []
   ·have hx : x ≠ 0 := fun e => h ⟨ht, e⟩
    simp only [ht, List.getLast_singleton]; exact hx
   ·rw [List.getLast_cons ht]; exact ih ht
theorem lv_pos {l : List Nat} (hc : canon l) (hne : l ≠ []) : B ^ (l.length - 1) ≤ lv l := by
 rcases List.eq_nil_or_concat l with rfl | ⟨xs, x, rfl⟩
 ·exact absurd rfl hne
 ·rw [List.concat_eq_append] at *
  have hx : x ≠ 0 := by have := hc (by simp); simpa using this
  rw [lv_snoc, List.length_append, List.length_singleton, Nat.add_sub_cancel]
  have : B ^ xs.length * 1 ≤ B ^ xs.length * x := Nat.mul_le_mul_left _ (by omega)
  omega
theorem lv_zero {l : List Nat} (hc : canon l) : lv l = 0 ↔ l = [] := by
 constructor
 ·intro h
  by_cases hn : l = []
  ·exact hn
  ·have := lv_pos hc hn
   have := Nat.pow_pos (n := l.length - 1) (show 0 < B by decide)
   omega
 ·rintro rfl; rfl
theorem len_of_lv {a b : List Nat} (ha : ok a) (hb : ok b) (cb : canon b) (h : a.length < b.length) : lv a < lv b := by
 have h1 := lv_lt ha
 have h2 := lv_pos cb (by intro e; subst e; simp at h)
 have h3 : B ^ a.length ≤ B ^ (b.length - 1) := Nat.pow_le_pow_right (by decide) (by omega)
 omega
theorem lv_inj_len {a b : List Nat} (ha : ok a) (hb : ok b) (hl : a.length = b.length) (h : lv a = lv b) : a = b := by
 induction a generalizing b with
 | nil => cases b with
  | nil => rfl
  | cons => simp at hl
 | cons x xs ih => cases b with
  | nil => simp at hl
  | cons y ys =>
   have hx : x < B := ha x List.mem_cons_self
   have hy : y < B := hb y List.mem_cons_self
   simp only [lv] at h
   have h1 : x = y := by
    have e : (x + B * lv xs) % B = (y + B * lv ys) % B := by rw [h]
    rw [Nat.add_mul_mod_self_left, Nat.add_mul_mod_self_left, Nat.mod_eq_of_lt hx, Nat.mod_eq_of_lt hy] at e
    exact e
   have h2 : lv xs = lv ys := by
    subst h1
    have : B * lv xs = B * lv ys := by omega
    exact Nat.eq_of_mul_eq_mul_left (by decide) this
   rw [h1, ih (fun z hz => ha z (List.mem_cons_of_mem _ hz)) (fun z hz => hb z (List.mem_cons_of_mem _ hz)) (by simpa using hl) h2]
theorem lv_inj {a b : List Nat} (ha : ok a) (ca : canon a) (hb : ok b) (cb : canon b) (h : lv a = lv b) : a = b := by
 rcases Nat.lt_trichotomy a.length b.length with hl | hl | hl
 ·have := len_of_lv ha hb cb hl; omega
 ·exact lv_inj_len ha hb hl h
 ·have := len_of_lv hb ha ca hl; omega
theorem lv_split (l : List Nat) (k : Nat) (h : k < l.length) : lv l = lv (l.take k) + B ^ k * (l[k] + B * lv (l.drop (k + 1))) := by
 rw [lv_take_drop l k (by omega)]
 congr 2
 rw [List.drop_eq_getElem_cons h]; rfl
theorem lt_of_limb {a b : List Nat} (ha : ok a) {k : Nat} (hka : k < a.length) (hkb : k < b.length) (hd : a.drop (k + 1) = b.drop (k + 1)) (h : a[k] < b[k]) : lv a < lv b := by
 rw [lv_split a k hka, lv_split b k hkb, hd]
 have h1 := lv_lt (ok_take ha k)
 rw [List.length_take, Nat.min_eq_left (by omega)] at h1
 have h2 : B ^ k * (a[k] + B * lv (b.drop (k + 1)) + 1) ≤ B ^ k * (b[k] + B * lv (b.drop (k + 1))) := Nat.mul_le_mul_left _ (by omega)
 rw [Nat.mul_add (B ^ k) _ 1] at h2
 omega
theorem add_step {out a b : List Nat} {k q x y : Nat} {ta tb : Nat} (hl : out.length = k) (hE : lv out + B ^ k * q = lv a + lv b)
  (ha : ta = lv a + B ^ k * x) (hb : tb = lv b + B ^ k * y) :
  lv (out ++ [(q + x + y) % 4294967296]) + B ^ (k + 1) * ((q + x + y) / 4294967296) = ta + tb := by
 rw [lv_snoc, hl, ha, hb, Nat.pow_succ, Nat.mul_assoc]
 have h := Nat.div_add_mod (q + x + y) 4294967296
 have h2 : B ^ k * (q + x + y) = B ^ k * (4294967296 * ((q + x + y) / 4294967296)) + B ^ k * ((q + x + y) % 4294967296) := by rw [← Nat.mul_add, h]
 have h3 : B ^ k * (q + x + y) = B ^ k * q + B ^ k * x + B ^ k * y := by rw [Nat.mul_add, Nat.mul_add]
 show lv out + B ^ k * ((q + x + y) % 4294967296) + B ^ k * (4294967296 * ((q + x + y) / 4294967296)) = _
 omega
theorem take_in (l : List Nat) {k : Nat} (h : k < l.length) : lv (l.take (k + 1)) = lv (l.take k) + B ^ k * l[k] := lv_take_succ l k h
theorem take_out (l : List Nat) {k : Nat} (h : l.length ≤ k) : lv (l.take (k + 1)) = lv (l.take k) + B ^ k * 0 := by
 rw [List.take_of_length_le (by omega), List.take_of_length_le h]; omega
theorem sub_step {out a b : List Nat} {k q x y r d : Nat} {ta tb : Nat} (hl : out.length = k) (hE : lv out + lv b = lv a + B ^ k * q)
  (ha : ta = lv a + B ^ k * x) (hb : tb = lv b + B ^ k * y) (hd : d + (q + y) = x + 4294967296 * r) :
  lv (out ++ [d]) + tb = ta + B ^ (k + 1) * r := by
 rw [lv_snoc, hl, ha, hb, Nat.pow_succ, Nat.mul_assoc]
 have h2 : B ^ k * (d + (q + y)) = B ^ k * (x + 4294967296 * r) := by rw [hd]
 rw [Nat.mul_add, Nat.mul_add, Nat.mul_add] at h2
 show lv out + B ^ k * d + (lv b + B ^ k * y) = lv a + B ^ k * x + B ^ k * (4294967296 * r)
 omega
theorem lv_set (l : List Nat) (j v : Nat) (h : j < l.length) : lv (l.set j v) + B ^ j * l[j] = lv l + B ^ j * v := by
 have h2 : j < (l.set j v).length := by simpa using h
 rw [lv_split (l.set j v) j h2, lv_split l j h]
 have e1 : (l.set j v).take j = l.take j := by rw [List.take_set]; exact List.set_eq_of_length_le (by rw [List.length_take]; omega)
 have e2 : (l.set j v).drop (j + 1) = l.drop (j + 1) := by rw [List.drop_set]; simp
 rw [e1, e2, List.getElem_set_self, Nat.mul_add, Nat.mul_add]
 omega
theorem ok_set {l : List Nat} (h : ok l) {j v : Nat} (hv : v < B) : ok (l.set j v) := by
 intro x hx
 rcases List.mem_or_eq_of_mem_set hx with h' | h'
 ·exact h x h'
 ·subst h'; exact hv
theorem lv_zeros (n : Nat) : lv (List.replicate n 0) = 0 := by
 induction n with
 | zero => rfl
 | succ n ih => rw [List.replicate_succ, lv, ih]; rfl
theorem ok_zeros (n : Nat) : ok (List.replicate n 0) := fun x hx => by
 have := (List.mem_replicate.1 hx).2; subst this; decide
theorem mul_step {out : List Nat} {i k m q x y R : Nat} (hj : i + k < out.length) (hm : i + k < m)
  (hE : lv (out.take m) + B ^ (i + k) * q = R) :
  lv ((out.set (i + k) ((x * y + out[i + k] + q) % 4294967296)).take m) + B ^ (i + (k + 1)) * ((x * y + out[i + k] + q) / 4294967296) = R + B ^ i * (x * (B ^ k * y)) := by
 have hl : i + k < (out.take m).length := by rw [List.length_take]; omega
 have h := lv_set (out.take m) (i + k) ((x * y + out[i + k] + q) % 4294967296) hl
 rw [List.getElem_take] at h
 rw [List.take_set, ← hE]
 have hd := Nat.div_add_mod (x * y + out[i + k] + q) 4294967296
 generalize (x * y + out[i + k] + q) % 4294967296 = r at *
 generalize (x * y + out[i + k] + q) / 4294967296 = d at *
 have e1 : B ^ (i + (k + 1)) * d = B ^ (i + k) * (4294967296 * d) := by
  rw [← Nat.add_assoc, Nat.pow_succ, Nat.mul_assoc]
 have e2 : B ^ i * (x * (B ^ k * y)) = B ^ (i + k) * (x * y) := by
  rw [Nat.pow_add, Nat.mul_assoc, Nat.mul_left_comm x]
 rw [e1, e2]
 have h2 : B ^ (i + k) * (4294967296 * d + r) = B ^ (i + k) * (x * y + out[i + k] + q) := by rw [hd]
 rw [Nat.mul_add, Nat.mul_add, Nat.mul_add] at h2
 omega
theorem mul_carry {x y o q : Nat} (hx : x < 4294967296) (hy : y < 4294967296) (ho : o < 4294967296) (hq : q < 4294967296) :
  x * y ≤ 18446744065119617025 ∧ x * y + o + q ≤ 18446744073709551615 := by
 have : x * y ≤ 4294967295 * 4294967295 := Nat.mul_le_mul (by omega) (by omega)
 omega
theorem mul_last {out : List Nat} {m q R : Nat} (hj : m < out.length) (hE : lv (out.take m) + B ^ m * q = R) : lv ((out.set m q).take (m + 1)) = R := by
 rw [take_in _ (by simpa using hj), List.getElem_set_self, ← hE, List.take_set, List.set_eq_of_length_le (by rw [List.length_take]; omega)]
theorem lv_drop (l : List Nat) {k : Nat} (h : k < l.length) : lv (l.drop k) = l[k] + B * lv (l.drop (k + 1)) := by
 rw [List.drop_eq_getElem_cons h]; rfl
theorem short_step {a out : List Nat} {k d r : Nat} (ha : k < a.length) (ho : k < out.length) (hE : lv (a.drop (k + 1)) = d * lv (out.drop (k + 1)) + r) :
  lv (a.drop k) = d * lv ((out.set k ((r * 4294967296 + a[k]) / d)).drop k) + (r * 4294967296 + a[k]) % d := by
 have ho' : k < (out.set k ((r * 4294967296 + a[k]) / d)).length := by simpa using ho
 rw [lv_drop a ha, lv_drop _ ho', List.getElem_set_self, List.drop_set, if_pos (by omega), hE]
 have h := Nat.div_add_mod (r * 4294967296 + a[k]) d
 generalize (r * 4294967296 + a[k]) / d = q at *
 generalize (r * 4294967296 + a[k]) % d = m at *
 rw [Nat.mul_add, Nat.mul_add d q]
 have e : B * (d * lv (out.drop (k + 1))) = d * (B * lv (out.drop (k + 1))) := Nat.mul_left_comm ..
 have e2 : B * r = r * 4294967296 := Nat.mul_comm ..
 omega
theorem short_lt {r x d : Nat} (hd : 0 < d) (hr : r < d) (hx : x < 4294967296) : (r * 4294967296 + x) / d < 4294967296 := by
 rw [Nat.div_lt_iff_lt_mul hd]
 have : (r + 1) * 4294967296 ≤ d * 4294967296 := Nat.mul_le_mul_right _ hr
 rw [Nat.mul_comm 4294967296 d]
 omega
end Go.Proofs.YtgekmbfmfiikkaaGreatDoor.Lm
/-! Laws that the walks of this seat share: float operations, whose result may be no number of unknown bits; body-less functions of package math. -/
namespace Go.Proofs.YtgekmbfmfiikkaaGreatDoor
open Go.RowKit
/-! ### a float operation -/
section
variable {P : Program} (w : World)
def IsOp (f : Nat → Nat → Option Nat) (x y z : Nat) : Prop := z < 2 ^ 64 ∧ (match f x y with | some r => z = r | none => Flt.Nan z)
theorem nan_cut (x y t : Nat) : Flt.Nan ((Question.nanBits .f64 x y).cut t) ∧ (Question.nanBits .f64 x y).cut t < 2 ^ 64 := by
 unfold Question.cut Flt.Nan Flt.rg
 simp only
 have h1 := Flt.inf_eq
 rw [h1]
 have h2 : t / 2 % (2 ^ 52 - 1) < 2 ^ 52 - 1 := Nat.mod_lt _ (by decide)
 have h3 : t % 2 < 2 := Nat.mod_lt _ (by decide)
 generalize t / 2 % (2 ^ 52 - 1) = a at *
 generalize t % 2 = b at *
 have : b = 0 ∨ b = 1 := by omega
 rcases this with rfl | rfl <;> omega
theorem run_fop (op : BinOp) (f : Nat → Nat → Option Nat) (hf : (op = .add ∧ f = Ieee.double.add) ∨ (op = .sub ∧ f = Ieee.double.sub) ∨ (op = .mul ∧ f = Ieee.double.mul) ∨ (op = .quo ∧ f = Ieee.double.div))
  (t : TypeId) (x y : Nat) : ∃ z n, (binOp op t (.float .f64 x) (.float .f64 y)).run P w = .ok (.float .f64 z) (w.drewN n) ∧ IsOp f x y z := by
 cases h : f x y with
 | some r =>
  have hb : floatBits op .f64 x y = some r := by rcases hf with ⟨rfl, rfl⟩ | ⟨rfl, rfl⟩ | ⟨rfl, rfl⟩ | ⟨rfl, rfl⟩ <;> exact h
  refine ⟨r, 0, ?_, ?_⟩
  ·rw [World.drewN_zero]; exact run_float_arith w op t .f64 x y r hb
  ·refine ⟨?_, by rw [h]⟩
   rcases hf with ⟨rfl, rfl⟩ | ⟨rfl, rfl⟩ | ⟨rfl, rfl⟩ | ⟨rfl, rfl⟩
   ·exact Ieee.Format.add_lt _ h
   ·exact Ieee.Format.sub_lt _ h
   ·exact Ieee.Format.mul_lt _ h
   ·exact Ieee.Format.div_lt _ h
 | none =>
  refine ⟨(Question.nanBits .f64 x y).cut (w.tape w.drawn (Question.nanBits .f64 x y)), 1, ?_, ?_⟩
  ·have e : (Question.nanBits .f64 x y).forced = false := rfl
   rcases hf with ⟨rfl, rfl⟩ | ⟨rfl, rfl⟩ | ⟨rfl, rfl⟩ | ⟨rfl, rfl⟩ <;> simp [binOp, Op.floatArith, FloatKind.format, h, e] <;> rfl
  ·exact ⟨(nan_cut x y _).2, by rw [h]; exact (nan_cut x y _).1⟩
theorem wpList_fop (op : BinOp) (f : Nat → Nat → Option Nat) (hf : (op = .add ∧ f = Ieee.double.add) ∨ (op = .sub ∧ f = Ieee.double.sub) ∨ (op = .mul ∧ f = Ieee.double.mul) ∨ (op = .quo ∧ f = Ieee.double.div))
  {ops : Array Oper} {rest : List Oper} {d : Option Tmp} {t u ty : TypeId} {pos : String} {after : Array Edge} {a : Act} {Q : Exit → Act → World → Prop} {l r : Operand} {x y : Nat}
  (hl : a.eval l = .float .f64 x) (hr : a.eval r = .float .f64 y)
  (hK : ∀ z n, IsOp f x y z → wpList P ops Q rest (a.put d (.float .f64 z)) (w.drewN n)) :
  wpList P ops Q (⟨d, .binOp op t l r u, ty, pos, after, none⟩ :: rest) a w := by
 refine wpList_plain rfl fun K hK' => ?_
 obtain ⟨z, n, hrun, hz⟩ := run_fop (P := P) w op f hf t x y
 have hg : eqGuard op t l r (.float .f64 x) (.float .f64 y) = pure () := by rcases hf with ⟨rfl, _⟩ | ⟨rfl, _⟩ | ⟨rfl, _⟩ | ⟨rfl, _⟩ <;> rfl
 unfold Oper.wp
 simp [execOp, hl, hr, hg, hrun, Result.andThen]
 exact hK' _ _ (hK z n hz)
end
theorem wpList_fadd {P : Program} (w : World) {ops : Array Oper} {rest : List Oper} {d : Option Tmp} {t u ty : TypeId} {pos : String} {after : Array Edge} {a : Act} {Q : Exit → Act → World → Prop} {l r : Operand} {x y : Nat}
  (hl : a.eval l = .float .f64 x) (hr : a.eval r = .float .f64 y)
  (hK : ∀ z n, IsOp Ieee.double.add x y z → wpList P ops Q rest (a.put d (.float .f64 z)) (w.drewN n)) :
  wpList P ops Q (⟨d, .binOp .add t l r u, ty, pos, after, none⟩ :: rest) a w := wpList_fop w .add _ (.inl ⟨rfl, rfl⟩) hl hr hK
theorem wpList_fmul {P : Program} (w : World) {ops : Array Oper} {rest : List Oper} {d : Option Tmp} {t u ty : TypeId} {pos : String} {after : Array Edge} {a : Act} {Q : Exit → Act → World → Prop} {l r : Operand} {x y : Nat}
  (hl : a.eval l = .float .f64 x) (hr : a.eval r = .float .f64 y)
  (hK : ∀ z n, IsOp Ieee.double.mul x y z → wpList P ops Q rest (a.put d (.float .f64 z)) (w.drewN n)) :
  wpList P ops Q (⟨d, .binOp .mul t l r u, ty, pos, after, none⟩ :: rest) a w := wpList_fop w .mul _ (.inr (.inr (.inl ⟨rfl, rfl⟩))) hl hr hK
/-! ### body-less functions -/
theorem float64bits_run (x : Nat) (w : World) : (callFunc 314 #[.float .f64 x]).run Tryz.prog w = .ok (.value (.int .u64 x)) w := by
  rw [run_callFunc_extern Tryz.func314 (by kernel_rfl) (by kernel_rfl) (by kernel_rfl) (e := Extern.MathFloatBits.float64bits) (by kernel_rfl)]; rfl
theorem float64frombits_run (n : Int) (w : World) : (callFunc 309 #[.int .u64 n]).run Tryz.prog w = .ok (.value (.float .f64 n.toNat)) w := by
  rw [run_callFunc_extern Tryz.func309 (by kernel_rfl) (by kernel_rfl) (by kernel_rfl) (e := Extern.MathFloatBits.float64frombits) (by kernel_rfl)]; rfl
attribute [go_sem] float64bits_run
attribute [go_sem] float64frombits_run
theorem f64_format : FloatKind.f64.format = Ieee.double := rfl
attribute [go_sem] f64_format
theorem isNaN_any (x : Nat) (w : World) : Calls Tryz.prog 321 #[.float .f64 x] w fun e w' => e = .returned (.bool (Flt.nanB x)) ∧ w = w' := by
 go_enter Tryz.func321, Tryz.ntmps321
 go_wp2
 go_ret
 exact ⟨by rw [← Flt.order_self]; rfl, rfl⟩
def neg64 (b : Nat) : Nat := b ^^^ 2 ^ 63
theorem neg64_eq (b : Nat) (h : b < 2 ^ 64) : neg64 b = Flt.opp b := Flt.opp_xor b h
theorem unary_negf (b : Nat) : Op.unary .neg (.float .f64 b) = pure (.float .f64 (neg64 b)) := rfl
attribute [go_sem] unary_negf
theorem andNot_sign (x : Nat) (h : x < 2 ^ 64) : (bits .andNot .u64 (x : Int) 9223372036854775808).toNat = Flt.rg x := by
 have := u64_andNot_nat x 9223372036854775808 (by omega) (by omega)
 rw [show ((9223372036854775808 : Nat) : Int) = 9223372036854775808 from rfl] at this
 rw [this]
 exact Nat.and_two_pow_sub_one_eq_mod x 63
theorem abs_any (x : Nat) (h : x < 2 ^ 64) (w : World) : Calls Tryz.prog 318 #[.float .f64 x] w fun e w' => e = .returned (.float .f64 (Flt.rg x)) ∧ w = w' := by
 go_enter Tryz.func318, Tryz.ntmps318
 go_wp2
 go_ret
 exact ⟨by rw [← andNot_sign x h]; rfl, rfl⟩
theorem isInf0_any (x : Nat) (h : x < 2 ^ 64) (w : World) : Calls Tryz.prog 319 #[.float .f64 x, .int .i64 0] w fun e w' => e = .returned (.bool (Flt.infB x)) ∧ w = w' := by
 go_enter Tryz.func319, Tryz.ntmps319
 go_wp2_with (go_at_call 318; refine (abs_any _ h _).mono ?_; rintro e w' ⟨rfl, rfl⟩)
 go_ret
 refine ⟨?_, rfl⟩
 have e1 := Flt.order_max (Flt.rg x)
 rw [Flt.sgn_rg] at e1
 unfold Flt.infB at e1 ⊢
 rw [Flt.rg_abs] at e1
 simp at e1 ⊢
 exact e1
end Go.Proofs.YtgekmbfmfiikkaaGreatDoor
/-! Words for memory that the walks share: a slice that reads as a list, limbs, whole numbers in memory; what a call leaves. -/
namespace Go.Proofs.YtgekmbfmfiikkaaGreatDoor
open Go.RowKit
theorem block_of_add (a : Addr) (n : Nat) : (a.add n).block = a.block := by unfold Addr.add; split <;> rfl
theorem add_of_add (a : Addr) (i j : Nat) : (a.add i).add j = a.add (i + j) := by
 unfold Addr.add
 by_cases hi : i = 0 <;> by_cases hj : j = 0 <;> simp [hi, hj, Nat.add_assoc]
theorem bcell {W w1 : World} (hb : Below W.heap.size W w1) : (∀ b o, b < W.heap.size → w1.cell? ⟨b, o, none⟩ = W.cell? ⟨b, o, none⟩) ∧ (∀ b o, b < W.heap.size → w1.frozen? ⟨b, o, none⟩ = W.frozen? ⟨b, o, none⟩) :=
 ⟨fun b o h => hb.cell (p := ⟨b, o, none⟩) h, fun b o h => hb.frozen (p := ⟨b, o, none⟩) h⟩
theorem below_drewN {B : Nat} {a w : World} (h : Below B a w) (n : Nat) : Below B a (w.drewN n) := ⟨h.os, h.tape, h.output, h.size, h.block⟩
theorem drew2 (w : World) (a b : Nat) : (w.drewN a).drewN b = w.drewN (a + b) := World.drewN_drewN _ _ _
theorem drew3 (w : World) (a b c : Nat) : ((w.drewN a).drewN b).drewN c = w.drewN (a + b + c) := by rw [drew2, drew2, Nat.add_assoc]
theorem below_box {w w' : World} {o : Obj} (h : Below (w.alloc o).heap.size (w.alloc o) w') : Below w.heap.size w w' :=
 ((Below.refl _ _).alloc (Nat.le_refl _) _).trans (h.mono (by simp))
theorem below_box2 {w w' : World} {o o' : Obj} (h : Below ((w.alloc o).alloc o').heap.size ((w.alloc o).alloc o') w') : Below w.heap.size w w' := below_box (below_box h)
theorem below_next {w w1 w2 : World} (h : Below w.heap.size w w1) (k : Below w1.heap.size w1 w2) : Below w.heap.size w w2 := h.trans (k.mono h.size)
theorem below_of_drew {B : Nat} {a w : World} (h : Below B a.drew w) : Below B a w := ⟨h.os, h.tape, h.output, h.size, h.block⟩
theorem below_of_drewN {B k : Nat} {a w : World} (h : Below B (a.drewN k) w) : Below B a w := ⟨h.os, h.tape, h.output, h.size, h.block⟩
def Reads (w : World) (B : Nat) (A : Option Addr) (n : Nat) (xs : List Value) : Prop :=
 xs.length = n ∧ (0 < n → ∃ ad, A = some ad ∧ ad.block < B ∧ ∀ j u, xs[j]? = some u → w.cell? (ad.add j) = some u)
section
variable {w w' : World} {B B' n : Nat} {A : Option Addr} {xs : List Value}
theorem Reads.nil : Reads w B A 0 [] := ⟨rfl, fun h => absurd h (by omega)⟩
theorem Reads.at_ {k : Nat} (h : Reads w B A n xs) (hk : k < n) : ∃ ad u, A = some ad ∧ ad.block < B ∧ xs[k]? = some u ∧ w.cell? (ad.add k) = some u := by
 obtain ⟨ad, e, hb, hc⟩ := h.2 (by omega)
 have hl : k < xs.length := by have := h.1; omega
 exact ⟨ad, xs[k], e, hb, List.getElem?_eq_getElem hl, hc k _ (List.getElem?_eq_getElem hl)⟩
theorem Reads.keep (h : Reads w B A n xs) (hk : ∀ p : Addr, p.block < B → w'.cell? p = w.cell? p) : Reads w' B A n xs :=
 ⟨h.1, fun hn => by
  obtain ⟨ad, e, hb, hc⟩ := h.2 hn
  exact ⟨ad, e, hb, fun j u hu => (hk _ (by rw [block_of_add]; exact hb)).trans (hc j u hu)⟩⟩
theorem Reads.more (h : Reads w B A n xs) (hB : B ≤ B') : Reads w B' A n xs :=
 ⟨h.1, fun hn => by
  obtain ⟨ad, e, hb, hc⟩ := h.2 hn
  exact ⟨ad, e, by omega, hc⟩⟩
theorem Reads.below (h : Reads w B A n xs) (hb : Below B w w') : Reads w' B A n xs := h.keep fun _ hp => hb.cell hp
theorem Reads.take (h : Reads w B A n xs) {k : Nat} (hk : k ≤ n) : Reads w B A k (xs.take k) := by
 refine ⟨by rw [List.length_take, h.1]; omega, fun h0 => ?_⟩
 obtain ⟨ad, e, hb, hc⟩ := h.2 (by omega)
 refine ⟨ad, e, hb, fun j u hu => hc j u ?_⟩
 rw [List.getElem?_take] at hu
 split at hu
 ·exact hu
 ·cases hu
theorem Reads.of_own {base : Nat} {e : TypeId} {c : Nat} (h : w.ownsRow base e 1 (.slice A n c) n xs) : Reads w w.heap.size A n xs := by
 refine ⟨by have := h.1; omega, fun hn => ?_⟩
 obtain ⟨g, cap, hv, _, hlt⟩ := h.form hn
 have hA : A = some ⟨g, 0, none⟩ := by injection hv
 subst hA
 exact ⟨_, rfl, hlt, h.cells (g := g) rfl⟩
end
def lenOf : Value → Nat | .slice _ n _ => n | _ => 0
/-! ### limbs -/
def u32s (l : List Nat) : List Value := l.map fun (x : Nat) => Value.int .u32 (x : Int)
theorem u32s_append (a b : List Nat) : u32s (a ++ b) = u32s a ++ u32s b := List.map_append
theorem u32s_get {l : List Nat} {k : Nat} {u : Value} (h : (u32s l)[k]? = some u) : ∃ hk : k < l.length, u = .int .u32 (l[k] : Nat) := by
 unfold u32s at h
 rw [List.getElem?_map] at h
 rcases Nat.lt_or_ge k l.length with hk | hk
 ·rw [List.getElem?_eq_getElem hk] at h
  exact ⟨hk, by simpa using h.symm⟩
 ·rw [List.getElem?_eq_none hk] at h; cases h
def Sl (w : World) (A : Option Addr) (n c : Nat) (l : List Nat) : Prop := Reads w w.heap.size A n (u32s l) ∧ n ≤ c ∧ Lm.ok l
section
variable {w w' : World} {n c : Nat} {A : Option Addr} {l : List Nat}
theorem Sl.len (h : Sl w A n c l) : l.length = n := by have := h.1.1; unfold u32s at this; simpa using this
theorem Sl.cap (h : Sl w A n c l) : n ≤ c := h.2.1
theorem Sl.ok (h : Sl w A n c l) : Lm.ok l := h.2.2
theorem Sl.below (h : Sl w A n c l) (hb : Below w.heap.size w w') : Sl w' A n c l := ⟨(h.1.below hb).more hb.size, h.2⟩
theorem Sl.drewN (h : Sl w A n c l) (k : Nat) : Sl (w.drewN k) A n c l := h
theorem Sl.alloc (h : Sl w A n c l) (o : Obj) : Sl (w.alloc o) A n c l := h.below ((Below.refl _ _).alloc (Nat.le_refl _) o)
theorem Sl.take (h : Sl w A n c l) {k : Nat} (hk : k ≤ n) : Sl w A k c (l.take k) :=
 ⟨by have := h.1.take hk; unfold u32s at this ⊢; rwa [List.map_take], by have := h.cap; omega, Lm.ok_take h.ok k⟩
theorem Sl.nil : Sl w none 0 0 [] := ⟨Reads.nil, Nat.le_refl _, Lm.ok_nil⟩
theorem Sl.at_ (h : Sl w A n c l) {k : Nat} (hk : k < n) : ∃ ad, A = some ad ∧ ad.block < w.heap.size ∧ ∃ hl : k < l.length, w.cell? (ad.add k) = some (.int .u32 (l[k] : Nat)) ∧ l[k] < 4294967296 := by
 obtain ⟨ad, u, rfl, hb, hu, hc⟩ := h.1.at_ hk
 obtain ⟨hl, rfl⟩ := u32s_get hu
 exact ⟨ad, rfl, hb, hl, hc, h.ok _ (List.getElem_mem hl)⟩
theorem Sl.of_own {base : Nat} {e : TypeId} (h : w.ownsRow base e 1 (.slice A n c) n (u32s l)) (hc : n ≤ c) (hl : Lm.ok l) : Sl w A n c l := ⟨Reads.of_own h, hc, hl⟩
end
theorem own_form {w : World} {base : Nat} {e : TypeId} {v : Value} {n : Nat} {xs : List Value} (h : w.ownsRow base e 1 v n xs) : ∃ A c, v = .slice A n c ∧ n ≤ c := by
 rcases h.2 with ⟨rfl, rfl⟩ | ⟨g, cap, cur, rfl, _, _, hc, _⟩
 ·exact ⟨none, 0, rfl, Nat.le_refl _⟩
 ·exact ⟨_, cap, rfl, hc⟩
theorem own_ge {w : World} {base : Nat} {e : TypeId} {v : Value} {n : Nat} {xs : List Value} (h : w.ownsRow base e 1 v n xs) : ∀ k, v.ownBlock = some k → base ≤ k := fun k hk => (h.lt k hk).1
theorem made_u32 (n : Nat) : (madeCells #[Value.int .u32 0] n).toList = u32s (List.replicate n 0) := by
 apply List.ext_getElem?
 intro i
 unfold madeCells u32s
 simp only [Array.toList_map, Array.toList_range, List.getElem?_map, List.size_toArray, List.length_cons, List.length_nil, Nat.mod_one, List.getElem?_replicate, Nat.zero_add]
 by_cases h : i < n
 ·simp [h]
 ·simp [h]
theorem u32s_set (l : List Nat) (j d : Nat) : (u32s l).set j (.int .u32 (d : Int)) = u32s (l.set j d) := by
 unfold u32s; rw [List.map_set]
theorem own_store {w : World} {base : Nat} {e : TypeId} {g cap n : Nat} {out : List Nat} {j : Nat} {X : Int} (h : w.ownsRow base e 1 (.slice (some ⟨g, 0, none⟩) n cap) n (u32s out)) (d : Nat) (hd : X = (d : Int)) :
  (w.setCell ⟨g, j, none⟩ (.int .u32 X)).ownsRow base e 1 (.slice (some ⟨g, 0, none⟩) n cap) n (u32s (out.set j d)) := by
 subst hd
 have := (h.stored j (.int .u32 (d : Int))).1
 rwa [u32s_set] at this
theorem own_at {w : World} {base : Nat} {e : TypeId} {g cap n : Nat} {out : List Nat} (h : w.ownsRow base e 1 (.slice (some ⟨g, 0, none⟩) n cap) n (u32s out)) {j : Nat} (hj : j < out.length) :
  w.cell? ⟨g, j, none⟩ = some (.int .u32 (out[j] : Nat)) := by
 have hl : out.length = n := by have := h.1; unfold u32s at this; simpa using this
 rw [h.cellAt j (by omega)]
 unfold u32s
 rw [List.getElem?_map, List.getElem?_eq_getElem hj]; rfl
theorem reads_new (w : World) (t : TypeId) (xs : List Value) : Reads (w.alloc (.cells xs.toArray t)) (w.alloc (.cells xs.toArray t)).heap.size (some ⟨w.heap.size, 0, none⟩) xs.length xs := by
 refine ⟨rfl, fun _ => ⟨_, rfl, by simp, fun j u hu => ?_⟩⟩
 rw [Addr.add_lit, Nat.zero_add, cell_of_row _ w.heap.size j xs.toArray t (0, 0) (heap_alloc_new w _)]
 simpa using hu
theorem sl_new1 (w : World) (t : TypeId) (d : Nat) (hd : d < 4294967296) : Sl (w.alloc (.cells #[.int .u32 (d : Int)] t)) (some ⟨w.heap.size, 0, none⟩) 1 1 [d] :=
 ⟨reads_new w t [.int .u32 (d : Int)], Nat.le_refl _, Lm.ok_one hd⟩
theorem sl_new2 (w : World) (t : TypeId) (d d' : Nat) (hd : d < 4294967296) (hd' : d' < 4294967296) : Sl (w.alloc (.cells #[.int .u32 (d : Int), .int .u32 (d' : Int)] t)) (some ⟨w.heap.size, 0, none⟩) 2 2 [d, d'] :=
 ⟨reads_new w t [.int .u32 (d : Int), .int .u32 (d' : Int)], Nat.le_refl _, Lm.ok_append (Lm.ok_one hd) (Lm.ok_one hd')⟩
theorem trim_take (l : List Nat) : Lm.trim l = l.take (Lm.trim l).length := by
 induction l with
 | nil => rfl
 | cons x xs ih =>
  unfold Lm.trim
  split
  ·rfl
  ·simp only [List.length_cons, List.take_succ_cons]; rw [← ih]
theorem trim_len (l : List Nat) : (Lm.trim l).length ≤ l.length := by
 have := congrArg List.length (trim_take l)
 rw [List.length_take] at this; omega
theorem Sl.trim {w : World} {n c : Nat} {A : Option Addr} {l : List Nat} (h : Sl w A n c l) : Sl w A (Lm.trim l).length c (Lm.trim l) := by
 have := h.take (k := (Lm.trim l).length) (by rw [← h.len]; exact trim_len l)
 rwa [← trim_take] at this
theorem Sl.store {w : World} {n c : Nat} {A : Option Addr} {l : List Nat} (h : Sl w A n c l) {p : Addr} {u : Value} (v : Value) (hp : w.cell? p = some u) (hu : ∀ x, u ≠ .int .u32 x) : Sl (w.setCell p v) A n c l := by
 refine ⟨⟨h.1.1, fun h0 => ?_⟩, h.2⟩
 obtain ⟨ad, rfl, hb, hc⟩ := h.1.2 h0
 refine ⟨ad, rfl, by simpa [World.setCell] using hb, fun j x hx => ?_⟩
 have hcx := hc j x hx
 obtain ⟨_, rfl⟩ := u32s_get hx
 have hne : p ≠ ad.add j := by
  intro e
  rw [← e, hp] at hcx
  injection hcx with hcx
  exact hu _ hcx
 rw [World.cell?_setCell_other w p (ad.add j) v hne]
 exact hcx
/-! ### what a call leaves: a slice of limbs; a whole number -/
def sgnd (neg : Bool) (n : Nat) : Int := if neg then -(n : Int) else (n : Int)
def IsInt (w : World) (neg : Bool) (A : Option Addr) (n c : Nat) (z : Int) : Prop :=
 ∃ l, Sl w A n c l ∧ Lm.canon l ∧ (l = [] → neg = false) ∧ z = sgnd neg (Lm.lv l)
def RetInt (W : World) (z : Int) (e : Ending) (w' : World) : Prop :=
 ∃ neg A n c, e = .returned (.agg #[.bool neg, .slice A n c]) ∧ IsInt w' neg A n c z ∧ Below W.heap.size W w'
theorem IsInt.below {w w' : World} {neg : Bool} {A : Option Addr} {n c : Nat} {z : Int} (h : IsInt w neg A n c z) (hb : Below w.heap.size w w') : IsInt w' neg A n c z := by
 obtain ⟨l, h1, h2⟩ := h
 exact ⟨l, h1.below hb, h2⟩
theorem IsInt.store {w : World} {neg : Bool} {A : Option Addr} {n c : Nat} {z : Int} (h : IsInt w neg A n c z) {p : Addr} {u : Value} (v : Value) (hp : w.cell? p = some u) (hu : ∀ x, u ≠ .int .u32 x) : IsInt (w.setCell p v) neg A n c z := by
 obtain ⟨l, h1, h2⟩ := h
 exact ⟨l, h1.store v hp hu, h2⟩
theorem isInt_result {w : World} {neg : Bool} {A : Option Addr} {n c : Nat} {z : Int} {g : Nat} {b0 : Bool} {a0 : Option Addr} {n0 c0 : Nat} (h : IsInt w neg A n c z)
  (h0 : w.cell? ⟨g, 0, none⟩ = some (.bool b0)) (h1 : w.cell? ⟨g, 1, none⟩ = some (.slice a0 n0 c0)) (u v : Value) :
  IsInt ((w.setCell ⟨g, 0, none⟩ u).setCell ⟨g, 1, none⟩ v) neg A n c z := by
 refine (h.store u h0 (by intro x e; cases e)).store v (p := ⟨g, 1, none⟩) (u := .slice a0 n0 c0) ?_ (by intro x e; cases e)
 rw [World.cell?_setCell_other w ⟨g, 0, none⟩ ⟨g, 1, none⟩ u (by intro e; injection e with _ e2; cases e2)]
 exact h1
theorem below_result {B : Nat} {a w : World} {g : Nat} (h : Below B a w) (hg : B ≤ g) (u v : Value) : Below B a ((w.setCell ⟨g, 0, none⟩ u).setCell ⟨g, 1, none⟩ v) :=
 (h.setCell (p := ⟨g, 0, none⟩) hg u).setCell (p := ⟨g, 1, none⟩) hg v
end Go.Proofs.YtgekmbfmfiikkaaGreatDoor
/-! append onto a row of the call's own, the source nil, empty or not (a kit's small lemma, copied as its page bids, for elements of one cell). -/
namespace Go.Proofs.YtgekmbfmfiikkaaGreatDoor
open Go.RowKit
section
variable {P : Program} (w : World)
theorem run_append_of_nil (base : Nat) (t ty e : TypeId) (i : TypeInfo) (ht : P.underlying t = some (.slice e)) (hi : P.info? e = some i)
  (v : Value) (n : Nat) (xs : List Value) (hown : w.ownsRow base e 1 v n xs) (c : Nat) : (Builtin.append_ #[t, t] ty #[v, .slice none 0 c]).run P w = .ok v w := by
 rcases hown.2 with ⟨rfl, rfl⟩ | ⟨g, cap, cur, rfl, _, _, hnc, _⟩
 ·simp [Builtin.append_, run_underlying ht, sizeOf, typeInfo, hi, Builtin.lenOf, Builtin.firstCells]
 ·simp [Builtin.append_, run_underlying ht, sizeOf, typeInfo, hi, Builtin.lenOf, Builtin.firstCells, hnc, storeCells]
theorem run_append_any (base : Nat) (t ty e : TypeId) (i : TypeInfo) (z : Value) (bytes : Nat) (ht : P.underlying t = some (.slice e)) (hi : P.info? e = some i) (hz : i.zero = some z)
  (hsize : i.size = 1) (hby : i.bytes = bytes) (hzs : z.cells.size = 1)
  (v : Value) (n : Nat) (xs : List Value) (hown : w.ownsRow base e 1 v n xs)
  (B : Nat) (A : Option Addr) (m c : Nat) (news : List Value) (hr : Reads w B A m news) (h1 : ∀ u ∈ news, u.oneCell' = true)
  (h63 : n + m ≤ maxLen) (hbytes : (n + m) * bytes ≤ 140737488355328) (hbase : base ≤ w.heap.size) :
  ∃ v' w', (Builtin.append_ #[t, t] ty #[v, .slice A m c]).run P w = .ok v' w' ∧ w'.ownsRow base e 1 v' (n + m) (xs ++ news) ∧ w.grownBy w' v.ownBlock ∧
   (v'.ownBlock = v.ownBlock ∨ v'.ownBlock = some w.heap.size) := by
 rcases A with _ | ad
 ·have hm : m = 0 := by
   rcases Nat.eq_zero_or_pos m with h0 | h0
   ·exact h0
   ·obtain ⟨ad, h, _⟩ := hr.2 h0
    cases h
  subst hm
  have hn : news = [] := List.eq_nil_of_length_eq_zero hr.1
  subst hn
  exact ⟨v, w, run_append_of_nil w base t ty e i ht hi v n xs hown c, by simpa using hown, World.grownBy.refl w _, .inl rfl⟩
 ·have hcells : ∀ j u, news[j]? = some u → w.cell? (ad.add j) = some u := by
   intro j u hu
   rcases Nat.eq_zero_or_pos m with h0 | h0
   ·subst h0
    have hn : news = [] := List.eq_nil_of_length_eq_zero hr.1
    subst hn
    simp at hu
   ·obtain ⟨ad', h, _, hc⟩ := hr.2 h0
    injection h with h
    subst h
    exact hc j u hu
  obtain ⟨v', w', hrun, h2, h3, _, h5⟩ := run_append_own_at (P := P) w base t ty e i z 1 bytes ht hi hz hsize hby hzs (by decide) v n xs hown ad m c news (by rw [hr.1, Nat.mul_one]) hcells h1 h63 hbytes hbase
  exact ⟨v', w', hrun, h2, h3, h5⟩
theorem wp_append_any {o : Oper} {a : Act} {K : Act → World → Prop} {Q : Exit → Act → World → Prop} (s x : Operand) (t : TypeId)
  (ho : o.op = .call { callee := .builtin .append, args := #[s, x], argTypes := #[t, t] })
  (base : Nat) (e : TypeId) (i : TypeInfo) (z : Value) (bytes : Nat) (ht : P.underlying t = some (.slice e)) (hi : P.info? e = some i) (hz : i.zero = some z)
  (hsize : i.size = 1) (hby : i.bytes = bytes) (hzs : z.cells.size = 1)
  (v : Value) (n : Nat) (xs : List Value) (hs : a.eval s = v) (hown : w.ownsRow base e 1 v n xs)
  (B : Nat) (A : Option Addr) (m c : Nat) (news : List Value) (hx : a.eval x = .slice A m c) (hr : Reads w B A m news) (h1 : ∀ u ∈ news, u.oneCell' = true)
  (h63 : n + m ≤ maxLen) (hbytes : (n + m) * bytes ≤ 140737488355328) (hbase : base ≤ w.heap.size)
  (h : ∀ v' w', w'.ownsRow base e 1 v' (n + m) (xs ++ news) → w.grownBy w' v.ownBlock → (v'.ownBlock = v.ownBlock ∨ v'.ownBlock = some w.heap.size) → K (a.put o.dst v') w') : o.wp P a w K Q := by
 obtain ⟨v', w', hrun, h2, h3, h4⟩ := run_append_any (P := P) w base t o.type e i z bytes ht hi hz hsize hby hzs v n xs hown B A m c news hr h1 h63 hbytes hbase
 unfold Oper.wp execOp
 simp only [ho, resolve, invoke, builtin, Sem.run_bind, Sem.run_pure, Result.andThen_ok, List.map_toArray, List.map_cons, List.map_nil, hs, hx, hrun]
 exact h v' w' h2 h3 h4
theorem wpList_append_any {ops : Array Oper} {rest : List Oper} {o : Oper} {a : Act} {Q : Exit → Act → World → Prop} (hgd : o.guard = none) (s x : Operand) (t : TypeId)
  (ho : o.op = .call { callee := .builtin .append, args := #[s, x], argTypes := #[t, t] })
  (base : Nat) (e : TypeId) (i : TypeInfo) (z : Value) (bytes : Nat) (ht : P.underlying t = some (.slice e)) (hi : P.info? e = some i) (hz : i.zero = some z)
  (hsize : i.size = 1) (hby : i.bytes = bytes) (hzs : z.cells.size = 1)
  (v : Value) (n : Nat) (xs : List Value) (hs : a.eval s = v) (hown : w.ownsRow base e 1 v n xs)
  (B : Nat) (A : Option Addr) (m c : Nat) (news : List Value) (hx : a.eval x = .slice A m c) (hr : Reads w B A m news) (h1 : ∀ u ∈ news, u.oneCell' = true)
  (h63 : n + m ≤ maxLen) (hbytes : (n + m) * bytes ≤ 140737488355328) (hbase : base ≤ w.heap.size)
  (h : ∀ v' w', w'.ownsRow base e 1 v' (n + m) (xs ++ news) → w.grownBy w' v.ownBlock → (v'.ownBlock = v.ownBlock ∨ v'.ownBlock = some w.heap.size) → wpList P ops Q rest (a.put o.dst v') w') : wpList P ops Q (o :: rest) a w :=
 wpList_plain hgd fun _ hK => wp_append_any w s x t ho base e i z bytes ht hi hz hsize hby hzs v n xs hs hown B A m c news hx hr h1 h63 hbytes hbase fun v' w' h2 h3 h4 => hK _ _ (h v' w' h2 h3 h4)
end
theorem u32s_one (l : List Nat) : ∀ u ∈ u32s l, u.oneCell' = true := by
 intro u hu
 unfold u32s at hu
 obtain ⟨_, _, rfl⟩ := List.mem_map.1 hu
 rfl
theorem mE {α : Type} {l : List α} {a : α} (i : Nat) (h : l[i]? = some a) : a ∈ l := List.mem_of_getElem? h
theorem nq {a b : Nat} (h : a ≠ b) : ¬ a = b ∧ ¬ b = a := ⟨h, fun e => h e.symm⟩
theorem hszA {w : World} {o : Obj} : (w.alloc o).heap.size = w.heap.size + 1 := by simp
end Go.Proofs.YtgekmbfmfiikkaaGreatDoor
