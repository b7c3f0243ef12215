/-
  Limbs, plainly; laws that all walks share; words for memory.
-/
import Derived.Test.YtpnhjgjojnchaaaGreatDoorFlt
import Derived.Test.YtpnhjgjojnchaaaGreatDoorChecked
import Derived.WalkKit
import Derived.WalkSpells
import Derived.WalkLawsBesides
import Derived.Deep.QuietTactic
import Derived.BigQuiet
import Derived.Lib.Hide
import Derived.Laws.OwnMore
import Derived.Deep.AppendLies
import Derived.Maps.AppendAt
import Derived.Deep.Draws
import Derived.RegionTactic
import Derived.OwnWalk
namespace Go.Proofs.YtpnhjgjojnchaaaGreatDoor.Lm

/-- The base of the limbs. -/
abbrev B : Nat := 4294967296

def lv : List Nat → Nat
  | [] => 0
  | x :: xs => x + B * lv xs

def ok (l : List Nat) : Prop := ∀ x ∈ l, x < B

theorem ok_nil : ok [] := by intro x h; cases h
/-- The last limb is not nought. -/
def canon (l : List Nat) : Prop := ∀ h : l ≠ [], l.getLast h ≠ 0
end Go.Proofs.YtpnhjgjojnchaaaGreatDoor.Lm

/-! Laws that the walks of this seat share: float operations, whose result may be no number of unknown bits; body-less functions of package math. -/
namespace Go.Proofs.YtpnhjgjojnchaaaGreatDoor
open Go.RowKit

/-! ### a float operation -/
section
variable {P : Program} (w : World)

/-- What an operation on floats may give. -/
def IsOp (f : Nat → Nat → Option Nat) (x y z : Nat) : Prop := z < 2 ^ 64 ∧ (match f x y with | some r => z = r | none => Flt.Nan z)

end

/-! ### body-less functions -/
theorem float64bits_run (x : Nat) (w : World) : (callFunc 204 #[.float .f64 x]).run Tryz.prog w = .ok (.value (.int .u64 x)) w := by
  rw [run_callFunc_extern Tryz.func204 (by kernel_rfl) (by kernel_rfl) (by kernel_rfl) (e := Extern.MathFloatBits.float64bits) (by kernel_rfl)]; rfl
theorem float64frombits_run (n : Int) (w : World) : (callFunc 325 #[.int .u64 n]).run Tryz.prog w = .ok (.value (.float .f64 n.toNat)) w := by
  rw [run_callFunc_extern Tryz.func325 (by kernel_rfl) (by kernel_rfl) (by kernel_rfl) (e := Extern.MathFloatBits.float64frombits) (by kernel_rfl)]; rfl
attribute [go_sem] float64bits_run
attribute [go_sem] float64frombits_run

theorem f64_format : FloatKind.f64.format = Ieee.double := rfl
attribute [go_sem] f64_format

theorem isNaN_any (x : Nat) (w : World) : Calls Tryz.prog 167 #[.float .f64 x] w fun e w' => e = .returned (.bool (Flt.nanB x)) ∧ w = w' := by
  go_enter Tryz.func167, Tryz.ntmps167
  go_wp2
  go_ret
  exact ⟨by rw [← Flt.order_self]; rfl, rfl⟩

/-- The opposite of a float, as the model reckons it. -/
def neg64 (b : Nat) : Nat := b ^^^ 2 ^ 63
theorem unary_negf (b : Nat) : Op.unary .neg (.float .f64 b) = pure (.float .f64 (neg64 b)) := rfl
attribute [go_sem] unary_negf

theorem andNot_sign (x : Nat) (h : x < 2 ^ 64) : (bits .andNot .u64 (x : Int) 9223372036854775808).toNat = Flt.rg x := by
  have := u64_andNot_nat x 9223372036854775808 (by omega) (by omega)
  rw [show ((9223372036854775808 : Nat) : Int) = 9223372036854775808 from rfl] at this
  rw [this]
  exact Nat.and_two_pow_sub_one_eq_mod x 63

theorem abs_any (x : Nat) (h : x < 2 ^ 64) (w : World) : Calls Tryz.prog 267 #[.float .f64 x] w fun e w' => e = .returned (.float .f64 (Flt.rg x)) ∧ w = w' := by
  go_enter Tryz.func267, Tryz.ntmps267
  go_wp2
  go_ret
  exact ⟨by rw [← andNot_sign x h]; rfl, rfl⟩

theorem isInf0_any (x : Nat) (h : x < 2 ^ 64) (w : World) : Calls Tryz.prog 166 #[.float .f64 x, .int .i64 0] w fun e w' => e = .returned (.bool (Flt.infB x)) ∧ w = w' := by
  go_enter Tryz.func166, Tryz.ntmps166
  go_wp2_with (go_at_call 267; refine (abs_any _ h _).mono ?_; rintro e w' ⟨rfl, rfl⟩)
  go_ret
  refine ⟨?_, rfl⟩
  have e1 := Flt.order_max (Flt.rg x)
  rw [Flt.sgn_rg] at e1
  unfold Flt.infB at e1 ⊢
  rw [Flt.rg_abs] at e1
  simp at e1 ⊢
  exact e1
end Go.Proofs.YtpnhjgjojnchaaaGreatDoor

/-! Words for memory that the walks share: a slice that reads as a list, limbs, whole numbers in memory; what a call leaves. -/
namespace Go.Proofs.YtpnhjgjojnchaaaGreatDoor
open Go.RowKit

theorem block_of_add (a : Addr) (n : Nat) : (a.add n).block = a.block := by unfold Addr.add; split <;> rfl
theorem bcell {W w1 : World} (hb : Below W.heap.size W w1) : (∀ b o, b < W.heap.size → w1.cell? ⟨b, o, none⟩ = W.cell? ⟨b, o, none⟩) ∧ (∀ b o, b < W.heap.size → w1.frozen? ⟨b, o, none⟩ = W.frozen? ⟨b, o, none⟩) :=
  ⟨fun b o h => hb.cell (p := ⟨b, o, none⟩) h, fun b o h => hb.frozen (p := ⟨b, o, none⟩) h⟩
theorem below_drewN {B : Nat} {a w : World} (h : Below B a w) (n : Nat) : Below B a (w.drewN n) := ⟨h.os, h.tape, h.output, h.size, h.block⟩

/-- Behind a box of the call's own. -/
theorem below_box {w w' : World} {o : Obj} (h : Below (w.alloc o).heap.size (w.alloc o) w') : Below w.heap.size w w' :=
  ((Below.refl _ _).alloc (Nat.le_refl _) _).trans (h.mono (by simp))
theorem below_next {w w1 w2 : World} (h : Below w.heap.size w w1) (k : Below w1.heap.size w1 w2) : Below w.heap.size w w2 := h.trans (k.mono h.size)

theorem below_of_drew {B : Nat} {a w : World} (h : Below B a.drew w) : Below B a w := ⟨h.os, h.tape, h.output, h.size, h.block⟩
theorem below_of_drewN {B k : Nat} {a w : World} (h : Below B (a.drewN k) w) : Below B a w := ⟨h.os, h.tape, h.output, h.size, h.block⟩

/-- The slice of n one-cell elements at A reads as the cells xs, all of them in blocks below B. -/
def Reads (w : World) (B : Nat) (A : Option Addr) (n : Nat) (xs : List Value) : Prop :=
  xs.length = n ∧ (0 < n → ∃ ad, A = some ad ∧ ad.block < B ∧ ∀ j u, xs[j]? = some u → w.cell? (ad.add j) = some u)

section
variable {w w' : World} {B B' n : Nat} {A : Option Addr} {xs : List Value}
theorem Reads.nil : Reads w B A 0 [] := ⟨rfl, fun h => absurd h (by omega)⟩
theorem Reads.at_ {k : Nat} (h : Reads w B A n xs) (hk : k < n) : ∃ ad u, A = some ad ∧ ad.block < B ∧ xs[k]? = some u ∧ w.cell? (ad.add k) = some u := by
  obtain ⟨ad, e, hb, hc⟩ := h.2 (by omega)
  have hl : k < xs.length := by have := h.1; omega
  exact ⟨ad, xs[k], e, hb, List.getElem?_eq_getElem hl, hc k _ (List.getElem?_eq_getElem hl)⟩
theorem Reads.keep (h : Reads w B A n xs) (hk : ∀ p : Addr, p.block < B → w'.cell? p = w.cell? p) : Reads w' B A n xs :=
  ⟨h.1, fun hn => by
    obtain ⟨ad, e, hb, hc⟩ := h.2 hn
    exact ⟨ad, e, hb, fun j u hu => (hk _ (by rw [block_of_add]; exact hb)).trans (hc j u hu)⟩⟩
theorem Reads.more (h : Reads w B A n xs) (hB : B ≤ B') : Reads w B' A n xs :=
  ⟨h.1, fun hn => by
    obtain ⟨ad, e, hb, hc⟩ := h.2 hn
    exact ⟨ad, e, by omega, hc⟩⟩
theorem Reads.below (h : Reads w B A n xs) (hb : Below B w w') : Reads w' B A n xs := h.keep fun _ hp => hb.cell hp
end

/-! ### limbs -/
def u32s (l : List Nat) : List Value := l.map fun (x : Nat) => Value.int .u32 (x : Int)
theorem u32s_get {l : List Nat} {k : Nat} {u : Value} (h : (u32s l)[k]? = some u) : ∃ hk : k < l.length, u = .int .u32 (l[k] : Nat) := by
  unfold u32s at h
  rw [List.getElem?_map] at h
  rcases Nat.lt_or_ge k l.length with hk | hk
  · rw [List.getElem?_eq_getElem hk] at h
    exact ⟨hk, by simpa using h.symm⟩
  · rw [List.getElem?_eq_none hk] at h; cases h

/-- The slice value reads as limbs. -/
def Sl (w : World) (A : Option Addr) (n c : Nat) (l : List Nat) : Prop := Reads w w.heap.size A n (u32s l) ∧ n ≤ c ∧ Lm.ok l

section
variable {w w' : World} {n c : Nat} {A : Option Addr} {l : List Nat}
theorem Sl.cap (h : Sl w A n c l) : n ≤ c := h.2.1
theorem Sl.ok (h : Sl w A n c l) : Lm.ok l := h.2.2
theorem Sl.below (h : Sl w A n c l) (hb : Below w.heap.size w w') : Sl w' A n c l := ⟨(h.1.below hb).more hb.size, h.2⟩
theorem Sl.drewN (h : Sl w A n c l) (k : Nat) : Sl (w.drewN k) A n c l := h
theorem Sl.alloc (h : Sl w A n c l) (o : Obj) : Sl (w.alloc o) A n c l := h.below ((Below.refl _ _).alloc (Nat.le_refl _) o)
theorem Sl.nil : Sl w none 0 0 [] := ⟨Reads.nil, Nat.le_refl _, Lm.ok_nil⟩
theorem Sl.at_ (h : Sl w A n c l) {k : Nat} (hk : k < n) : ∃ ad, A = some ad ∧ ad.block < w.heap.size ∧ ∃ hl : k < l.length, w.cell? (ad.add k) = some (.int .u32 (l[k] : Nat)) ∧ l[k] < 4294967296 := by
  obtain ⟨ad, u, rfl, hb, hu, hc⟩ := h.1.at_ hk
  obtain ⟨hl, rfl⟩ := u32s_get hu
  exact ⟨ad, rfl, hb, hl, hc, h.ok _ (List.getElem_mem hl)⟩
end

theorem reads_new (w : World) (t : TypeId) (xs : List Value) : Reads (w.alloc (.cells xs.toArray t)) (w.alloc (.cells xs.toArray t)).heap.size (some ⟨w.heap.size, 0, none⟩) xs.length xs := by
  refine ⟨rfl, fun _ => ⟨_, rfl, by simp, fun j u hu => ?_⟩⟩
  rw [Addr.add_lit, Nat.zero_add, cell_of_row _ w.heap.size j xs.toArray t (0, 0) (heap_alloc_new w _)]
  simpa using hu
/-- A store into a cell that holds no limb. -/
theorem Sl.store {w : World} {n c : Nat} {A : Option Addr} {l : List Nat} (h : Sl w A n c l) {p : Addr} {u : Value} (v : Value) (hp : w.cell? p = some u) (hu : ∀ x, u ≠ .int .u32 x) : Sl (w.setCell p v) A n c l := by
  refine ⟨⟨h.1.1, fun h0 => ?_⟩, h.2⟩
  obtain ⟨ad, rfl, hb, hc⟩ := h.1.2 h0
  refine ⟨ad, rfl, by simpa [World.setCell] using hb, fun j x hx => ?_⟩
  have hcx := hc j x hx
  obtain ⟨_, rfl⟩ := u32s_get hx
  have hne : p ≠ ad.add j := by
    intro e
    rw [← e, hp] at hcx
    injection hcx with hcx
    exact hu _ hcx
  rw [World.cell?_setCell_other w p (ad.add j) v hne]
  exact hcx

/-! ### what a call leaves: a slice of limbs; a whole number -/
/-- A number of a sign and a size. -/
def sgnd (neg : Bool) (n : Nat) : Int := if neg then -(n : Int) else (n : Int)
/-- The value is a whole number in memory. -/
def IsInt (w : World) (neg : Bool) (A : Option Addr) (n c : Nat) (z : Int) : Prop :=
  ∃ l, Sl w A n c l ∧ Lm.canon l ∧ (l = [] → neg = false) ∧ z = sgnd neg (Lm.lv l)
theorem IsInt.below {w w' : World} {neg : Bool} {A : Option Addr} {n c : Nat} {z : Int} (h : IsInt w neg A n c z) (hb : Below w.heap.size w w') : IsInt w' neg A n c z := by
  obtain ⟨l, h1, h2⟩ := h
  exact ⟨l, h1.below hb, h2⟩
theorem IsInt.store {w : World} {neg : Bool} {A : Option Addr} {n c : Nat} {z : Int} (h : IsInt w neg A n c z) {p : Addr} {u : Value} (v : Value) (hp : w.cell? p = some u) (hu : ∀ x, u ≠ .int .u32 x) : IsInt (w.setCell p v) neg A n c z := by
  obtain ⟨l, h1, h2⟩ := h
  exact ⟨l, h1.store v hp hu, h2⟩
end Go.Proofs.YtpnhjgjojnchaaaGreatDoor

/-! append onto a row of the call's own, the source nil, empty or not (a kit's small lemma, copied as its page bids, for elements of one cell). -/
namespace Go.Proofs.YtpnhjgjojnchaaaGreatDoor
open Go.RowKit
section
variable {P : Program} (w : World)

end

end Go.Proofs.YtpnhjgjojnchaaaGreatDoor
