/-
  Words for memory that the walks share: a slice that reads as a list, limbs, whole numbers in memory; what a call leaves.
-/
import Derived.Test.YthddodhcpfponaaBase
import Derived.Laws.OwnMore
import Derived.Deep.AppendLies
import Derived.Maps.AppendAt
import Derived.Deep.Draws
namespace Go.Proofs.Ythddodhcpfponaa
open Go.RowKit

theorem block_of_add (a : Addr) (n : Nat) : (a.add n).block = a.block := by unfold Addr.add; split <;> rfl
theorem add_of_add (a : Addr) (i j : Nat) : (a.add i).add j = a.add (i + j) := by
  unfold Addr.add
  by_cases hi : i = 0 <;> by_cases hj : j = 0 <;> simp [hi, hj, Nat.add_assoc]

theorem bcell {W w1 : World} (hb : Below W.heap.size W w1) : (∀ b o, b < W.heap.size → w1.cell? ⟨b, o, none⟩ = W.cell? ⟨b, o, none⟩) ∧ (∀ b o, b < W.heap.size → w1.frozen? ⟨b, o, none⟩ = W.frozen? ⟨b, o, none⟩) :=
  ⟨fun b o h => hb.cell (p := ⟨b, o, none⟩) h, fun b o h => hb.frozen (p := ⟨b, o, none⟩) h⟩
theorem below_drewN {B : Nat} {a w : World} (h : Below B a w) (n : Nat) : Below B a (w.drewN n) := ⟨h.os, h.tape, h.output, h.size, h.block⟩

theorem drew2 (w : World) (a b : Nat) : (w.drewN a).drewN b = w.drewN (a + b) := World.drewN_drewN _ _ _
theorem drew3 (w : World) (a b c : Nat) : ((w.drewN a).drewN b).drewN c = w.drewN (a + b + c) := by rw [drew2, drew2, Nat.add_assoc]

/-- Behind a box of the call's own. -/
theorem below_box {w w' : World} {o : Obj} (h : Below (w.alloc o).heap.size (w.alloc o) w') : Below w.heap.size w w' :=
  ((Below.refl _ _).alloc (Nat.le_refl _) _).trans (h.mono (by simp))
theorem below_box2 {w w' : World} {o o' : Obj} (h : Below ((w.alloc o).alloc o').heap.size ((w.alloc o).alloc o') w') : Below w.heap.size w w' := below_box (below_box h)
theorem below_next {w w1 w2 : World} (h : Below w.heap.size w w1) (k : Below w1.heap.size w1 w2) : Below w.heap.size w w2 := h.trans (k.mono h.size)

theorem below_of_drew {B : Nat} {a w : World} (h : Below B a.drew w) : Below B a w := ⟨h.os, h.tape, h.output, h.size, h.block⟩
theorem below_of_drewN {B k : Nat} {a w : World} (h : Below B (a.drewN k) w) : Below B a w := ⟨h.os, h.tape, h.output, h.size, h.block⟩

/-- The slice of n one-cell elements at A reads as the cells xs, all of them in blocks below B. -/
def Reads (w : World) (B : Nat) (A : Option Addr) (n : Nat) (xs : List Value) : Prop :=
  xs.length = n ∧ (0 < n → ∃ ad, A = some ad ∧ ad.block < B ∧ ∀ j u, xs[j]? = some u → w.cell? (ad.add j) = some u)

section
variable {w w' : World} {B B' n : Nat} {A : Option Addr} {xs : List Value}
theorem Reads.nil : Reads w B A 0 [] := ⟨rfl, fun h => absurd h (by omega)⟩
theorem Reads.at_ {k : Nat} (h : Reads w B A n xs) (hk : k < n) : ∃ ad u, A = some ad ∧ ad.block < B ∧ xs[k]? = some u ∧ w.cell? (ad.add k) = some u := by
  obtain ⟨ad, e, hb, hc⟩ := h.2 (by omega)
  have hl : k < xs.length := by have := h.1; omega
  exact ⟨ad, xs[k], e, hb, List.getElem?_eq_getElem hl, hc k _ (List.getElem?_eq_getElem hl)⟩
theorem Reads.keep (h : Reads w B A n xs) (hk : ∀ p : Addr, p.block < B → w'.cell? p = w.cell? p) : Reads w' B A n xs :=
  ⟨h.1, fun hn => by
    obtain ⟨ad, e, hb, hc⟩ := h.2 hn
    exact ⟨ad, e, hb, fun j u hu => (hk _ (by rw [block_of_add]; exact hb)).trans (hc j u hu)⟩⟩
theorem Reads.more (h : Reads w B A n xs) (hB : B ≤ B') : Reads w B' A n xs :=
  ⟨h.1, fun hn => by
    obtain ⟨ad, e, hb, hc⟩ := h.2 hn
    exact ⟨ad, e, by omega, hc⟩⟩
theorem Reads.below (h : Reads w B A n xs) (hb : Below B w w') : Reads w' B A n xs := h.keep fun _ hp => hb.cell hp
theorem Reads.take (h : Reads w B A n xs) {k : Nat} (hk : k ≤ n) : Reads w B A k (xs.take k) := by
  refine ⟨by rw [List.length_take, h.1]; omega, fun h0 => ?_⟩
  obtain ⟨ad, e, hb, hc⟩ := h.2 (by omega)
  refine ⟨ad, e, hb, fun j u hu => hc j u ?_⟩
  rw [List.getElem?_take] at hu
  split at hu
  · exact hu
  · cases hu
theorem Reads.cut (h : Reads w B A n xs) {k cap : Nat} (hk : k ≤ n) (hc : n ≤ cap) :
    Reads w B (if cap = k then A else A.map (·.add k)) (n - k) (xs.drop k) := by
  refine ⟨by rw [List.length_drop, h.1], fun hn => ?_⟩
  obtain ⟨ad, rfl, hb, hcell⟩ := h.2 (by omega)
  rw [if_neg (by omega)]
  refine ⟨ad.add k, rfl, by rw [block_of_add]; exact hb, fun j u hu => ?_⟩
  rw [add_of_add]
  exact hcell _ u (by rw [← hu, List.getElem?_drop])
theorem Reads.of_own {base : Nat} {e : TypeId} {c : Nat} (h : w.ownsRow base e 1 (.slice A n c) n xs) : Reads w w.heap.size A n xs := by
  refine ⟨by have := h.1; omega, fun hn => ?_⟩
  obtain ⟨g, cap, hv, _, hlt⟩ := h.form hn
  have hA : A = some ⟨g, 0, none⟩ := by injection hv
  subst hA
  exact ⟨_, rfl, hlt, h.cells (g := g) rfl⟩
end

/-- The length of a slice value. -/
def lenOf : Value → Nat | .slice _ n _ => n | _ => 0

/-! ### limbs -/
def u32s (l : List Nat) : List Value := l.map fun (x : Nat) => Value.int .u32 (x : Int)
theorem u32s_append (a b : List Nat) : u32s (a ++ b) = u32s a ++ u32s b := List.map_append
theorem u32s_get {l : List Nat} {k : Nat} {u : Value} (h : (u32s l)[k]? = some u) : ∃ hk : k < l.length, u = .int .u32 (l[k] : Nat) := by
  unfold u32s at h
  rw [List.getElem?_map] at h
  rcases Nat.lt_or_ge k l.length with hk | hk
  · rw [List.getElem?_eq_getElem hk] at h
    exact ⟨hk, by simpa using h.symm⟩
  · rw [List.getElem?_eq_none hk] at h; cases h

/-- The slice value reads as limbs. -/
def Sl (w : World) (A : Option Addr) (n c : Nat) (l : List Nat) : Prop := Reads w w.heap.size A n (u32s l) ∧ n ≤ c ∧ Lm.ok l

section
variable {w w' : World} {n c : Nat} {A : Option Addr} {l : List Nat}
theorem Sl.len (h : Sl w A n c l) : l.length = n := by have := h.1.1; unfold u32s at this; simpa using this
theorem Sl.cap (h : Sl w A n c l) : n ≤ c := h.2.1
theorem Sl.ok (h : Sl w A n c l) : Lm.ok l := h.2.2
theorem Sl.below (h : Sl w A n c l) (hb : Below w.heap.size w w') : Sl w' A n c l := ⟨(h.1.below hb).more hb.size, h.2⟩
theorem Sl.drewN (h : Sl w A n c l) (k : Nat) : Sl (w.drewN k) A n c l := h
theorem Sl.alloc (h : Sl w A n c l) (o : Obj) : Sl (w.alloc o) A n c l := h.below ((Below.refl _ _).alloc (Nat.le_refl _) o)
theorem Sl.take (h : Sl w A n c l) {k : Nat} (hk : k ≤ n) : Sl w A k c (l.take k) :=
  ⟨by have := h.1.take hk; unfold u32s at this ⊢; rwa [List.map_take], by have := h.cap; omega, Lm.ok_take h.ok k⟩
theorem Sl.nil : Sl w none 0 0 [] := ⟨Reads.nil, Nat.le_refl _, Lm.ok_nil⟩
theorem Sl.at_ (h : Sl w A n c l) {k : Nat} (hk : k < n) : ∃ ad, A = some ad ∧ ad.block < w.heap.size ∧ ∃ hl : k < l.length, w.cell? (ad.add k) = some (.int .u32 (l[k] : Nat)) ∧ l[k] < 4294967296 := by
  obtain ⟨ad, u, rfl, hb, hu, hc⟩ := h.1.at_ hk
  obtain ⟨hl, rfl⟩ := u32s_get hu
  exact ⟨ad, rfl, hb, hl, hc, h.ok _ (List.getElem_mem hl)⟩
theorem Sl.of_own {base : Nat} {e : TypeId} (h : w.ownsRow base e 1 (.slice A n c) n (u32s l)) (hc : n ≤ c) (hl : Lm.ok l) : Sl w A n c l := ⟨Reads.of_own h, hc, hl⟩
end

theorem own_form {w : World} {base : Nat} {e : TypeId} {v : Value} {n : Nat} {xs : List Value} (h : w.ownsRow base e 1 v n xs) : ∃ A c, v = .slice A n c ∧ n ≤ c := by
  rcases h.2 with ⟨rfl, rfl⟩ | ⟨g, cap, cur, rfl, _, _, hc, _⟩
  · exact ⟨none, 0, rfl, Nat.le_refl _⟩
  · exact ⟨_, cap, rfl, hc⟩
theorem own_snoc {w : World} {base : Nat} {e : TypeId} {v : Value} {n : Nat} {out : List Nat} {X : Int} {d : Nat} (h : w.ownsRow base e 1 v n (u32s out ++ [.int .u32 X])) (hd : X = (d : Int)) : w.ownsRow base e 1 v n (u32s (out ++ [d])) := by
  subst hd; rw [u32s_append]; exact h
theorem own_ge {w : World} {base : Nat} {e : TypeId} {v : Value} {n : Nat} {xs : List Value} (h : w.ownsRow base e 1 v n xs) : ∀ k, v.ownBlock = some k → base ≤ k := fun k hk => (h.lt k hk).1

theorem made_u32 (n : Nat) : (madeCells #[Value.int .u32 0] n).toList = u32s (List.replicate n 0) := by
  apply List.ext_getElem?
  intro i
  unfold madeCells u32s
  simp only [Array.toList_map, Array.toList_range, List.getElem?_map, List.size_toArray, List.length_cons, List.length_nil, Nat.mod_one, List.getElem?_replicate, Nat.zero_add]
  by_cases h : i < n
  · simp [h]
  · simp [h]
theorem u32s_set (l : List Nat) (j d : Nat) : (u32s l).set j (.int .u32 (d : Int)) = u32s (l.set j d) := by
  unfold u32s; rw [List.map_set]
theorem own_store {w : World} {base : Nat} {e : TypeId} {g cap n : Nat} {out : List Nat} {j : Nat} {X : Int} (h : w.ownsRow base e 1 (.slice (some ⟨g, 0, none⟩) n cap) n (u32s out)) (d : Nat) (hd : X = (d : Int)) :
    (w.setCell ⟨g, j, none⟩ (.int .u32 X)).ownsRow base e 1 (.slice (some ⟨g, 0, none⟩) n cap) n (u32s (out.set j d)) := by
  subst hd
  have := (h.stored j (.int .u32 (d : Int))).1
  rwa [u32s_set] at this
theorem own_at {w : World} {base : Nat} {e : TypeId} {g cap n : Nat} {out : List Nat} (h : w.ownsRow base e 1 (.slice (some ⟨g, 0, none⟩) n cap) n (u32s out)) {j : Nat} (hj : j < out.length) :
    w.cell? ⟨g, j, none⟩ = some (.int .u32 (out[j] : Nat)) := by
  have hl : out.length = n := by have := h.1; unfold u32s at this; simpa using this
  rw [h.cellAt j (by omega)]
  unfold u32s
  rw [List.getElem?_map, List.getElem?_eq_getElem hj]; rfl

theorem reads_new (w : World) (t : TypeId) (xs : List Value) : Reads (w.alloc (.cells xs.toArray t)) (w.alloc (.cells xs.toArray t)).heap.size (some ⟨w.heap.size, 0, none⟩) xs.length xs := by
  refine ⟨rfl, fun _ => ⟨_, rfl, by simp, fun j u hu => ?_⟩⟩
  rw [Addr.add_lit, Nat.zero_add, cell_of_row _ w.heap.size j xs.toArray t (0, 0) (heap_alloc_new w _)]
  simpa using hu
theorem sl_new1 (w : World) (t : TypeId) (d : Nat) (hd : d < 4294967296) : Sl (w.alloc (.cells #[.int .u32 (d : Int)] t)) (some ⟨w.heap.size, 0, none⟩) 1 1 [d] :=
  ⟨reads_new w t [.int .u32 (d : Int)], Nat.le_refl _, Lm.ok_one hd⟩
theorem sl_new2 (w : World) (t : TypeId) (d d' : Nat) (hd : d < 4294967296) (hd' : d' < 4294967296) : Sl (w.alloc (.cells #[.int .u32 (d : Int), .int .u32 (d' : Int)] t)) (some ⟨w.heap.size, 0, none⟩) 2 2 [d, d'] :=
  ⟨reads_new w t [.int .u32 (d : Int), .int .u32 (d' : Int)], Nat.le_refl _, Lm.ok_append (Lm.ok_one hd) (Lm.ok_one hd')⟩

theorem trim_take (l : List Nat) : Lm.trim l = l.take (Lm.trim l).length := by
  induction l with
  | nil => rfl
  | cons x xs ih =>
    unfold Lm.trim
    split
    · rfl
    · simp only [List.length_cons, List.take_succ_cons]; rw [← ih]
theorem trim_len (l : List Nat) : (Lm.trim l).length ≤ l.length := by
  have := congrArg List.length (trim_take l)
  rw [List.length_take] at this; omega
theorem Sl.trim {w : World} {n c : Nat} {A : Option Addr} {l : List Nat} (h : Sl w A n c l) : Sl w A (Lm.trim l).length c (Lm.trim l) := by
  have := h.take (k := (Lm.trim l).length) (by rw [← h.len]; exact trim_len l)
  rwa [← trim_take] at this

/-- A store into a cell that holds no limb. -/
theorem Sl.store {w : World} {n c : Nat} {A : Option Addr} {l : List Nat} (h : Sl w A n c l) {p : Addr} {u : Value} (v : Value) (hp : w.cell? p = some u) (hu : ∀ x, u ≠ .int .u32 x) : Sl (w.setCell p v) A n c l := by
  refine ⟨⟨h.1.1, fun h0 => ?_⟩, h.2⟩
  obtain ⟨ad, rfl, hb, hc⟩ := h.1.2 h0
  refine ⟨ad, rfl, by simpa [World.setCell] using hb, fun j x hx => ?_⟩
  have hcx := hc j x hx
  obtain ⟨_, rfl⟩ := u32s_get hx
  have hne : p ≠ ad.add j := by
    intro e
    rw [← e, hp] at hcx
    injection hcx with hcx
    exact hu _ hcx
  rw [World.cell?_setCell_other w p (ad.add j) v hne]
  exact hcx

/-! ### what a call leaves: a slice of limbs; a whole number -/
def RetLimbs (W : World) (P : List Nat → Prop) (e : Ending) (w' : World) : Prop :=
  ∃ A n c l, e = .returned (.slice A n c) ∧ Sl w' A n c l ∧ P l ∧ Below W.heap.size W w'

/-- A number of a sign and a size. -/
def sgnd (neg : Bool) (n : Nat) : Int := if neg then -(n : Int) else (n : Int)
/-- The value is a whole number in memory. -/
def IsInt (w : World) (neg : Bool) (A : Option Addr) (n c : Nat) (z : Int) : Prop :=
  ∃ l, Sl w A n c l ∧ Lm.canon l ∧ (l = [] → neg = false) ∧ z = sgnd neg (Lm.lv l)
def RetInt (W : World) (z : Int) (e : Ending) (w' : World) : Prop :=
  ∃ neg A n c, e = .returned (.agg #[.bool neg, .slice A n c]) ∧ IsInt w' neg A n c z ∧ Below W.heap.size W w'
theorem IsInt.below {w w' : World} {neg : Bool} {A : Option Addr} {n c : Nat} {z : Int} (h : IsInt w neg A n c z) (hb : Below w.heap.size w w') : IsInt w' neg A n c z := by
  obtain ⟨l, h1, h2⟩ := h
  exact ⟨l, h1.below hb, h2⟩
theorem IsInt.store {w : World} {neg : Bool} {A : Option Addr} {n c : Nat} {z : Int} (h : IsInt w neg A n c z) {p : Addr} {u : Value} (v : Value) (hp : w.cell? p = some u) (hu : ∀ x, u ≠ .int .u32 x) : IsInt (w.setCell p v) neg A n c z := by
  obtain ⟨l, h1, h2⟩ := h
  exact ⟨l, h1.store v hp hu, h2⟩
/-- A whole number stored into the cells of a result. -/
theorem isInt_result {w : World} {neg : Bool} {A : Option Addr} {n c : Nat} {z : Int} {g : Nat} {b0 : Bool} {a0 : Option Addr} {n0 c0 : Nat} (h : IsInt w neg A n c z)
    (h0 : w.cell? ⟨g, 0, none⟩ = some (.bool b0)) (h1 : w.cell? ⟨g, 1, none⟩ = some (.slice a0 n0 c0)) (u v : Value) :
    IsInt ((w.setCell ⟨g, 0, none⟩ u).setCell ⟨g, 1, none⟩ v) neg A n c z := by
  refine (h.store u h0 (by intro x e; cases e)).store v (p := ⟨g, 1, none⟩) (u := .slice a0 n0 c0) ?_ (by intro x e; cases e)
  rw [World.cell?_setCell_other w ⟨g, 0, none⟩ ⟨g, 1, none⟩ u (by intro e; injection e with _ e2; cases e2)]
  exact h1
theorem below_result {B : Nat} {a w : World} {g : Nat} (h : Below B a w) (hg : B ≤ g) (u v : Value) : Below B a ((w.setCell ⟨g, 0, none⟩ u).setCell ⟨g, 1, none⟩ v) :=
  (h.setCell (p := ⟨g, 0, none⟩) hg u).setCell (p := ⟨g, 1, none⟩) hg v
end Go.Proofs.Ythddodhcpfponaa
