/-
  The references whole numbers (polestarref01): limbs, sums, products, comparisons.
  The references whole numbers (polestarref01): shifts, bits, quotients.
  A walk's memory: blocks of the call's own that it keeps track of, whole numbers that stay readable.
  Fractions, plainly: the greatest common divisor by halving, lowest terms, what is held against one another.
  The references floats (polestarref04): worth, the floats beside, Two.
-/
import Derived.Test.YtgekmbfmfiikkaaGreatDoorZero
import Derived.Deep.RegionHeld3
import Derived.StillTailTactics
import Derived.Test.YtgekmbfmfiikkaaGreatDoorFlt
import Derived.Deep.CutRange
/-! The references' whole numbers (polestarref01): limbs. -/
namespace Go.Proofs.YtgekmbfmfiikkaaGreatDoor
open Go.RowKit
theorem isInt_signed {w : World} {neg : Bool} {A : Option Addr} {n c : Nat} {l : List Nat} (h : Sl w A n c l) (hne : Lm.trim l ≠ []) :
  IsInt w neg A (Lm.trim l).length c (sgnd neg (Lm.lv l)) :=
 ⟨Lm.trim l, h.trim, Lm.trim_canon l, fun e => absurd e hne, by rw [Lm.trim_lv]⟩
theorem isInt_nought {w : World} : IsInt w false none 0 0 0 := ⟨[], Sl.nil, Lm.canon_nil, fun _ => rfl, rfl⟩
end Go.Proofs.YtgekmbfmfiikkaaGreatDoor
/-! The references' whole numbers (polestarref01): limbs and limbs, limbs less limbs. -/
namespace Go.Proofs.YtgekmbfmfiikkaaGreatDoor
open Go.RowKit
theorem info_u32 : (Tryz.prog.info? 164).map (fun i => (i.zero, i.size, i.bytes)) = some (some (.int .u32 0), 1, 4) := by kernel_rfl
end Go.Proofs.YtgekmbfmfiikkaaGreatDoor
/-! The references' whole numbers (polestarref01): sums, differences, products. -/
namespace Go.Proofs.YtgekmbfmfiikkaaGreatDoor
open Go.RowKit
theorem sgnd_mul (s t : Bool) (a b : Nat) : sgnd (s != t) (a * b) = sgnd s a * sgnd t b := by
 unfold sgnd; cases s <;> cases t <;> simp [Int.neg_mul, Int.mul_neg]
end Go.Proofs.YtgekmbfmfiikkaaGreatDoor
/-! The references' whole numbers (polestarref01): signs, sizes, numbers of 64 bits. -/
namespace Go.Proofs.YtgekmbfmfiikkaaGreatDoor
open Go.RowKit
def RetV (W : World) (v : Value) (e : Ending) (w' : World) : Prop := e = .returned v ∧ Below W.heap.size W w'
theorem isInt_zero {w : World} {neg : Bool} {A : Option Addr} {n c : Nat} {z : Int} (h : IsInt w neg A n c z) : n = 0 ↔ z = 0 := by
 obtain ⟨l, h1, h2, h3, rfl⟩ := h
 have := h1.len
 have hz := Lm.lv_zero h2
 unfold sgnd
 constructor
 ·intro e
  have : l = [] := List.eq_nil_of_length_eq_zero (by omega)
  rw [hz.2 this]; split <;> rfl
 ·intro e
  have : Lm.lv l = 0 := by split at e <;> omega
  rw [hz.1 this] at h1
  exact h1.len.symm
theorem isInt_neg {w : World} {neg : Bool} {A : Option Addr} {n c : Nat} {z : Int} (h : IsInt w neg A n c z) : neg = decide (z < 0) := by
 obtain ⟨l, h1, h2, h3, rfl⟩ := h
 have hz := Lm.lv_zero h2
 unfold sgnd
 cases neg
 ·simp
 ·have : l ≠ [] := fun e => by have := h3 e; cases this
  have : Lm.lv l ≠ 0 := fun e => this (hz.1 e)
  simp; omega
theorem sl_new2_box (w : World) (o : Obj) (t : TypeId) (d d' : Nat) (hd : d < 4294967296) (hd' : d' < 4294967296) :
  Sl ((w.alloc o).alloc (.cells #[.int .u32 (d : Int), .int .u32 (d' : Int)] t)) (some ⟨w.heap.size + 1, 0, none⟩) 2 2 [d, d'] := by
 have h := sl_new2 (w.alloc o) t d d' hd hd'
 have e : (w.alloc o).heap.size = w.heap.size + 1 := by simp
 rwa [e] at h
theorem of_limbs (m : Nat) : Lm.lv [m % 4294967296, m / 4294967296] = m := by
 have := Nat.div_add_mod m 4294967296
 show m % 4294967296 + Lm.B * (m / 4294967296 + Lm.B * 0) = m
 have : Lm.B = 4294967296 := rfl
 rw [this]; omega
end Go.Proofs.YtgekmbfmfiikkaaGreatDoor
/-! The references' whole numbers (polestarref01): order. -/
namespace Go.Proofs.YtgekmbfmfiikkaaGreatDoor
open Go.RowKit
def icmp (x y : Int) : Int := if x < y then -1 else if y < x then 1 else 0
end Go.Proofs.YtgekmbfmfiikkaaGreatDoor
/-! The references' whole numbers (polestarref01): differences, products. -/
namespace Go.Proofs.YtgekmbfmfiikkaaGreatDoor
open Go.RowKit
theorem isInt_len {w w' : World} {neg neg' : Bool} {A A' : Option Addr} {n c n' c' : Nat} {x y : Int} (h : IsInt w neg A n c x) (k : IsInt w' neg' A' n' c' y) (e : x.natAbs = y.natAbs) : n = n' := by
 obtain ⟨a, ha, ca, _, rfl⟩ := h
 obtain ⟨b, hb, cb, _, rfl⟩ := k
 have : Lm.lv a = Lm.lv b := by
  have h1 : ∀ (s : Bool) (m : Nat), (sgnd s m).natAbs = m := by intro s m; unfold sgnd; split <;> omega
  rw [h1, h1] at e; exact e
 have := Lm.lv_inj ha.ok ca hb.ok cb this
 subst this
 rw [← ha.len, ← hb.len]
end Go.Proofs.YtgekmbfmfiikkaaGreatDoor
/-! The references' whole numbers (polestarref01): doubled so many times. -/
namespace Go.Proofs.YtgekmbfmfiikkaaGreatDoor
open Go.RowKit
theorem two_pow_lt (k : Nat) (h : k < 32) : 2 ^ k < 4294967296 := Nat.lt_of_lt_of_le (Nat.pow_lt_pow_right (by decide) h) (by decide)
theorem double_lv (l : List Nat) (s : Nat) : Lm.lv (List.replicate (s / 32) 0 ++ l) * 2 ^ (s % 32) = Lm.lv l * 2 ^ s := by
 rw [Lm.lv_append, Lm.lv_zeros, List.length_replicate, Nat.zero_add]
 have e : Lm.B ^ (s / 32) = 2 ^ (32 * (s / 32)) := by rw [Nat.pow_mul]
 rw [e, Nat.mul_comm (2 ^ _), Nat.mul_assoc, ← Nat.pow_add]
 congr 2
 omega
def pw (k : Nat) : Nat := 2 ^ k
theorem pw_lt (k : Nat) (h : k < 32) : pw k < 4294967296 := two_pow_lt k h
end Go.Proofs.YtgekmbfmfiikkaaGreatDoor
/-! The references' whole numbers (polestarref01): may it be; as a number of 64 bits. -/
namespace Go.Proofs.YtgekmbfmfiikkaaGreatDoor
open Go.RowKit
def okInt (neg : Bool) (l : List Nat) : Prop := l.length ≤ 2048 ∧ Lm.canon l ∧ (l = [] → neg = false)
open Classical in
noncomputable def chk (neg : Bool) (l : List Nat) : Int := if okInt neg l then 0 else 1
theorem chk_ok {neg : Bool} {l : List Nat} (h : okInt neg l) : chk neg l = 0 := by unfold chk; rw [if_pos h]
theorem chk_no {neg : Bool} {l : List Nat} (h : ¬ okInt neg l) : chk neg l = 1 := by unfold chk; rw [if_neg h]
theorem canon_last {l : List Nat} (h : 0 < l.length) : Lm.canon l ↔ l[l.length - 1] ≠ 0 := by
 have hne : l ≠ [] := by intro e; subst e; simp at h
 unfold Lm.canon
 constructor
 ·intro hh; have := hh hne; rwa [List.getLast_eq_getElem] at this
 ·intro hh hne'; rw [List.getLast_eq_getElem]; exact hh
end Go.Proofs.YtgekmbfmfiikkaaGreatDoor
/-! The references' whole numbers (polestarref01): a number below 2^63 as one of 64 bits. -/
namespace Go.Proofs.YtgekmbfmfiikkaaGreatDoor
open Go.RowKit
theorem isInt_len_le {w : World} {neg : Bool} {A : Option Addr} {n c : Nat} {z : Int} (h : IsInt w neg A n c z) {k : Nat} (hz : z.natAbs < Lm.B ^ k) : n ≤ k := by
 obtain ⟨l, hl, cl, _, rfl⟩ := h
 have h1 : (sgnd neg (Lm.lv l)).natAbs = Lm.lv l := by unfold sgnd; split <;> omega
 rw [h1] at hz
 rcases Nat.lt_or_ge k n with hk | hk
 ·exfalso
  have hne : l ≠ [] := by intro e; subst e; have := hl.len; simp at this; omega
  have h2 := Lm.lv_pos cl hne
  have h3 : Lm.B ^ k ≤ Lm.B ^ (l.length - 1) := Nat.pow_le_pow_right (by decide) (by have := hl.len; omega)
  omega
 ·exact hk
end Go.Proofs.YtgekmbfmfiikkaaGreatDoor
/-! The references' whole numbers (polestarref01): bits; halved so many times. -/
namespace Go.Proofs.YtgekmbfmfiikkaaGreatDoor
open Go.RowKit
theorem bitLen_top {l : List Nat} (hok : Lm.ok l) (hc : Lm.canon l) (h : 0 < l.length) : bitLen (Lm.lv l) = 32 * (l.length - 1) + bitLen l[l.length - 1] := by
 have hs := Lm.lv_split l (l.length - 1) (by omega)
 have hd : l.drop (l.length - 1 + 1) = [] := List.drop_of_length_le (by omega)
 rw [hd] at hs
 have e : Lm.B ^ (l.length - 1) = 2 ^ (32 * (l.length - 1)) := by rw [Nat.pow_mul]
 have hz : Lm.lv ([] : List Nat) = 0 := rfl
 rw [hz, Nat.mul_zero, Nat.add_zero] at hs
 have hlt : Lm.lv (l.take (l.length - 1)) < 2 ^ (32 * (l.length - 1)) := by
  have := Lm.lv_lt (Lm.ok_take hok (l.length - 1))
  rw [List.length_take, Nat.min_eq_left (by omega), e] at this
  exact this
 have hdiv : Lm.lv l / 2 ^ (32 * (l.length - 1)) = l[l.length - 1] := by
  rw [hs, e, Nat.add_mul_div_left _ _ (Nat.two_pow_pos _), Nat.div_eq_of_lt hlt, Nat.zero_add]
 have := bitLen_shift (Lm.lv l) (32 * (l.length - 1)) (by rw [hdiv]; exact (canon_last h).1 hc)
 rw [hdiv] at this
 exact this
end Go.Proofs.YtgekmbfmfiikkaaGreatDoor
/-! The references' whole numbers (polestarref01): quotients: by one limb; what the call answers. -/
namespace Go.Proofs.YtgekmbfmfiikkaaGreatDoor
open Go.RowKit
theorem sgnd_tdiv (s t : Bool) (a b : Nat) : (sgnd s a).tdiv (sgnd t b) = sgnd (s != t) (a / b) := by
 unfold sgnd
 cases s <;> cases t <;> simp [Int.neg_tdiv, Int.tdiv_neg]
theorem sgnd_tmod (s t : Bool) (a b : Nat) : (sgnd s a).tmod (sgnd t b) = sgnd s (a % b) := by
 unfold sgnd
 cases s <;> cases t <;> simp [Int.neg_tmod, Int.tmod_neg] <;> exact (Int.ofNat_tmod a b).symm
def RetTwoInts (W : World) (x y : Int) (e : Ending) (w' : World) : Prop :=
 ∃ neg A n c neg' A' n' c', e = .returned (.tuple #[.agg #[.bool neg, .slice A n c], .agg #[.bool neg', .slice A' n' c']]) ∧ IsInt w' neg A n c x ∧ IsInt w' neg' A' n' c' y ∧ Below W.heap.size W w'
end Go.Proofs.YtgekmbfmfiikkaaGreatDoor
/-! The references' whole numbers (polestarref01): limbs by limbs. -/
namespace Go.Proofs.YtgekmbfmfiikkaaGreatDoor
open Go.RowKit
theorem divide_step {a out : List Nat} {k D R q R' : Nat} (ha : k < a.length) (ho : k < out.length) (hE : Lm.lv (a.drop (k + 1)) = D * Lm.lv (out.drop (k + 1)) + R) (hR : a[k] + Lm.B * R = D * q + R') :
  Lm.lv (a.drop k) = D * Lm.lv ((out.set k q).drop k) + R' := by
 have e1 := Lm.lv_drop a ha
 have hl : k < (out.set k q).length := by rw [List.length_set]; exact ho
 have e2 := Lm.lv_drop (out.set k q) hl
 rw [List.getElem_set_self] at e2
 have e3 : (out.set k q).drop (k + 1) = out.drop (k + 1) := List.drop_set_of_lt (by omega)
 rw [e1, e2, e3, hE, Nat.mul_add, Nat.mul_add, Nat.mul_left_comm]
 generalize D * (Lm.B * Lm.lv (out.drop (k + 1))) = X
 omega
theorem only_of_below {a w : World} (h : Below a.heap.size a w) : a.grownBy w none := ⟨h.os, h.tape, h.output, h.size, fun i hi _ => h.block i hi⟩
theorem own_kept {w w' : World} {base : Nat} {e : TypeId} {g n c : Nat} {xs : List Value} (h : w.ownsRow base e 1 (.slice (some ⟨g, 0, none⟩) n c) n xs) (hb : Below w.heap.size w w') : w'.ownsRow base e 1 (.slice (some ⟨g, 0, none⟩) n c) n xs :=
 h.kept (only_of_below hb) (.inr (by simp [Value.ownBlock]))
end Go.Proofs.YtgekmbfmfiikkaaGreatDoor
namespace Go.Proofs.YtgekmbfmfiikkaaGreatDoor
open Go.RowKit
abbrev IntAt := Bool × Option Addr × Nat × Nat × Int
def IsAt (wr : World) (p : IntAt) : Prop := IsInt wr p.1 p.2.1 p.2.2.1 p.2.2.2.1 p.2.2.2.2
def Blk (wr : World) (g : Nat) (vs : List Value) : Prop := g < wr.heap.size ∧ ∀ k v, vs[k]? = some v → wr.cell? ⟨g, k, none⟩ = some v ∧ wr.frozen? ⟨g, k, none⟩ = false
theorem Blk.next {wr w' : World} {g : Nat} {vs : List Value} (h : Blk wr g vs) (hb : Below wr.heap.size wr w') : Blk w' g vs :=
 ⟨Nat.lt_of_lt_of_le h.1 hb.size, fun k v hk => ⟨((bcell hb).1 _ _ h.1).trans (h.2 k v hk).1, ((bcell hb).2 _ _ h.1).trans (h.2 k v hk).2⟩⟩
theorem Blk.new (w : World) {g : Nat} (hg : w.heap.size = g) (vs : List Value) (t : TypeId) : Blk (w.alloc (.cells vs.toArray t)) g vs := by
 subst hg
 refine ⟨by simp, fun k v hk => ?_⟩
 have e : (w.alloc (.cells vs.toArray t)).heap[w.heap.size]? = some (.cells vs.toArray t (0, 0)) := heap_alloc_new w _
 refine ⟨?_, ?_⟩
 ·rw [cell_of_row _ w.heap.size k vs.toArray t (0, 0) e]
  simpa using hk
 ·unfold World.frozen?
  rw [e]
  simp
theorem Blk.far {wr : World} {g g' j : Nat} {vs : List Value} (h : Blk wr g vs) (hne : g' ≠ g) (u : Value) : Blk (wr.setCell ⟨g', j, none⟩ u) g vs := by
 refine ⟨by simpa [World.setCell] using h.1, fun k v hk => ?_⟩
 obtain ⟨c, f⟩ := h.2 k v hk
 refine ⟨?_, by simpa [go_sem] using f⟩
 rw [World.cell?_setCell_other wr ⟨g', j, none⟩ ⟨g, k, none⟩ _ (by intro q; injection q with q; omega)]
 exact c
theorem Blk.set {wr : World} {g j : Nat} {vs : List Value} (h : Blk wr g vs) (hj : j < vs.length) (u : Value) : Blk (wr.setCell ⟨g, j, none⟩ u) g (vs.set j u) := by
 refine ⟨by simpa [World.setCell] using h.1, fun k v hk => ?_⟩
 by_cases e : j = k
 ·subst e
  obtain ⟨c, f⟩ := h.2 j vs[j] (List.getElem?_eq_getElem hj)
  rw [List.getElem?_set_self hj] at hk
  injection hk with hk
  subst hk
  exact ⟨by simp [go_sem, c], by simpa [go_sem] using f⟩
 ·rw [List.getElem?_set_ne e] at hk
  obtain ⟨c, f⟩ := h.2 k v hk
  refine ⟨?_, by simpa [go_sem] using f⟩
  rw [World.cell?_setCell_other wr ⟨g, j, none⟩ ⟨g, k, none⟩ _ (by intro q; injection q with _ q; omega)]
  exact c
def Mm (w : World) (L : List (Nat × List Value)) (l : List IntAt) (wr : World) : Prop :=
 Below w.heap.size w wr ∧ (∀ b ∈ L, w.heap.size ≤ b.1 ∧ Blk wr b.1 b.2) ∧ ∀ p ∈ l, IsAt wr p
theorem Mm.nil (w : World) : Mm w [] [] w := ⟨Below.refl _ _, fun b hb => absurd hb (by simp), fun b hb => absurd hb (by simp)⟩
theorem Mm.int {w wr : World} {L : List (Nat × List Value)} {l : List IntAt} (h : Mm w L l wr) {neg : Bool} {A : Option Addr} {n c : Nat} {z : Int} (hI : IsInt wr neg A n c z) : Mm w L ((neg, A, n, c, z) :: l) wr :=
 ⟨h.1, h.2.1, fun p hp => by
  rw [List.mem_cons] at hp
  rcases hp with rfl | hp
  ·exact hI
  ·exact h.2.2 p hp⟩
theorem Mm.next {w wr w' : World} {L : List (Nat × List Value)} {l : List IntAt} (h : Mm w L l wr) (hb : Below wr.heap.size wr w') : Mm w L l w' :=
 ⟨below_next h.1 hb, fun b hb' => ⟨(h.2.1 b hb').1, (h.2.1 b hb').2.next hb⟩, fun p hp => IsInt.below (h.2.2 p hp) hb⟩
theorem Mm.box {w wr : World} {L : List (Nat × List Value)} {l : List IntAt} (h : Mm w L l wr) (o : Obj) : Mm w L l (wr.alloc o) := h.next ((Below.refl _ _).alloc (Nat.le_refl _) o)
theorem Mm.drewN {w wr : World} {L : List (Nat × List Value)} {l : List IntAt} (h : Mm w L l wr) (n : Nat) : Mm w L l (wr.drewN n) := h.next (below_drewN (Below.refl _ _) n)
theorem Mm.drew {w wr : World} {L : List (Nat × List Value)} {l : List IntAt} (h : Mm w L l wr) : Mm w L l wr.drew := h.next ⟨rfl, rfl, rfl, Nat.le_refl _, fun _ _ => rfl⟩
theorem Mm.var {w wr : World} {L : List (Nat × List Value)} {l : List IntAt} (h : Mm w L l wr) {g : Nat} (hg : wr.heap.size = g) (vs : List Value) (t : TypeId) : Mm w ((g, vs) :: L) l (wr.alloc (.cells vs.toArray t)) := by
 have k := h.box (.cells vs.toArray t)
 refine ⟨k.1, fun b hb => ?_, k.2.2⟩
 rw [List.mem_cons] at hb
 rcases hb with rfl | hb
 ·exact ⟨by have := h.1.size; show w.heap.size ≤ g; omega, Blk.new wr hg vs t⟩
 ·exact k.2.1 b hb
theorem Mm.pick {w wr : World} {L L' : List (Nat × List Value)} {l l' : List IntAt} (h : Mm w L l wr) (hL : ∀ b ∈ L', b ∈ L) (hl : ∀ p ∈ l', p ∈ l) : Mm w L' l' wr :=
 ⟨h.1, fun b hb => h.2.1 b (hL b hb), fun p hp => h.2.2 p (hl p hp)⟩
theorem isAt_store {wr : World} {p : IntAt} (h : IsAt wr p) {g j : Nat} {u : Value} (v : Value) (hc : wr.cell? ⟨g, j, none⟩ = some u) (hu : ∀ x, u ≠ .int .u32 x) : IsAt (wr.setCell ⟨g, j, none⟩ v) p := IsInt.store h v hc hu
theorem Mm.set {w wr : World} {L : List (Nat × List Value)} {l : List IntAt} {g : Nat} {vs : List Value} (h : Mm w ((g, vs) :: L) l wr) (hne : ∀ b ∈ L, g ≠ b.1) {j : Nat} (u0 u : Value) (hj : vs[j]? = some u0) (hu : ∀ x, u0 ≠ .int .u32 x) :
  Mm w ((g, vs.set j u) :: L) l (wr.setCell ⟨g, j, none⟩ u) := by
 obtain ⟨hg, hB⟩ := h.2.1 (g, vs) (by simp)
 have hlt : j < vs.length := by
  rcases Nat.lt_or_ge j vs.length with k | k
  ·exact k
  ·rw [List.getElem?_eq_none k] at hj; exact absurd hj (by simp)
 refine ⟨h.1.setCell (p := ⟨g, j, none⟩) hg _, fun b hb => ?_, fun p hp => isAt_store (h.2.2 p hp) u (hB.2 j u0 hj).1 hu⟩
 rw [List.mem_cons] at hb
 rcases hb with rfl | hb
 ·exact ⟨hg, hB.set hlt u⟩
 ·exact ⟨(h.2.1 b (by simp [hb])).1, (h.2.1 b (by simp [hb])).2.far (hne b hb) u⟩
theorem Mm.at_ {w wr : World} {L : List (Nat × List Value)} {l : List IntAt} (h : Mm w L l wr) {neg : Bool} {A : Option Addr} {n c : Nat} {z : Int} (hp : (neg, A, n, c, z) ∈ l) : IsInt wr neg A n c z := h.2.2 _ hp
theorem Mm.blk {w wr : World} {L : List (Nat × List Value)} {l : List IntAt} (h : Mm w L l wr) {g : Nat} {vs : List Value} (hp : (g, vs) ∈ L) : Blk wr g vs := (h.2.1 _ hp).2
theorem Blk.two {wr : World} {g : Nat} {a b : Value} (h : Blk wr g [a, b]) : wr.cell? ⟨g, 0, none⟩ = some a ∧ wr.cell? ⟨g, 1, none⟩ = some b ∧ wr.frozen? ⟨g, 0, none⟩ = false ∧ wr.frozen? ⟨g, 1, none⟩ = false ∧ g < wr.heap.size :=
 ⟨(h.2 0 a rfl).1, (h.2 1 b rfl).1, (h.2 0 a rfl).2, (h.2 1 b rfl).2, h.1⟩
theorem Blk.four {wr : World} {g : Nat} {a b c d : Value} (h : Blk wr g [a, b, c, d]) : (wr.cell? ⟨g, 0, none⟩ = some a ∧ wr.cell? ⟨g, 1, none⟩ = some b ∧ wr.cell? ⟨g, 2, none⟩ = some c ∧ wr.cell? ⟨g, 3, none⟩ = some d) ∧
  (wr.frozen? ⟨g, 0, none⟩ = false ∧ wr.frozen? ⟨g, 1, none⟩ = false ∧ wr.frozen? ⟨g, 2, none⟩ = false ∧ wr.frozen? ⟨g, 3, none⟩ = false) ∧ g < wr.heap.size :=
 ⟨⟨(h.2 0 a rfl).1, (h.2 1 b rfl).1, (h.2 2 c rfl).1, (h.2 3 d rfl).1⟩, ⟨(h.2 0 a rfl).2, (h.2 1 b rfl).2, (h.2 2 c rfl).2, (h.2 3 d rfl).2⟩, h.1⟩
theorem Mm.set2 {w wr : World} {L : List (Nat × List Value)} {l : List IntAt} {g : Nat} {b0 : Bool} {a0 : Option Addr} {n0 c0 : Nat} (h : Mm w ((g, [.bool b0, .slice a0 n0 c0]) :: L) l wr) (hne : ∀ b ∈ L, g ≠ b.1) (neg : Bool) (A : Option Addr) (n c : Nat) :
  Mm w ((g, [.bool neg, .slice A n c]) :: L) l ((wr.setCell ⟨g, 0, none⟩ (.bool neg)).setCell ⟨g, 1, none⟩ (.slice A n c)) :=
 (h.set hne (.bool b0) (.bool neg) rfl (by simp)).set hne (.slice a0 n0 c0) (.slice A n c) rfl (by simp)
theorem Mm.set4 {w wr : World} {L : List (Nat × List Value)} {l : List IntAt} {g : Nat} {b0 b1 : Bool} {a0 a1 : Option Addr} {n0 c0 n1 c1 : Nat} (h : Mm w ((g, [.bool b0, .slice a0 n0 c0, .bool b1, .slice a1 n1 c1]) :: L) l wr) (hne : ∀ b ∈ L, g ≠ b.1)
  (neg : Bool) (A : Option Addr) (n c : Nat) (neg' : Bool) (A' : Option Addr) (n' c' : Nat) :
  Mm w ((g, [.bool neg, .slice A n c, .bool neg', .slice A' n' c']) :: L) l ((((wr.setCell ⟨g, 0, none⟩ (.bool neg)).setCell ⟨g, 1, none⟩ (.slice A n c)).setCell ⟨g, 2, none⟩ (.bool neg')).setCell ⟨g, 3, none⟩ (.slice A' n' c')) :=
 (((h.set hne (.bool b0) (.bool neg) rfl (by simp)).set hne (.slice a0 n0 c0) (.slice A n c) rfl (by simp)).set hne (.bool b1) (.bool neg') rfl (by simp)).set hne (.slice a1 n1 c1) (.slice A' n' c') rfl (by simp)
theorem Mm.varz {w wr : World} {L : List (Nat × List Value)} {l : List IntAt} (h : Mm w L l wr) (vs : List Value) (t : TypeId) : Mm w ((wr.heap.size, vs) :: L) l (wr.alloc (.cells vs.toArray t)) := h.var rfl vs t
theorem Calls.withMm {P : Program} {f : FuncId} {args : Array Value} {W : World} {post : Ending → World → Prop} {w0 : World} {L : List (Nat × List Value)} {l : List IntAt} (K : Mm w0 L l W) (h : Mm w0 L l W → Calls P f args W post) : Calls P f args W post := h K
end Go.Proofs.YtgekmbfmfiikkaaGreatDoor
namespace Go.Proofs.YtgekmbfmfiikkaaGreatDoor
open Go.RowKit
/-! ### lowest terms -/
def tn (q : Int) (z : Int) : Int := if q < 0 then -z else z
theorem low_num {p q : Int} (hq : q ≠ 0) {g : Nat} (hg : g = Nat.gcd p.natAbs q.natAbs) : tn q (p.tdiv (g : Int)) = (Rat.divInt p q).num := by
 have hg0 : 0 < g := by rw [hg]; exact Nat.gcd_pos_of_pos_right _ (by omega)
 have e : (Int.gcd q p) = g := by rw [hg, Int.gcd_comm]; rfl
 have hd : (g : Int) ∣ p := by rw [hg]; exact Int.ofNat_dvd_left.2 (Nat.gcd_dvd_left _ _)
 rw [Rat.num_divInt, e]
 obtain ⟨k, hk⟩ := hd
 rw [hk, Int.mul_tdiv_cancel_left _ (by omega)]
 unfold tn
 by_cases h : q < 0
 ·rw [if_pos h, Int.sign_eq_neg_one_of_neg h]
  rw [show -1 * ((g : Int) * k) = (g : Int) * (-k) by rw [Int.mul_neg]; omega, Int.mul_ediv_cancel_left _ (by omega)]
 ·rw [if_neg h, Int.sign_eq_one_of_pos (by omega), Int.one_mul, Int.mul_ediv_cancel_left _ (by omega)]
theorem low_den {p q : Int} (hq : q ≠ 0) {g : Nat} (hg : g = Nat.gcd p.natAbs q.natAbs) : tn q (q.tdiv (g : Int)) = ((Rat.divInt p q).den : Int) := by
 have hg0 : 0 < g := by rw [hg]; exact Nat.gcd_pos_of_pos_right _ (by omega)
 have e : (Int.gcd q p) = g := by rw [hg, Int.gcd_comm]; rfl
 have hd : (g : Int) ∣ q := by rw [hg]; exact Int.ofNat_dvd_left.2 (Nat.gcd_dvd_right _ _)
 rw [Rat.den_divInt, e, if_neg hq]
 obtain ⟨k, hk⟩ := hd
 rw [hk, Int.mul_tdiv_cancel_left _ (by omega), Int.natAbs_mul, Int.natAbs_natCast, Nat.mul_div_cancel_left _ hg0]
 have hk' : 0 < (g : Int) := by omega
 unfold tn
 by_cases h : (g : Int) * k < 0
 ·rw [if_pos h]
  have : k < 0 := by
   rcases Int.lt_or_le k 0 with hn | hn
   ·exact hn
   ·exact absurd (Int.mul_nonneg (Int.le_of_lt hk') hn) (by omega)
  omega
 ·rw [if_neg h]
  have : 0 ≤ k := by
   rcases Int.lt_or_le k 0 with hn | hn
   ·exact absurd (Int.mul_neg_of_pos_of_neg hk' hn) h
   ·exact hn
  omega
theorem tdiv_small (z : Int) (g : Nat) : (z.tdiv (g : Int)).natAbs ≤ z.natAbs := by
 rw [Int.natAbs_tdiv]
 exact Nat.div_le_self _ _
theorem tn_abs (q z : Int) : (tn q z).natAbs = z.natAbs := by unfold tn; split <;> omega
theorem low_small {p q : Int} (hq : q ≠ 0) : (Rat.divInt p q).num.natAbs ≤ p.natAbs ∧ (Rat.divInt p q).den ≤ q.natAbs := by
 have h1 := low_num (p := p) hq rfl
 have h2 := low_den (p := p) hq rfl
 have a1 := tdiv_small p (Nat.gcd p.natAbs q.natAbs)
 have a2 := tdiv_small q (Nat.gcd p.natAbs q.natAbs)
 rw [← tn_abs q, h1] at a1
 rw [← tn_abs q, h2] at a2
 exact ⟨a1, by omega⟩
/-! ### how long numbers are -/
def Sz (x : Rat) (m : Nat) : Prop := x.num.natAbs < 2 ^ (32 * m) ∧ x.den < 2 ^ (32 * m)
theorem mul_lt_pow {a b m n : Nat} (ha : a < 2 ^ (32 * m)) (hb : b < 2 ^ (32 * n)) : a * b < 2 ^ (32 * (m + n)) := by
 rw [show 32 * (m + n) = 32 * m + 32 * n by omega, Nat.pow_add]
 rcases Nat.eq_zero_or_pos b with h | h
 ·subst h
  rw [Nat.mul_zero]
  exact Nat.mul_pos (Nat.two_pow_pos _) (Nat.two_pow_pos _)
 ·exact Nat.lt_of_lt_of_le (Nat.mul_lt_mul_of_pos_right ha h) (Nat.mul_le_mul_left _ (Nat.le_of_lt hb))
theorem add_lt_pow {a b k : Nat} (ha : a < 2 ^ (32 * k)) (hb : b < 2 ^ (32 * k)) : a + b < 2 ^ (32 * (k + 1)) := by
 rw [show 32 * (k + 1) = 32 * k + 32 by omega, Nat.pow_add]
 have := Nat.two_pow_pos (32 * k)
 omega
theorem Sz.mono {x : Rat} {m n : Nat} (h : Sz x m) (hmn : m ≤ n) : Sz x n :=
 ⟨Nat.lt_of_lt_of_le h.1 (Nat.pow_le_pow_right (by decide) (by omega)), Nat.lt_of_lt_of_le h.2 (Nat.pow_le_pow_right (by decide) (by omega))⟩
theorem Sz.divInt {p q : Int} {m : Nat} (hq : q ≠ 0) (hp : p.natAbs < 2 ^ (32 * m)) (hb : q.natAbs < 2 ^ (32 * m)) : Sz (Rat.divInt p q) m := by
 obtain ⟨h1, h2⟩ := low_small (p := p) hq
 exact ⟨by omega, by omega⟩
theorem den_ne (x : Rat) : (x.den : Int) ≠ 0 := by have := x.den_nz; omega
theorem add_frac (x y : Rat) : Rat.divInt (x.num * (y.den : Int) + y.num * (x.den : Int)) ((x.den : Int) * (y.den : Int)) = x + y := by
 rw [← Rat.divInt_add_divInt _ _ (den_ne x) (den_ne y), Rat.num_divInt_den, Rat.num_divInt_den]
theorem mul_frac (x y : Rat) : Rat.divInt (x.num * y.num) ((x.den : Int) * (y.den : Int)) = x * y := by
 rw [← Rat.divInt_mul_divInt, Rat.num_divInt_den, Rat.num_divInt_den]
theorem div_frac (x y : Rat) (hy : y ≠ 0) : Rat.divInt (x.num * (y.den : Int)) ((x.den : Int) * y.num) = x / y := by
 have hn : y.num ≠ 0 := fun h => hy (Rat.num_eq_zero.1 h)
 rw [← Rat.divInt_mul_divInt, Rat.num_divInt_den, Rat.div_def, Rat.inv_def]
theorem den_mul_ne (x y : Rat) : (x.den : Int) * (y.den : Int) ≠ 0 := Int.mul_ne_zero (den_ne x) (den_ne y)
theorem Sz.mul {x y : Rat} {m n : Nat} (hx : Sz x m) (hy : Sz y n) : Sz (x * y) (m + n) := by
 rw [← mul_frac]
 refine Sz.divInt (den_mul_ne x y) ?_ ?_
 ·rw [Int.natAbs_mul]; exact mul_lt_pow hx.1 hy.1
 ·rw [Int.natAbs_mul, Int.natAbs_natCast, Int.natAbs_natCast]; exact mul_lt_pow hx.2 hy.2
theorem Sz.add {x y : Rat} {m n : Nat} (hx : Sz x m) (hy : Sz y n) : Sz (x + y) (m + n + 1) := by
 rw [← add_frac]
 refine Sz.divInt (den_mul_ne x y) ?_ ?_
 ·have h1 := mul_lt_pow hx.1 hy.2
  have h2 := mul_lt_pow hy.1 hx.2
  rw [Nat.add_comm n m] at h2
  have h3 := add_lt_pow h1 h2
  have h4 := Int.natAbs_add_le (x.num * (y.den : Int)) (y.num * (x.den : Int))
  rw [Int.natAbs_mul, Int.natAbs_mul, Int.natAbs_natCast, Int.natAbs_natCast] at h4
  omega
 ·rw [Int.natAbs_mul, Int.natAbs_natCast, Int.natAbs_natCast]
  exact Nat.lt_of_lt_of_le (mul_lt_pow hx.2 hy.2) (Nat.pow_le_pow_right (by decide) (by omega))
theorem num_neg (x : Rat) : (-x).num = -x.num := rfl
theorem Sz.neg {x : Rat} {m : Nat} (hx : Sz x m) : Sz (-x) m := by
 refine ⟨?_, hx.2⟩
 rw [num_neg, Int.natAbs_neg]
 exact hx.1
theorem Sz.sub {x y : Rat} {m n : Nat} (hx : Sz x m) (hy : Sz y n) : Sz (x - y) (m + n + 1) := by
 rw [Rat.sub_eq_add_neg]
 exact hx.add hy.neg
theorem Sz.div {x y : Rat} {m n : Nat} (hx : Sz x m) (hy : Sz y n) (h0 : y ≠ 0) : Sz (x / y) (m + n) := by
 have hn : y.num ≠ 0 := fun h => h0 (Rat.num_eq_zero.1 h)
 rw [← div_frac x y h0]
 refine Sz.divInt (Int.mul_ne_zero (den_ne x) hn) ?_ ?_
 ·rw [Int.natAbs_mul, Int.natAbs_natCast]; exact mul_lt_pow hx.1 hy.2
 ·rw [Int.natAbs_mul, Int.natAbs_natCast]; exact mul_lt_pow hx.2 hy.1
/-! ### held against one another -/
def rcmp (x y : Rat) : Int := if x < y then -1 else if y < x then 1 else 0
theorem rcmp_sign (x y : Rat) : (x.num * (y.den : Int) - y.num * (x.den : Int)).sign = rcmp x y := by
 unfold rcmp
 by_cases h : x < y
 ·rw [if_pos h]
  have := (Rat.lt_iff _ _).1 h
  exact Int.sign_eq_neg_one_of_neg (by omega)
 ·rw [if_neg h]
  by_cases k : y < x
  ·rw [if_pos k]
   have := (Rat.lt_iff _ _).1 k
   exact Int.sign_eq_one_of_pos (by omega)
  ·rw [if_neg k]
   have h1 : ¬ x.num * (y.den : Int) < y.num * (x.den : Int) := fun e => h ((Rat.lt_iff _ _).2 e)
   have h2 : ¬ y.num * (x.den : Int) < x.num * (y.den : Int) := fun e => k ((Rat.lt_iff _ _).2 e)
   rw [show x.num * (y.den : Int) - y.num * (x.den : Int) = 0 by omega]
   rfl
end Go.Proofs.YtgekmbfmfiikkaaGreatDoor
/-! The references' floats (polestarref04): what a float is worth. -/
namespace Go.Proofs.YtgekmbfmfiikkaaGreatDoor
open Go.RowKit
theorem frac_bits (x : Nat) (h : x < 2 ^ 64) : bits .and .u64 (x : Int) 4503599627370495 = ((x % 2 ^ 52 : Nat) : Int) := by
 have := u64_and_nat x 4503599627370495 (by omega) (by omega)
 rw [show ((4503599627370495 : Nat) : Int) = 4503599627370495 from rfl] at this
 rw [this]
 congr 1
 exact Nat.and_two_pow_sub_one_eq_mod x 52
theorem expo_bits (x : Nat) (h : x < 2 ^ 64) : bits .and .u64 ((x : Int) / 4503599627370496) 2047 = ((x / 2 ^ 52 % 2048 : Nat) : Int) := by
 have := u64_and_nat (x / 2 ^ 52) 2047 (by omega) (by omega)
 rw [show ((2047 : Nat) : Int) = 2047 from rfl, show ((x / 2 ^ 52 : Nat) : Int) = (x : Int) / 4503599627370496 by omega] at this
 rw [this]
 congr 1
 exact Nat.and_two_pow_sub_one_eq_mod _ 11
theorem worth_sv {x m q : Nat} (hm : m = x % 2 ^ 52) (hq : q = x / 2 ^ 52 % 2048) (s : Bool) (hs : s = Flt.sgn x) {z : Int} (hz : z = (if s then -1 else 1) * (if q = 0 then (m : Int) else 4503599627370496 + m)) :
  z * ((2 ^ (q - 1) : Nat) : Int) = Flt.sv x ∧ z.natAbs < 2 ^ 53 ∧ q - 1 ≤ 2046 := by
 have hr : Flt.rg x = q * 2 ^ 52 + m := by unfold Flt.rg; omega
 have hv := Flt.val_mk q m (by omega)
 refine ⟨?_, ?_, by omega⟩
 ·unfold Flt.sv
  rw [hr, hv, ← hs, hz]
  generalize 2 ^ (q - 1) = p
  by_cases h0 : q = 0
  ·simp only [h0, if_true]
   cases s
   ·simp
   ·simp [Int.neg_mul]
  ·simp only [h0, if_false]
   cases s
   ·simp
   ·simp [Int.neg_mul]
 ·rw [hz]
  split <;> split <;> omega
end Go.Proofs.YtgekmbfmfiikkaaGreatDoor
/-! The references' floats (polestarref04): one; quotients by a power of two. -/
namespace Go.Proofs.YtgekmbfmfiikkaaGreatDoor
open Go.RowKit
theorem isInt_len_mono {w w' : World} {neg neg' : Bool} {A A' : Option Addr} {n c n' c' : Nat} {x y : Int} (h : IsInt w neg A n c x) (k : IsInt w' neg' A' n' c' y) (e : x.natAbs ≤ y.natAbs) : n ≤ n' := by
 refine isInt_len_le h ?_
 obtain ⟨b, hb, cb, _, rfl⟩ := k
 have h1 : ∀ (s : Bool) (m : Nat), (sgnd s m).natAbs = m := by intro s m; unfold sgnd; split <;> omega
 rw [h1] at e
 have := Lm.lv_lt hb.ok
 rw [hb.len] at this
 omega
theorem icmp_zero (x y : Int) : (icmp x y == 0) = decide (x = y) := by
 unfold icmp
 split
 ·simp; omega
 ·split
  ·simp; omega
  ·simp; omega
end Go.Proofs.YtgekmbfmfiikkaaGreatDoor
/-! The references' floats (polestarref04): the greatest float that is not above a number times a power of two. -/
namespace Go.Proofs.YtgekmbfmfiikkaaGreatDoor
open Go.RowKit
theorem dn_zero (den : Nat) (hd : 0 < den) : Flt.Dn 0 den 0 ∧ true = decide (Flt.val 0 * den = 0) := by
 refine ⟨⟨by rw [Flt.inf_eq]; omega, by rw [Flt.val_zero]; omega, fun _ => ?_⟩, by rw [Flt.val_zero]; simp⟩
 have : 0 < Flt.val (0 + 1) := by have := Flt.val_lt (show 0 < 0 + 1 by omega); omega
 exact Nat.mul_pos this hd
end Go.Proofs.YtgekmbfmfiikkaaGreatDoor
/-! The references' floats (polestarref04): signs, the least exponent, the floats beside. -/
namespace Go.Proofs.YtgekmbfmfiikkaaGreatDoor
open Go.RowKit
def hiR (num den r : Nat) : Nat := if Flt.val r * den = num then r else r + 1
end Go.Proofs.YtgekmbfmfiikkaaGreatDoor
/-! The references' floats (polestarref04): the sum and what it has lost. -/
namespace Go.Proofs.YtgekmbfmfiikkaaGreatDoor
open Go.RowKit
theorem two_zero {x y s : Nat} (hA : Flt.IsAdd x y s) (h : Flt.Fin s → Flt.sv x + Flt.sv y - Flt.sv s = 0) : Flt.IsTwo x y s 0 := by
 refine ⟨hA, by decide, fun hs => ⟨by unfold Flt.Fin Flt.rg; rw [Flt.inf_eq]; omega, ?_, fun _ => rfl⟩, fun _ => rfl⟩
 rw [h hs]
 unfold Flt.sv Flt.rg
 rw [show 0 % 2 ^ 63 = 0 from rfl, Flt.val_zero]; split <;> rfl
def RetTwo4 (W : World) (x y : Nat) (e : Ending) (w' : World) : Prop :=
 ∃ s l, e = .returned (.tuple #[.float .f64 s, .float .f64 l]) ∧ Flt.IsTwo x y s l ∧ Below W.heap.size W w'
theorem upon_fadd {P : Program} {w : World} {o : Oper} {a : Act} {next : Act → World → Prop} {Q : Exit → Act → World → Prop} {t : TypeId} {x y : Nat}
  (hK : ∀ z n, IsOp Ieee.double.add x y z → next (a.put o.dst (.float .f64 z)) (w.drewN n)) :
  o.upon P a next Q (((binOp .add t (.float .f64 x) (.float .f64 y)).run P w).andThen fun v w' => .ok (.value v) w') := by
 obtain ⟨z, n, hrun, hz⟩ := run_fop (P := P) w .add Ieee.double.add (.inl ⟨rfl, rfl⟩) t x y
 rw [hrun]
 exact hK z n hz
end Go.Proofs.YtgekmbfmfiikkaaGreatDoor
