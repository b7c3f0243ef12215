/-
  A walk's memory: blocks of the call's own that it keeps track of, whole numbers that stay readable.
  Fractions, plainly: the greatest common divisor by halving, lowest terms, what is held against one another.
  The references floats (polestarref04): worth, the floats beside, Two.
  The floats straight below and above a number (edge).
  The references floats (polestarref04): Add, Mul, Quo.
-/
import Derived.Test.YtgekmbfmfiikkaaGreatDoorRefV
import Derived.Test.YtgekmbfmfiikkaaGreatDoorZero
import Ieee.Arith
import Derived.Deep.CutRange
import Derived.Test.YtgekmbfmfiikkaaGreatDoorShelf
import Derived.Laws.MathBits
namespace Go.Proofs.YtgekmbfmfiikkaaGreatDoor
open Go.RowKit
abbrev IntAt := Bool × Option Addr × Nat × Nat × Int
def IsAt (wr : World) (p : IntAt) : Prop := IsInt wr p.1 p.2.1 p.2.2.1 p.2.2.2.1 p.2.2.2.2
def Blk (wr : World) (g : Nat) (vs : List Value) : Prop := g < wr.heap.size ∧ ∀ k v, vs[k]? = some v → wr.cell? ⟨g, k, none⟩ = some v ∧ wr.frozen? ⟨g, k, none⟩ = false
theorem Blk.next {wr w' : World} {g : Nat} {vs : List Value} (h : Blk wr g vs) (hb : Below wr.heap.size wr w') : Blk w' g vs :=
 ⟨Nat.lt_of_lt_of_le h.1 hb.size, fun k v hk => ⟨((bcell hb).1 _ _ h.1).trans (h.2 k v hk).1, ((bcell hb).2 _ _ h.1).trans (h.2 k v hk).2⟩⟩
theorem Blk.new (w : World) {g : Nat} (hg : w.heap.size = g) (vs : List Value) (t : TypeId) : Blk (w.alloc (.cells vs.toArray t)) g vs := by
 subst hg
 refine ⟨by simp, fun k v hk => ?_⟩
 have e : (w.alloc (.cells vs.toArray t)).heap[w.heap.size]? = some (.cells vs.toArray t (0, 0)) := heap_alloc_new w _
 refine ⟨?_, ?_⟩
 ·rw [cell_of_row _ w.heap.size k vs.toArray t (0, 0) e]
  simpa using hk
 ·unfold World.frozen?
  rw [e]
  simp
theorem Blk.far {wr : World} {g g' j : Nat} {vs : List Value} (h : Blk wr g vs) (hne : g' ≠ g) (u : Value) : Blk (wr.setCell ⟨g', j, none⟩ u) g vs := by
 refine ⟨by simpa [World.setCell] using h.1, fun k v hk => ?_⟩
 obtain ⟨c, f⟩ := h.2 k v hk
 refine ⟨?_, by simpa [go_sem] using f⟩
 rw [World.cell?_setCell_other wr ⟨g', j, none⟩ ⟨g, k, none⟩ _ (by intro q; injection q with q; omega)]
 exact c
theorem Blk.set {wr : World} {g j : Nat} {vs : List Value} (h : Blk wr g vs) (hj : j < vs.length) (u : Value) : Blk (wr.setCell ⟨g, j, none⟩ u) g (vs.set j u) := by
 refine ⟨by simpa [World.setCell] using h.1, fun k v hk => ?_⟩
 by_cases e : j = k
 ·subst e
  obtain ⟨c, f⟩ := h.2 j vs[j] (List.getElem?_eq_getElem hj)
  rw [List.getElem?_set_self hj] at hk
  injection hk with hk
  subst hk
  exact ⟨by simp [go_sem, c], by simpa [go_sem] using f⟩
 ·rw [List.getElem?_set_ne e] at hk
  obtain ⟨c, f⟩ := h.2 k v hk
  refine ⟨?_, by simpa [go_sem] using f⟩
  rw [World.cell?_setCell_other wr ⟨g, j, none⟩ ⟨g, k, none⟩ _ (by intro q; injection q with _ q; omega)]
  exact c
def Mm (w : World) (L : List (Nat × List Value)) (l : List IntAt) (wr : World) : Prop :=
 Below w.heap.size w wr ∧ (∀ b ∈ L, w.heap.size ≤ b.1 ∧ Blk wr b.1 b.2) ∧ ∀ p ∈ l, IsAt wr p
theorem Mm.nil (w : World) : Mm w [] [] w := ⟨Below.refl _ _, fun b hb => absurd hb (by simp), fun b hb => absurd hb (by simp)⟩
theorem Mm.int {w wr : World} {L : List (Nat × List Value)} {l : List IntAt} (h : Mm w L l wr) {neg : Bool} {A : Option Addr} {n c : Nat} {z : Int} (hI : IsInt wr neg A n c z) : Mm w L ((neg, A, n, c, z) :: l) wr :=
 ⟨h.1, h.2.1, fun p hp => by
  rw [List.mem_cons] at hp
  rcases hp with rfl | hp
  ·exact hI
  ·exact h.2.2 p hp⟩
theorem Mm.next {w wr w' : World} {L : List (Nat × List Value)} {l : List IntAt} (h : Mm w L l wr) (hb : Below wr.heap.size wr w') : Mm w L l w' :=
 ⟨below_next h.1 hb, fun b hb' => ⟨(h.2.1 b hb').1, (h.2.1 b hb').2.next hb⟩, fun p hp => IsInt.below (h.2.2 p hp) hb⟩
theorem Mm.box {w wr : World} {L : List (Nat × List Value)} {l : List IntAt} (h : Mm w L l wr) (o : Obj) : Mm w L l (wr.alloc o) := h.next ((Below.refl _ _).alloc (Nat.le_refl _) o)
theorem Mm.drewN {w wr : World} {L : List (Nat × List Value)} {l : List IntAt} (h : Mm w L l wr) (n : Nat) : Mm w L l (wr.drewN n) := h.next (below_drewN (Below.refl _ _) n)
theorem Mm.drew {w wr : World} {L : List (Nat × List Value)} {l : List IntAt} (h : Mm w L l wr) : Mm w L l wr.drew := h.next ⟨rfl, rfl, rfl, Nat.le_refl _, fun _ _ => rfl⟩
theorem Mm.var {w wr : World} {L : List (Nat × List Value)} {l : List IntAt} (h : Mm w L l wr) {g : Nat} (hg : wr.heap.size = g) (vs : List Value) (t : TypeId) : Mm w ((g, vs) :: L) l (wr.alloc (.cells vs.toArray t)) := by
 have k := h.box (.cells vs.toArray t)
 refine ⟨k.1, fun b hb => ?_, k.2.2⟩
 rw [List.mem_cons] at hb
 rcases hb with rfl | hb
 ·exact ⟨by have := h.1.size; show w.heap.size ≤ g; omega, Blk.new wr hg vs t⟩
 ·exact k.2.1 b hb
theorem Mm.pick {w wr : World} {L L' : List (Nat × List Value)} {l l' : List IntAt} (h : Mm w L l wr) (hL : ∀ b ∈ L', b ∈ L) (hl : ∀ p ∈ l', p ∈ l) : Mm w L' l' wr :=
 ⟨h.1, fun b hb => h.2.1 b (hL b hb), fun p hp => h.2.2 p (hl p hp)⟩
theorem isAt_store {wr : World} {p : IntAt} (h : IsAt wr p) {g j : Nat} {u : Value} (v : Value) (hc : wr.cell? ⟨g, j, none⟩ = some u) (hu : ∀ x, u ≠ .int .u32 x) : IsAt (wr.setCell ⟨g, j, none⟩ v) p := IsInt.store h v hc hu
theorem Mm.set {w wr : World} {L : List (Nat × List Value)} {l : List IntAt} {g : Nat} {vs : List Value} (h : Mm w ((g, vs) :: L) l wr) (hne : ∀ b ∈ L, g ≠ b.1) {j : Nat} (u0 u : Value) (hj : vs[j]? = some u0) (hu : ∀ x, u0 ≠ .int .u32 x) :
  Mm w ((g, vs.set j u) :: L) l (wr.setCell ⟨g, j, none⟩ u) := by
 obtain ⟨hg, hB⟩ := h.2.1 (g, vs) (by simp)
 have hlt : j < vs.length := by
  rcases Nat.lt_or_ge j vs.length with k | k
  ·exact k
  ·rw [List.getElem?_eq_none k] at hj; exact absurd hj (by simp)
 refine ⟨h.1.setCell (p := ⟨g, j, none⟩) hg _, fun b hb => ?_, fun p hp => isAt_store (h.2.2 p hp) u (hB.2 j u0 hj).1 hu⟩
 rw [List.mem_cons] at hb
 rcases hb with rfl | hb
 ·exact ⟨hg, hB.set hlt u⟩
 ·exact ⟨(h.2.1 b (by simp [hb])).1, (h.2.1 b (by simp [hb])).2.far (hne b hb) u⟩
theorem Mm.at_ {w wr : World} {L : List (Nat × List Value)} {l : List IntAt} (h : Mm w L l wr) {neg : Bool} {A : Option Addr} {n c : Nat} {z : Int} (hp : (neg, A, n, c, z) ∈ l) : IsInt wr neg A n c z := h.2.2 _ hp
theorem Mm.blk {w wr : World} {L : List (Nat × List Value)} {l : List IntAt} (h : Mm w L l wr) {g : Nat} {vs : List Value} (hp : (g, vs) ∈ L) : Blk wr g vs := (h.2.1 _ hp).2
theorem Blk.two {wr : World} {g : Nat} {a b : Value} (h : Blk wr g [a, b]) : wr.cell? ⟨g, 0, none⟩ = some a ∧ wr.cell? ⟨g, 1, none⟩ = some b ∧ wr.frozen? ⟨g, 0, none⟩ = false ∧ wr.frozen? ⟨g, 1, none⟩ = false ∧ g < wr.heap.size :=
 ⟨(h.2 0 a rfl).1, (h.2 1 b rfl).1, (h.2 0 a rfl).2, (h.2 1 b rfl).2, h.1⟩
theorem Blk.four {wr : World} {g : Nat} {a b c d : Value} (h : Blk wr g [a, b, c, d]) : (wr.cell? ⟨g, 0, none⟩ = some a ∧ wr.cell? ⟨g, 1, none⟩ = some b ∧ wr.cell? ⟨g, 2, none⟩ = some c ∧ wr.cell? ⟨g, 3, none⟩ = some d) ∧
  (wr.frozen? ⟨g, 0, none⟩ = false ∧ wr.frozen? ⟨g, 1, none⟩ = false ∧ wr.frozen? ⟨g, 2, none⟩ = false ∧ wr.frozen? ⟨g, 3, none⟩ = false) ∧ g < wr.heap.size :=
 ⟨⟨(h.2 0 a rfl).1, (h.2 1 b rfl).1, (h.2 2 c rfl).1, (h.2 3 d rfl).1⟩, ⟨(h.2 0 a rfl).2, (h.2 1 b rfl).2, (h.2 2 c rfl).2, (h.2 3 d rfl).2⟩, h.1⟩
theorem Mm.set2 {w wr : World} {L : List (Nat × List Value)} {l : List IntAt} {g : Nat} {b0 : Bool} {a0 : Option Addr} {n0 c0 : Nat} (h : Mm w ((g, [.bool b0, .slice a0 n0 c0]) :: L) l wr) (hne : ∀ b ∈ L, g ≠ b.1) (neg : Bool) (A : Option Addr) (n c : Nat) :
  Mm w ((g, [.bool neg, .slice A n c]) :: L) l ((wr.setCell ⟨g, 0, none⟩ (.bool neg)).setCell ⟨g, 1, none⟩ (.slice A n c)) :=
 (h.set hne (.bool b0) (.bool neg) rfl (by simp)).set hne (.slice a0 n0 c0) (.slice A n c) rfl (by simp)
theorem Mm.set4 {w wr : World} {L : List (Nat × List Value)} {l : List IntAt} {g : Nat} {b0 b1 : Bool} {a0 a1 : Option Addr} {n0 c0 n1 c1 : Nat} (h : Mm w ((g, [.bool b0, .slice a0 n0 c0, .bool b1, .slice a1 n1 c1]) :: L) l wr) (hne : ∀ b ∈ L, g ≠ b.1)
  (neg : Bool) (A : Option Addr) (n c : Nat) (neg' : Bool) (A' : Option Addr) (n' c' : Nat) :
  Mm w ((g, [.bool neg, .slice A n c, .bool neg', .slice A' n' c']) :: L) l ((((wr.setCell ⟨g, 0, none⟩ (.bool neg)).setCell ⟨g, 1, none⟩ (.slice A n c)).setCell ⟨g, 2, none⟩ (.bool neg')).setCell ⟨g, 3, none⟩ (.slice A' n' c')) :=
 (((h.set hne (.bool b0) (.bool neg) rfl (by simp)).set hne (.slice a0 n0 c0) (.slice A n c) rfl (by simp)).set hne (.bool b1) (.bool neg') rfl (by simp)).set hne (.slice a1 n1 c1) (.slice A' n' c') rfl (by simp)
theorem Mm.varz {w wr : World} {L : List (Nat × List Value)} {l : List IntAt} (h : Mm w L l wr) (vs : List Value) (t : TypeId) : Mm w ((wr.heap.size, vs) :: L) l (wr.alloc (.cells vs.toArray t)) := h.var rfl vs t
theorem Calls.withMm {P : Program} {f : FuncId} {args : Array Value} {W : World} {post : Ending → World → Prop} {w0 : World} {L : List (Nat × List Value)} {l : List IntAt} (K : Mm w0 L l W) (h : Mm w0 L l W → Calls P f args W post) : Calls P f args W post := h K
end Go.Proofs.YtgekmbfmfiikkaaGreatDoor
namespace Go.Proofs.YtgekmbfmfiikkaaGreatDoor
open Go.RowKit
theorem gcd_half_left {a b : Nat} (ha : a % 2 = 0) (hb : b % 2 = 1) : Nat.gcd (a / 2) b = Nat.gcd a b := by
 obtain ⟨c, rfl⟩ : ∃ c, a = 2 * c := ⟨a / 2, by omega⟩
 have h2 : Nat.Coprime 2 b := by
  rw [Nat.coprime_iff_gcd_eq_one, Nat.gcd_rec, hb]
  exact Nat.gcd_one_left 2
 rw [show 2 * c / 2 = c by omega, Nat.Coprime.gcd_mul_left_cancel c h2]
theorem gcd_half_right {a b : Nat} (ha : a % 2 = 1) (hb : b % 2 = 0) : Nat.gcd a (b / 2) = Nat.gcd a b := by
 rw [Nat.gcd_comm, gcd_half_left hb ha, Nat.gcd_comm]
theorem gcd_half_both {a b : Nat} (ha : a % 2 = 0) (hb : b % 2 = 0) : 2 * Nat.gcd (a / 2) (b / 2) = Nat.gcd a b := by
 obtain ⟨c, rfl⟩ : ∃ c, a = 2 * c := ⟨a / 2, by omega⟩
 obtain ⟨d, rfl⟩ : ∃ d, b = 2 * d := ⟨b / 2, by omega⟩
 rw [show 2 * c / 2 = c by omega, show 2 * d / 2 = d by omega, Nat.gcd_mul_left]
theorem gcd_less {a b : Nat} (h : b ≤ a) : Nat.gcd (a - b) b = Nat.gcd a b := by
 obtain ⟨c, rfl⟩ : ∃ c, a = c + b := ⟨a - b, by omega⟩
 rw [show c + b - b = c by omega, Nat.gcd_add_self_left]
/-! ### lowest terms -/
def tn (q : Int) (z : Int) : Int := if q < 0 then -z else z
theorem low_num {p q : Int} (hq : q ≠ 0) {g : Nat} (hg : g = Nat.gcd p.natAbs q.natAbs) : tn q (p.tdiv (g : Int)) = (Rat.divInt p q).num := by
 have hg0 : 0 < g := by rw [hg]; exact Nat.gcd_pos_of_pos_right _ (by omega)
 have e : (Int.gcd q p) = g := by rw [hg, Int.gcd_comm]; rfl
 have hd : (g : Int) ∣ p := by rw [hg]; exact Int.ofNat_dvd_left.2 (Nat.gcd_dvd_left _ _)
 rw [Rat.num_divInt, e]
 obtain ⟨k, hk⟩ := hd
 rw [hk, Int.mul_tdiv_cancel_left _ (by omega)]
 unfold tn
 by_cases h : q < 0
 ·rw [if_pos h, Int.sign_eq_neg_one_of_neg h]
  rw [show -1 * ((g : Int) * k) = (g : Int) * (-k) by rw [Int.mul_neg]; omega, Int.mul_ediv_cancel_left _ (by omega)]
 ·rw [if_neg h, Int.sign_eq_one_of_pos (by omega), Int.one_mul, Int.mul_ediv_cancel_left _ (by omega)]
theorem low_den {p q : Int} (hq : q ≠ 0) {g : Nat} (hg : g = Nat.gcd p.natAbs q.natAbs) : tn q (q.tdiv (g : Int)) = ((Rat.divInt p q).den : Int) := by
 have hg0 : 0 < g := by rw [hg]; exact Nat.gcd_pos_of_pos_right _ (by omega)
 have e : (Int.gcd q p) = g := by rw [hg, Int.gcd_comm]; rfl
 have hd : (g : Int) ∣ q := by rw [hg]; exact Int.ofNat_dvd_left.2 (Nat.gcd_dvd_right _ _)
 rw [Rat.den_divInt, e, if_neg hq]
 obtain ⟨k, hk⟩ := hd
 rw [hk, Int.mul_tdiv_cancel_left _ (by omega), Int.natAbs_mul, Int.natAbs_natCast, Nat.mul_div_cancel_left _ hg0]
 have hk' : 0 < (g : Int) := by omega
 unfold tn
 by_cases h : (g : Int) * k < 0
 ·rw [if_pos h]
  have : k < 0 := by
   rcases Int.lt_or_le k 0 with hn | hn
   ·exact hn
   ·exact absurd (Int.mul_nonneg (Int.le_of_lt hk') hn) (by omega)
  omega
 ·rw [if_neg h]
  have : 0 ≤ k := by
   rcases Int.lt_or_le k 0 with hn | hn
   ·exact absurd (Int.mul_neg_of_pos_of_neg hk' hn) h
   ·exact hn
  omega
theorem tdiv_small (z : Int) (g : Nat) : (z.tdiv (g : Int)).natAbs ≤ z.natAbs := by
 rw [Int.natAbs_tdiv]
 exact Nat.div_le_self _ _
theorem tn_abs (q z : Int) : (tn q z).natAbs = z.natAbs := by unfold tn; split <;> omega
theorem low_small {p q : Int} (hq : q ≠ 0) : (Rat.divInt p q).num.natAbs ≤ p.natAbs ∧ (Rat.divInt p q).den ≤ q.natAbs := by
 have h1 := low_num (p := p) hq rfl
 have h2 := low_den (p := p) hq rfl
 have a1 := tdiv_small p (Nat.gcd p.natAbs q.natAbs)
 have a2 := tdiv_small q (Nat.gcd p.natAbs q.natAbs)
 rw [← tn_abs q, h1] at a1
 rw [← tn_abs q, h2] at a2
 exact ⟨a1, by omega⟩
/-! ### how long numbers are -/
def Sz (x : Rat) (m : Nat) : Prop := x.num.natAbs < 2 ^ (32 * m) ∧ x.den < 2 ^ (32 * m)
theorem mul_lt_pow {a b m n : Nat} (ha : a < 2 ^ (32 * m)) (hb : b < 2 ^ (32 * n)) : a * b < 2 ^ (32 * (m + n)) := by
 rw [show 32 * (m + n) = 32 * m + 32 * n by omega, Nat.pow_add]
 rcases Nat.eq_zero_or_pos b with h | h
 ·subst h
  rw [Nat.mul_zero]
  exact Nat.mul_pos (Nat.two_pow_pos _) (Nat.two_pow_pos _)
 ·exact Nat.lt_of_lt_of_le (Nat.mul_lt_mul_of_pos_right ha h) (Nat.mul_le_mul_left _ (Nat.le_of_lt hb))
theorem add_lt_pow {a b k : Nat} (ha : a < 2 ^ (32 * k)) (hb : b < 2 ^ (32 * k)) : a + b < 2 ^ (32 * (k + 1)) := by
 rw [show 32 * (k + 1) = 32 * k + 32 by omega, Nat.pow_add]
 have := Nat.two_pow_pos (32 * k)
 omega
theorem Sz.mono {x : Rat} {m n : Nat} (h : Sz x m) (hmn : m ≤ n) : Sz x n :=
 ⟨Nat.lt_of_lt_of_le h.1 (Nat.pow_le_pow_right (by decide) (by omega)), Nat.lt_of_lt_of_le h.2 (Nat.pow_le_pow_right (by decide) (by omega))⟩
theorem Sz.divInt {p q : Int} {m : Nat} (hq : q ≠ 0) (hp : p.natAbs < 2 ^ (32 * m)) (hb : q.natAbs < 2 ^ (32 * m)) : Sz (Rat.divInt p q) m := by
 obtain ⟨h1, h2⟩ := low_small (p := p) hq
 exact ⟨by omega, by omega⟩
theorem den_ne (x : Rat) : (x.den : Int) ≠ 0 := by have := x.den_nz; omega
theorem add_frac (x y : Rat) : Rat.divInt (x.num * (y.den : Int) + y.num * (x.den : Int)) ((x.den : Int) * (y.den : Int)) = x + y := by
 rw [← Rat.divInt_add_divInt _ _ (den_ne x) (den_ne y), Rat.num_divInt_den, Rat.num_divInt_den]
theorem mul_frac (x y : Rat) : Rat.divInt (x.num * y.num) ((x.den : Int) * (y.den : Int)) = x * y := by
 rw [← Rat.divInt_mul_divInt, Rat.num_divInt_den, Rat.num_divInt_den]
theorem div_frac (x y : Rat) (hy : y ≠ 0) : Rat.divInt (x.num * (y.den : Int)) ((x.den : Int) * y.num) = x / y := by
 have hn : y.num ≠ 0 := fun h => hy (Rat.num_eq_zero.1 h)
 rw [← Rat.divInt_mul_divInt, Rat.num_divInt_den, Rat.div_def, Rat.inv_def]
theorem den_mul_ne (x y : Rat) : (x.den : Int) * (y.den : Int) ≠ 0 := Int.mul_ne_zero (den_ne x) (den_ne y)
theorem Sz.mul {x y : Rat} {m n : Nat} (hx : Sz x m) (hy : Sz y n) : Sz (x * y) (m + n) := by
 rw [← mul_frac]
 refine Sz.divInt (den_mul_ne x y) ?_ ?_
 ·rw [Int.natAbs_mul]; exact mul_lt_pow hx.1 hy.1
 ·rw [Int.natAbs_mul, Int.natAbs_natCast, Int.natAbs_natCast]; exact mul_lt_pow hx.2 hy.2
theorem Sz.add {x y : Rat} {m n : Nat} (hx : Sz x m) (hy : Sz y n) : Sz (x + y) (m + n + 1) := by
 rw [← add_frac]
 refine Sz.divInt (den_mul_ne x y) ?_ ?_
 ·have h1 := mul_lt_pow hx.1 hy.2
  have h2 := mul_lt_pow hy.1 hx.2
  rw [Nat.add_comm n m] at h2
  have h3 := add_lt_pow h1 h2
  have h4 := Int.natAbs_add_le (x.num * (y.den : Int)) (y.num * (x.den : Int))
  rw [Int.natAbs_mul, Int.natAbs_mul, Int.natAbs_natCast, Int.natAbs_natCast] at h4
  omega
 ·rw [Int.natAbs_mul, Int.natAbs_natCast, Int.natAbs_natCast]
  exact Nat.lt_of_lt_of_le (mul_lt_pow hx.2 hy.2) (Nat.pow_le_pow_right (by decide) (by omega))
theorem num_neg (x : Rat) : (-x).num = -x.num := rfl
theorem Sz.neg {x : Rat} {m : Nat} (hx : Sz x m) : Sz (-x) m := by
 refine ⟨?_, hx.2⟩
 rw [num_neg, Int.natAbs_neg]
 exact hx.1
theorem Sz.sub {x y : Rat} {m n : Nat} (hx : Sz x m) (hy : Sz y n) : Sz (x - y) (m + n + 1) := by
 rw [Rat.sub_eq_add_neg]
 exact hx.add hy.neg
theorem Sz.div {x y : Rat} {m n : Nat} (hx : Sz x m) (hy : Sz y n) (h0 : y ≠ 0) : Sz (x / y) (m + n) := by
 have hn : y.num ≠ 0 := fun h => h0 (Rat.num_eq_zero.1 h)
 rw [← div_frac x y h0]
 refine Sz.divInt (Int.mul_ne_zero (den_ne x) hn) ?_ ?_
 ·rw [Int.natAbs_mul, Int.natAbs_natCast]; exact mul_lt_pow hx.1 hy.2
 ·rw [Int.natAbs_mul, Int.natAbs_natCast]; exact mul_lt_pow hx.2 hy.1
/-! ### held against one another -/
def rcmp (x y : Rat) : Int := if x < y then -1 else if y < x then 1 else 0
theorem rcmp_sign (x y : Rat) : (x.num * (y.den : Int) - y.num * (x.den : Int)).sign = rcmp x y := by
 unfold rcmp
 by_cases h : x < y
 ·rw [if_pos h]
  have := (Rat.lt_iff _ _).1 h
  exact Int.sign_eq_neg_one_of_neg (by omega)
 ·rw [if_neg h]
  by_cases k : y < x
  ·rw [if_pos k]
   have := (Rat.lt_iff _ _).1 k
   exact Int.sign_eq_one_of_pos (by omega)
  ·rw [if_neg k]
   have h1 : ¬ x.num * (y.den : Int) < y.num * (x.den : Int) := fun e => h ((Rat.lt_iff _ _).2 e)
   have h2 : ¬ y.num * (x.den : Int) < x.num * (y.den : Int) := fun e => k ((Rat.lt_iff _ _).2 e)
   rw [show x.num * (y.den : Int) - y.num * (x.den : Int) = 0 by omega]
   rfl
end Go.Proofs.YtgekmbfmfiikkaaGreatDoor
/-! The references' floats (polestarref04): one; quotients by a power of two. -/
namespace Go.Proofs.YtgekmbfmfiikkaaGreatDoor
open Go.RowKit
theorem isInt_len_mono {w w' : World} {neg neg' : Bool} {A A' : Option Addr} {n c n' c' : Nat} {x y : Int} (h : IsInt w neg A n c x) (k : IsInt w' neg' A' n' c' y) (e : x.natAbs ≤ y.natAbs) : n ≤ n' := by
 refine isInt_len_le h ?_
 obtain ⟨b, hb, cb, _, rfl⟩ := k
 have h1 : ∀ (s : Bool) (m : Nat), (sgnd s m).natAbs = m := by intro s m; unfold sgnd; split <;> omega
 rw [h1] at e
 have := Lm.lv_lt hb.ok
 rw [hb.len] at this
 omega
end Go.Proofs.YtgekmbfmfiikkaaGreatDoor
/-! The references' floats (polestarref04): the greatest float that is not above a number times a power of two. -/
namespace Go.Proofs.YtgekmbfmfiikkaaGreatDoor
open Go.RowKit
theorem ref_bits_of (neg : Bool) (A : Option Addr) (n c : Nat) (x : Int) (L : Nat) (w : World) (hx : IsInt w neg A n c x) (hn : n ≤ 100000000) (hL : Hid (bitLen x.natAbs = L)) :
  Calls Tryz.prog 285 #[.agg #[.bool neg, .slice A n c]] w (RetV w (.int .i64 (L : Int))) := by
 have := ref_bits_any neg A n c x w hx hn
 rwa [hL.out] at this
end Go.Proofs.YtgekmbfmfiikkaaGreatDoor
/-! The references' floats (polestarref04): signs, the least exponent, the floats beside. -/
namespace Go.Proofs.YtgekmbfmfiikkaaGreatDoor
open Go.RowKit
theorem ref_sign_of (neg : Bool) (A : Option Addr) (n c : Nat) (z s : Int) (w : World) (h : IsInt w neg A n c z) (hs : Hid (z.sign = s)) :
  Calls Tryz.prog 175 #[.agg #[.bool neg, .slice A n c]] w (RetV w (.int .i64 s)) := by
 have := ref_sign_any neg A n c z w h
 rwa [hs.out] at this
end Go.Proofs.YtgekmbfmfiikkaaGreatDoor
/-! The program's floats straight below and above a number (edge): under. -/
namespace Go.Proofs.YtgekmbfmfiikkaaGreatDoor
open Go.RowKit
theorem bitLen_spec {x : Nat} (h : x ≠ 0) : 1 ≤ bitLen x ∧ 2 ^ (bitLen x - 1) ≤ x ∧ x < 2 ^ bitLen x := by
 unfold bitLen
 rw [if_neg h]
 exact ⟨by omega, Nat.log2_self_le h, Nat.lt_log2_self⟩
theorem bitLen_step {x : Nat} (h : x ≠ 0) : bitLen x = 1 + bitLen (x / 2) := by
 by_cases h1 : x / 2 = 0
 ·have : x = 1 := by omega
  subst this; rfl
 ·have := bitLen_shift x 1 (by simpa using h1)
  rw [Nat.pow_one] at this
  omega
theorem lib_bitLenAux : ∀ (f x : Nat), x < 2 ^ f → Lib.bitLenAux f x = bitLen x
 | 0, x, h => by
  have : x = 0 := by simpa using h
  subst this; rfl
 | f + 1, x, h => by
  unfold Lib.bitLenAux
  by_cases h0 : x = 0
  ·subst h0; rfl
  ·rw [if_neg h0, lib_bitLenAux f (x / 2) (by rw [Nat.pow_succ] at h; omega), bitLen_step h0]
theorem lib_bitLen {x : Nat} (h : x < 2 ^ 64) : Lib.bitLen x = bitLen x := lib_bitLenAux 64 x h
end Go.Proofs.YtgekmbfmfiikkaaGreatDoor
/-! The references' whole numbers and floats: Divide by any number; quotients by any number. -/
namespace Go.Proofs.YtgekmbfmfiikkaaGreatDoor
open Go.RowKit
theorem isInt_lt {w : World} {neg : Bool} {A : Option Addr} {n c : Nat} {z : Int} (h : IsInt w neg A n c z) : z.natAbs < Lm.B ^ n := by
 obtain ⟨l, hl, _, _, rfl⟩ := h
 have h1 : (sgnd neg (Lm.lv l)).natAbs = Lm.lv l := by unfold sgnd; split <;> omega
 rw [h1, ← hl.len]
 exact Lm.lv_lt hl.ok
theorem ref_Divide_any (neg neg' : Bool) (A A' : Option Addr) (n c n' c' : Nat) (x y : Int) (w : World) (hx : IsInt w neg A n c x) (hy : IsInt w neg' A' n' c' y) (hn : n ≤ 1000000000) (hn' : n' ≤ 1000000) (hy0 : y ≠ 0) :
  Calls Tryz.prog 286 #[.agg #[.bool neg, .slice A n c], .agg #[.bool neg', .slice A' n' c']] w (RetTwoInts w (x.tdiv y) (x.tmod y)) := by
 have h0 : n' ≠ 0 := fun e => hy0 ((isInt_zero hy).1 e)
 by_cases h1 : n' = 1
 ·subst h1
  exact ref_Divide_one _ _ _ _ _ _ _ _ _ _ hx hy hn
 ·obtain ⟨a, ha, ca, _, rfl⟩ := hx
  obtain ⟨b, hb, cb, _, rfl⟩ := hy
  rw [sgnd_tdiv, sgnd_tmod]
  exact ref_quo_of _ _ _ _ _ _ _ _ _ _ _ ha hb hn (by omega) (fun W hA hB => ref_divide_long _ _ _ _ _ _ _ _ _ hA hB cb hn hn' (by omega))
end Go.Proofs.YtgekmbfmfiikkaaGreatDoor
