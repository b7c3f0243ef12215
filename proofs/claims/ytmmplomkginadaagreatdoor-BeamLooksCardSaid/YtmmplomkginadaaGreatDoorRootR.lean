/-
  A walk's memory: blocks of the call's own that it keeps track of, whole numbers that stay readable.
  Fractions, plainly: the greatest common divisor by halving, lowest terms, what is held against one another.
  The references floats (polestarref04): worth, the floats beside, Two.
  Floats rounded down and up (round): Two, Next, Add, Sub.
  The floats straight below and above a number (edge).
  Products and quotients (round).
  The references floats (polestarref04): Add, Mul, Quo.
  Roots, rounded down and up (round.Sqrt).
  The references' roots: of whole numbers (polestarref01), of floats (polestarref04).
-/
import Derived.Test.YtmmplomkginadaaGreatDoorRefV
import Derived.Test.YtmmplomkginadaaGreatDoorZero
import Derived.Test.YtmmplomkginadaaGreatDoorFlt
import Derived.Deep.CutRange
import Derived.Test.YtmmplomkginadaaGreatDoorShelf
import Derived.Laws.MathBits
import Derived.Deep.LoopGhost
namespace Go.Proofs.YtmmplomkginadaaGreatDoor
open Go.RowKit

abbrev IntAt := Bool × Option Addr × Nat × Nat × Int
def IsAt (wr : World) (p : IntAt) : Prop := IsInt wr p.1 p.2.1 p.2.2.1 p.2.2.2.1 p.2.2.2.2
/-- A block of the call's own: its cells' values, none of them frozen. -/
def Blk (wr : World) (g : Nat) (vs : List Value) : Prop := g < wr.heap.size ∧ ∀ k v, vs[k]? = some v → wr.cell? ⟨g, k, none⟩ = some v ∧ wr.frozen? ⟨g, k, none⟩ = false
theorem Blk.next {wr w' : World} {g : Nat} {vs : List Value} (h : Blk wr g vs) (hb : Below wr.heap.size wr w') : Blk w' g vs :=
  ⟨Nat.lt_of_lt_of_le h.1 hb.size, fun k v hk => ⟨((bcell hb).1 _ _ h.1).trans (h.2 k v hk).1, ((bcell hb).2 _ _ h.1).trans (h.2 k v hk).2⟩⟩
theorem Blk.new (w : World) {g : Nat} (hg : w.heap.size = g) (vs : List Value) (t : TypeId) : Blk (w.alloc (.cells vs.toArray t)) g vs := by
  subst hg
  refine ⟨by simp, fun k v hk => ?_⟩
  have e : (w.alloc (.cells vs.toArray t)).heap[w.heap.size]? = some (.cells vs.toArray t (0, 0)) := heap_alloc_new w _
  refine ⟨?_, ?_⟩
  · rw [cell_of_row _ w.heap.size k vs.toArray t (0, 0) e]
    simpa using hk
  · unfold World.frozen?
    rw [e]
    simp
theorem Blk.far {wr : World} {g g' j : Nat} {vs : List Value} (h : Blk wr g vs) (hne : g' ≠ g) (u : Value) : Blk (wr.setCell ⟨g', j, none⟩ u) g vs := by
  refine ⟨by simpa [World.setCell] using h.1, fun k v hk => ?_⟩
  obtain ⟨c, f⟩ := h.2 k v hk
  refine ⟨?_, by simpa [go_sem] using f⟩
  rw [World.cell?_setCell_other wr ⟨g', j, none⟩ ⟨g, k, none⟩ _ (by intro q; injection q with q; omega)]
  exact c
theorem Blk.set {wr : World} {g j : Nat} {vs : List Value} (h : Blk wr g vs) (hj : j < vs.length) (u : Value) : Blk (wr.setCell ⟨g, j, none⟩ u) g (vs.set j u) := by
  refine ⟨by simpa [World.setCell] using h.1, fun k v hk => ?_⟩
  by_cases e : j = k
  · subst e
    obtain ⟨c, f⟩ := h.2 j vs[j] (List.getElem?_eq_getElem hj)
    rw [List.getElem?_set_self hj] at hk
    injection hk with hk
    subst hk
    exact ⟨by simp [go_sem, c], by simpa [go_sem] using f⟩
  · rw [List.getElem?_set_ne e] at hk
    obtain ⟨c, f⟩ := h.2 k v hk
    refine ⟨?_, by simpa [go_sem] using f⟩
    rw [World.cell?_setCell_other wr ⟨g, j, none⟩ ⟨g, k, none⟩ _ (by intro q; injection q with _ q; omega)]
    exact c
def Mm (w : World) (L : List (Nat × List Value)) (l : List IntAt) (wr : World) : Prop :=
  Below w.heap.size w wr ∧ (∀ b ∈ L, w.heap.size ≤ b.1 ∧ Blk wr b.1 b.2) ∧ ∀ p ∈ l, IsAt wr p
theorem Mm.nil (w : World) : Mm w [] [] w := ⟨Below.refl _ _, fun b hb => absurd hb (by simp), fun b hb => absurd hb (by simp)⟩
theorem Mm.int {w wr : World} {L : List (Nat × List Value)} {l : List IntAt} (h : Mm w L l wr) {neg : Bool} {A : Option Addr} {n c : Nat} {z : Int} (hI : IsInt wr neg A n c z) : Mm w L ((neg, A, n, c, z) :: l) wr :=
  ⟨h.1, h.2.1, fun p hp => by
    rw [List.mem_cons] at hp
    rcases hp with rfl | hp
    · exact hI
    · exact h.2.2 p hp⟩
theorem Mm.next {w wr w' : World} {L : List (Nat × List Value)} {l : List IntAt} (h : Mm w L l wr) (hb : Below wr.heap.size wr w') : Mm w L l w' :=
  ⟨below_next h.1 hb, fun b hb' => ⟨(h.2.1 b hb').1, (h.2.1 b hb').2.next hb⟩, fun p hp => IsInt.below (h.2.2 p hp) hb⟩
theorem Mm.box {w wr : World} {L : List (Nat × List Value)} {l : List IntAt} (h : Mm w L l wr) (o : Obj) : Mm w L l (wr.alloc o) := h.next ((Below.refl _ _).alloc (Nat.le_refl _) o)
theorem Mm.drewN {w wr : World} {L : List (Nat × List Value)} {l : List IntAt} (h : Mm w L l wr) (n : Nat) : Mm w L l (wr.drewN n) := h.next (below_drewN (Below.refl _ _) n)
theorem Mm.drew {w wr : World} {L : List (Nat × List Value)} {l : List IntAt} (h : Mm w L l wr) : Mm w L l wr.drew := h.next ⟨rfl, rfl, rfl, Nat.le_refl _, fun _ _ => rfl⟩
theorem Mm.var {w wr : World} {L : List (Nat × List Value)} {l : List IntAt} (h : Mm w L l wr) {g : Nat} (hg : wr.heap.size = g) (vs : List Value) (t : TypeId) : Mm w ((g, vs) :: L) l (wr.alloc (.cells vs.toArray t)) := by
  have k := h.box (.cells vs.toArray t)
  refine ⟨k.1, fun b hb => ?_, k.2.2⟩
  rw [List.mem_cons] at hb
  rcases hb with rfl | hb
  · exact ⟨by have := h.1.size; show w.heap.size ≤ g; omega, Blk.new wr hg vs t⟩
  · exact k.2.1 b hb
theorem Mm.pick {w wr : World} {L L' : List (Nat × List Value)} {l l' : List IntAt} (h : Mm w L l wr) (hL : ∀ b ∈ L', b ∈ L) (hl : ∀ p ∈ l', p ∈ l) : Mm w L' l' wr :=
  ⟨h.1, fun b hb => h.2.1 b (hL b hb), fun p hp => h.2.2 p (hl p hp)⟩
theorem isAt_store {wr : World} {p : IntAt} (h : IsAt wr p) {g j : Nat} {u : Value} (v : Value) (hc : wr.cell? ⟨g, j, none⟩ = some u) (hu : ∀ x, u ≠ .int .u32 x) : IsAt (wr.setCell ⟨g, j, none⟩ v) p := IsInt.store h v hc hu
/-- A store into the block ahead of the list. -/
theorem Mm.set {w wr : World} {L : List (Nat × List Value)} {l : List IntAt} {g : Nat} {vs : List Value} (h : Mm w ((g, vs) :: L) l wr) (hne : ∀ b ∈ L, g ≠ b.1) {j : Nat} (u0 u : Value) (hj : vs[j]? = some u0) (hu : ∀ x, u0 ≠ .int .u32 x) :
    Mm w ((g, vs.set j u) :: L) l (wr.setCell ⟨g, j, none⟩ u) := by
  obtain ⟨hg, hB⟩ := h.2.1 (g, vs) (by simp)
  have hlt : j < vs.length := by
    rcases Nat.lt_or_ge j vs.length with k | k
    · exact k
    · rw [List.getElem?_eq_none k] at hj; exact absurd hj (by simp)
  refine ⟨h.1.setCell (p := ⟨g, j, none⟩) hg _, fun b hb => ?_, fun p hp => isAt_store (h.2.2 p hp) u (hB.2 j u0 hj).1 hu⟩
  rw [List.mem_cons] at hb
  rcases hb with rfl | hb
  · exact ⟨hg, hB.set hlt u⟩
  · exact ⟨(h.2.1 b (by simp [hb])).1, (h.2.1 b (by simp [hb])).2.far (hne b hb) u⟩
theorem Mm.at_ {w wr : World} {L : List (Nat × List Value)} {l : List IntAt} (h : Mm w L l wr) {neg : Bool} {A : Option Addr} {n c : Nat} {z : Int} (hp : (neg, A, n, c, z) ∈ l) : IsInt wr neg A n c z := h.2.2 _ hp
theorem Mm.blk {w wr : World} {L : List (Nat × List Value)} {l : List IntAt} (h : Mm w L l wr) {g : Nat} {vs : List Value} (hp : (g, vs) ∈ L) : Blk wr g vs := (h.2.1 _ hp).2
/-- What the walk is to see of a block of two cells, of four. -/
theorem Blk.two {wr : World} {g : Nat} {a b : Value} (h : Blk wr g [a, b]) : wr.cell? ⟨g, 0, none⟩ = some a ∧ wr.cell? ⟨g, 1, none⟩ = some b ∧ wr.frozen? ⟨g, 0, none⟩ = false ∧ wr.frozen? ⟨g, 1, none⟩ = false ∧ g < wr.heap.size :=
  ⟨(h.2 0 a rfl).1, (h.2 1 b rfl).1, (h.2 0 a rfl).2, (h.2 1 b rfl).2, h.1⟩
theorem Blk.four {wr : World} {g : Nat} {a b c d : Value} (h : Blk wr g [a, b, c, d]) : (wr.cell? ⟨g, 0, none⟩ = some a ∧ wr.cell? ⟨g, 1, none⟩ = some b ∧ wr.cell? ⟨g, 2, none⟩ = some c ∧ wr.cell? ⟨g, 3, none⟩ = some d) ∧
    (wr.frozen? ⟨g, 0, none⟩ = false ∧ wr.frozen? ⟨g, 1, none⟩ = false ∧ wr.frozen? ⟨g, 2, none⟩ = false ∧ wr.frozen? ⟨g, 3, none⟩ = false) ∧ g < wr.heap.size :=
  ⟨⟨(h.2 0 a rfl).1, (h.2 1 b rfl).1, (h.2 2 c rfl).1, (h.2 3 d rfl).1⟩, ⟨(h.2 0 a rfl).2, (h.2 1 b rfl).2, (h.2 2 c rfl).2, (h.2 3 d rfl).2⟩, h.1⟩
/-- A whole number stored into a block of two cells. -/
theorem Mm.set2 {w wr : World} {L : List (Nat × List Value)} {l : List IntAt} {g : Nat} {b0 : Bool} {a0 : Option Addr} {n0 c0 : Nat} (h : Mm w ((g, [.bool b0, .slice a0 n0 c0]) :: L) l wr) (hne : ∀ b ∈ L, g ≠ b.1) (neg : Bool) (A : Option Addr) (n c : Nat) :
    Mm w ((g, [.bool neg, .slice A n c]) :: L) l ((wr.setCell ⟨g, 0, none⟩ (.bool neg)).setCell ⟨g, 1, none⟩ (.slice A n c)) :=
  (h.set hne (.bool b0) (.bool neg) rfl (by simp)).set hne (.slice a0 n0 c0) (.slice A n c) rfl (by simp)
theorem Mm.set4 {w wr : World} {L : List (Nat × List Value)} {l : List IntAt} {g : Nat} {b0 b1 : Bool} {a0 a1 : Option Addr} {n0 c0 n1 c1 : Nat} (h : Mm w ((g, [.bool b0, .slice a0 n0 c0, .bool b1, .slice a1 n1 c1]) :: L) l wr) (hne : ∀ b ∈ L, g ≠ b.1)
    (neg : Bool) (A : Option Addr) (n c : Nat) (neg' : Bool) (A' : Option Addr) (n' c' : Nat) :
    Mm w ((g, [.bool neg, .slice A n c, .bool neg', .slice A' n' c']) :: L) l ((((wr.setCell ⟨g, 0, none⟩ (.bool neg)).setCell ⟨g, 1, none⟩ (.slice A n c)).setCell ⟨g, 2, none⟩ (.bool neg')).setCell ⟨g, 3, none⟩ (.slice A' n' c')) :=
  (((h.set hne (.bool b0) (.bool neg) rfl (by simp)).set hne (.slice a0 n0 c0) (.slice A n c) rfl (by simp)).set hne (.bool b1) (.bool neg') rfl (by simp)).set hne (.slice a1 n1 c1) (.slice A' n' c') rfl (by simp)
end Go.Proofs.YtmmplomkginadaaGreatDoor

namespace Go.Proofs.YtmmplomkginadaaGreatDoor
open Go.RowKit

theorem gcd_half_left {a b : Nat} (ha : a % 2 = 0) (hb : b % 2 = 1) : Nat.gcd (a / 2) b = Nat.gcd a b := by
  obtain ⟨c, rfl⟩ : ∃ c, a = 2 * c := ⟨a / 2, by omega⟩
  have h2 : Nat.Coprime 2 b := by
    rw [Nat.coprime_iff_gcd_eq_one, Nat.gcd_rec, hb]
    exact Nat.gcd_one_left 2
  rw [show 2 * c / 2 = c by omega, Nat.Coprime.gcd_mul_left_cancel c h2]
theorem gcd_half_right {a b : Nat} (ha : a % 2 = 1) (hb : b % 2 = 0) : Nat.gcd a (b / 2) = Nat.gcd a b := by
  rw [Nat.gcd_comm, gcd_half_left hb ha, Nat.gcd_comm]
theorem gcd_half_both {a b : Nat} (ha : a % 2 = 0) (hb : b % 2 = 0) : 2 * Nat.gcd (a / 2) (b / 2) = Nat.gcd a b := by
  obtain ⟨c, rfl⟩ : ∃ c, a = 2 * c := ⟨a / 2, by omega⟩
  obtain ⟨d, rfl⟩ : ∃ d, b = 2 * d := ⟨b / 2, by omega⟩
  rw [show 2 * c / 2 = c by omega, show 2 * d / 2 = d by omega, Nat.gcd_mul_left]
theorem gcd_less {a b : Nat} (h : b ≤ a) : Nat.gcd (a - b) b = Nat.gcd a b := by
  obtain ⟨c, rfl⟩ : ∃ c, a = c + b := ⟨a - b, by omega⟩
  rw [show c + b - b = c by omega, Nat.gcd_add_self_left]

/-! ### lowest terms -/
/-- Turned, if the denominator is below nought. -/
def tn (q : Int) (z : Int) : Int := if q < 0 then -z else z
theorem low_num {p q : Int} (hq : q ≠ 0) {g : Nat} (hg : g = Nat.gcd p.natAbs q.natAbs) : tn q (p.tdiv (g : Int)) = (Rat.divInt p q).num := by
  have hg0 : 0 < g := by rw [hg]; exact Nat.gcd_pos_of_pos_right _ (by omega)
  have e : (Int.gcd q p) = g := by rw [hg, Int.gcd_comm]; rfl
  have hd : (g : Int) ∣ p := by rw [hg]; exact Int.ofNat_dvd_left.2 (Nat.gcd_dvd_left _ _)
  rw [Rat.num_divInt, e]
  obtain ⟨k, hk⟩ := hd
  rw [hk, Int.mul_tdiv_cancel_left _ (by omega)]
  unfold tn
  by_cases h : q < 0
  · rw [if_pos h, Int.sign_eq_neg_one_of_neg h]
    rw [show -1 * ((g : Int) * k) = (g : Int) * (-k) by rw [Int.mul_neg]; omega, Int.mul_ediv_cancel_left _ (by omega)]
  · rw [if_neg h, Int.sign_eq_one_of_pos (by omega), Int.one_mul, Int.mul_ediv_cancel_left _ (by omega)]
theorem low_den {p q : Int} (hq : q ≠ 0) {g : Nat} (hg : g = Nat.gcd p.natAbs q.natAbs) : tn q (q.tdiv (g : Int)) = ((Rat.divInt p q).den : Int) := by
  have hg0 : 0 < g := by rw [hg]; exact Nat.gcd_pos_of_pos_right _ (by omega)
  have e : (Int.gcd q p) = g := by rw [hg, Int.gcd_comm]; rfl
  have hd : (g : Int) ∣ q := by rw [hg]; exact Int.ofNat_dvd_left.2 (Nat.gcd_dvd_right _ _)
  rw [Rat.den_divInt, e, if_neg hq]
  obtain ⟨k, hk⟩ := hd
  rw [hk, Int.mul_tdiv_cancel_left _ (by omega), Int.natAbs_mul, Int.natAbs_natCast, Nat.mul_div_cancel_left _ hg0]
  have hk' : 0 < (g : Int) := by omega
  unfold tn
  by_cases h : (g : Int) * k < 0
  · rw [if_pos h]
    have : k < 0 := by
      rcases Int.lt_or_le k 0 with hn | hn
      · exact hn
      · exact absurd (Int.mul_nonneg (Int.le_of_lt hk') hn) (by omega)
    omega
  · rw [if_neg h]
    have : 0 ≤ k := by
      rcases Int.lt_or_le k 0 with hn | hn
      · exact absurd (Int.mul_neg_of_pos_of_neg hk' hn) h
      · exact hn
    omega
theorem tdiv_small (z : Int) (g : Nat) : (z.tdiv (g : Int)).natAbs ≤ z.natAbs := by
  rw [Int.natAbs_tdiv]
  exact Nat.div_le_self _ _
theorem tn_abs (q z : Int) : (tn q z).natAbs = z.natAbs := by unfold tn; split <;> omega
theorem low_small {p q : Int} (hq : q ≠ 0) : (Rat.divInt p q).num.natAbs ≤ p.natAbs ∧ (Rat.divInt p q).den ≤ q.natAbs := by
  have h1 := low_num (p := p) hq rfl
  have h2 := low_den (p := p) hq rfl
  have a1 := tdiv_small p (Nat.gcd p.natAbs q.natAbs)
  have a2 := tdiv_small q (Nat.gcd p.natAbs q.natAbs)
  rw [← tn_abs q, h1] at a1
  rw [← tn_abs q, h2] at a2
  exact ⟨a1, by omega⟩

/-! ### how long numbers are -/
/-- Both numbers of a fraction have m limbs at most. -/
def Sz (x : Rat) (m : Nat) : Prop := x.num.natAbs < 2 ^ (32 * m) ∧ x.den < 2 ^ (32 * m)
theorem mul_lt_pow {a b m n : Nat} (ha : a < 2 ^ (32 * m)) (hb : b < 2 ^ (32 * n)) : a * b < 2 ^ (32 * (m + n)) := by
  rw [show 32 * (m + n) = 32 * m + 32 * n by omega, Nat.pow_add]
  rcases Nat.eq_zero_or_pos b with h | h
  · subst h
    rw [Nat.mul_zero]
    exact Nat.mul_pos (Nat.two_pow_pos _) (Nat.two_pow_pos _)
  · exact Nat.lt_of_lt_of_le (Nat.mul_lt_mul_of_pos_right ha h) (Nat.mul_le_mul_left _ (Nat.le_of_lt hb))
theorem add_lt_pow {a b k : Nat} (ha : a < 2 ^ (32 * k)) (hb : b < 2 ^ (32 * k)) : a + b < 2 ^ (32 * (k + 1)) := by
  rw [show 32 * (k + 1) = 32 * k + 32 by omega, Nat.pow_add]
  have := Nat.two_pow_pos (32 * k)
  omega
theorem Sz.mono {x : Rat} {m n : Nat} (h : Sz x m) (hmn : m ≤ n) : Sz x n :=
  ⟨Nat.lt_of_lt_of_le h.1 (Nat.pow_le_pow_right (by decide) (by omega)), Nat.lt_of_lt_of_le h.2 (Nat.pow_le_pow_right (by decide) (by omega))⟩
theorem Sz.divInt {p q : Int} {m : Nat} (hq : q ≠ 0) (hp : p.natAbs < 2 ^ (32 * m)) (hb : q.natAbs < 2 ^ (32 * m)) : Sz (Rat.divInt p q) m := by
  obtain ⟨h1, h2⟩ := low_small (p := p) hq
  exact ⟨by omega, by omega⟩
theorem den_ne (x : Rat) : (x.den : Int) ≠ 0 := by have := x.den_nz; omega
theorem add_frac (x y : Rat) : Rat.divInt (x.num * (y.den : Int) + y.num * (x.den : Int)) ((x.den : Int) * (y.den : Int)) = x + y := by
  rw [← Rat.divInt_add_divInt _ _ (den_ne x) (den_ne y), Rat.num_divInt_den, Rat.num_divInt_den]
theorem mul_frac (x y : Rat) : Rat.divInt (x.num * y.num) ((x.den : Int) * (y.den : Int)) = x * y := by
  rw [← Rat.divInt_mul_divInt, Rat.num_divInt_den, Rat.num_divInt_den]
theorem div_frac (x y : Rat) (hy : y ≠ 0) : Rat.divInt (x.num * (y.den : Int)) ((x.den : Int) * y.num) = x / y := by
  have hn : y.num ≠ 0 := fun h => hy (Rat.num_eq_zero.1 h)
  rw [← Rat.divInt_mul_divInt, Rat.num_divInt_den, Rat.div_def, Rat.inv_def]
theorem den_mul_ne (x y : Rat) : (x.den : Int) * (y.den : Int) ≠ 0 := Int.mul_ne_zero (den_ne x) (den_ne y)
theorem Sz.mul {x y : Rat} {m n : Nat} (hx : Sz x m) (hy : Sz y n) : Sz (x * y) (m + n) := by
  rw [← mul_frac]
  refine Sz.divInt (den_mul_ne x y) ?_ ?_
  · rw [Int.natAbs_mul]; exact mul_lt_pow hx.1 hy.1
  · rw [Int.natAbs_mul, Int.natAbs_natCast, Int.natAbs_natCast]; exact mul_lt_pow hx.2 hy.2
theorem Sz.add {x y : Rat} {m n : Nat} (hx : Sz x m) (hy : Sz y n) : Sz (x + y) (m + n + 1) := by
  rw [← add_frac]
  refine Sz.divInt (den_mul_ne x y) ?_ ?_
  · have h1 := mul_lt_pow hx.1 hy.2
    have h2 := mul_lt_pow hy.1 hx.2
    rw [Nat.add_comm n m] at h2
    have h3 := add_lt_pow h1 h2
    have h4 := Int.natAbs_add_le (x.num * (y.den : Int)) (y.num * (x.den : Int))
    rw [Int.natAbs_mul, Int.natAbs_mul, Int.natAbs_natCast, Int.natAbs_natCast] at h4
    omega
  · rw [Int.natAbs_mul, Int.natAbs_natCast, Int.natAbs_natCast]
    exact Nat.lt_of_lt_of_le (mul_lt_pow hx.2 hy.2) (Nat.pow_le_pow_right (by decide) (by omega))
theorem num_neg (x : Rat) : (-x).num = -x.num := rfl
theorem Sz.neg {x : Rat} {m : Nat} (hx : Sz x m) : Sz (-x) m := by
  refine ⟨?_, hx.2⟩
  rw [num_neg, Int.natAbs_neg]
  exact hx.1
theorem Sz.sub {x y : Rat} {m n : Nat} (hx : Sz x m) (hy : Sz y n) : Sz (x - y) (m + n + 1) := by
  rw [Rat.sub_eq_add_neg]
  exact hx.add hy.neg
theorem Sz.div {x y : Rat} {m n : Nat} (hx : Sz x m) (hy : Sz y n) (h0 : y ≠ 0) : Sz (x / y) (m + n) := by
  have hn : y.num ≠ 0 := fun h => h0 (Rat.num_eq_zero.1 h)
  rw [← div_frac x y h0]
  refine Sz.divInt (Int.mul_ne_zero (den_ne x) hn) ?_ ?_
  · rw [Int.natAbs_mul, Int.natAbs_natCast]; exact mul_lt_pow hx.1 hy.2
  · rw [Int.natAbs_mul, Int.natAbs_natCast]; exact mul_lt_pow hx.2 hy.1

/-! ### held against one another -/
def rcmp (x y : Rat) : Int := if x < y then -1 else if y < x then 1 else 0
theorem rcmp_sign (x y : Rat) : (x.num * (y.den : Int) - y.num * (x.den : Int)).sign = rcmp x y := by
  unfold rcmp
  by_cases h : x < y
  · rw [if_pos h]
    have := (Rat.lt_iff _ _).1 h
    exact Int.sign_eq_neg_one_of_neg (by omega)
  · rw [if_neg h]
    by_cases k : y < x
    · rw [if_pos k]
      have := (Rat.lt_iff _ _).1 k
      exact Int.sign_eq_one_of_pos (by omega)
    · rw [if_neg k]
      have h1 : ¬ x.num * (y.den : Int) < y.num * (x.den : Int) := fun e => h ((Rat.lt_iff _ _).2 e)
      have h2 : ¬ y.num * (x.den : Int) < x.num * (y.den : Int) := fun e => k ((Rat.lt_iff _ _).2 e)
      rw [show x.num * (y.den : Int) - y.num * (x.den : Int) = 0 by omega]
      rfl
end Go.Proofs.YtmmplomkginadaaGreatDoor

/-! The references' floats (polestarref04): one; quotients by a power of two. -/
namespace Go.Proofs.YtmmplomkginadaaGreatDoor
open Go.RowKit

theorem isInt_len_mono {w w' : World} {neg neg' : Bool} {A A' : Option Addr} {n c n' c' : Nat} {x y : Int} (h : IsInt w neg A n c x) (k : IsInt w' neg' A' n' c' y) (e : x.natAbs ≤ y.natAbs) : n ≤ n' := by
  refine isInt_len_le h ?_
  obtain ⟨b, hb, cb, _, rfl⟩ := k
  have h1 : ∀ (s : Bool) (m : Nat), (sgnd s m).natAbs = m := by intro s m; unfold sgnd; split <;> omega
  rw [h1] at e
  have := Lm.lv_lt hb.ok
  rw [hb.len] at this
  omega
end Go.Proofs.YtmmplomkginadaaGreatDoor


/-! The references' floats (polestarref04): the greatest float that is not above a number times a power of two. -/
namespace Go.Proofs.YtmmplomkginadaaGreatDoor
open Go.RowKit

theorem ref_bits_of (neg : Bool) (A : Option Addr) (n c : Nat) (x : Int) (L : Nat) (w : World) (hx : IsInt w neg A n c x) (hn : n ≤ 100000000) (hL : Hid (bitLen x.natAbs = L)) :
    Calls Tryz.prog 296 #[.agg #[.bool neg, .slice A n c]] w (RetV w (.int .i64 (L : Int))) := by
  have := ref_bits_any neg A n c x w hx hn
  rwa [hL.out] at this

end Go.Proofs.YtmmplomkginadaaGreatDoor

/-! The references' floats (polestarref04): signs, the least exponent, the floats beside. -/
namespace Go.Proofs.YtmmplomkginadaaGreatDoor
open Go.RowKit

theorem ref_sign_of (neg : Bool) (A : Option Addr) (n c : Nat) (z s : Int) (w : World) (h : IsInt w neg A n c z) (hs : Hid (z.sign = s)) :
    Calls Tryz.prog 189 #[.agg #[.bool neg, .slice A n c]] w (RetV w (.int .i64 s)) := by
  have := ref_sign_any neg A n c z w h
  rwa [hs.out] at this

def hiR (num den r : Nat) : Nat := if Flt.val r * den = num then r else r + 1
end Go.Proofs.YtmmplomkginadaaGreatDoor

/-! The references' floats (polestarref04): the sum and what it has lost. -/
namespace Go.Proofs.YtmmplomkginadaaGreatDoor
open Go.RowKit

theorem cell_alloc {w : World} (o : Obj) {g : Nat} {k : Nat} (v : Value) (hg : g < w.heap.size) (h : w.cell? ⟨g, k, none⟩ = some v) : (w.alloc o).cell? ⟨g, k, none⟩ = some v := by
  rw [(bcell ((Below.refl w.heap.size w).alloc (Nat.le_refl _) o)).1 g k hg]; exact h
theorem p2 (k : Nat) : (2 : Int) ^ k = ((2 ^ k : Nat) : Int) := by rw [Int.natCast_pow]; rfl
theorem shifted {z g L v S : Int} {E : Nat} (hg : (E : Int) - 1074 = g) (hz : z * ((2 ^ E : Nat) : Int) = S) (h : z = 0 ∨ 0 ≤ g - L) (hL : -1074 ≤ L) (hv : v = z * 2 ^ (g - L).toNat) :
    v * ((2 ^ (L + 1074).toNat : Nat) : Int) = S := by
  rcases h with rfl | h
  · rw [hv, ← hz]; simp
  · rw [hv, ← hz, Int.mul_assoc, p2, ← Int.natCast_mul, ← Nat.pow_add]
    congr 3
    omega
end Go.Proofs.YtmmplomkginadaaGreatDoor

/-! Floats beside an exact value: the pair that is told of a fraction, and the pair that a nearest float and what it has lost give. -/
namespace Go.Proofs.YtmmplomkginadaaGreatDoor
open Go.RowKit

def Brk (s : Bool) (num den d u : Nat) : Prop :=
  ∃ r, Flt.Dn num den r ∧ d = (if s then 2 ^ 63 + hiR num den r else r) ∧ u = (if s then 2 ^ 63 + r else hiR num den r)
theorem Brk.unique {s : Bool} {num den d u d' u' : Nat} (h : Brk s num den d u) (k : Brk s num den d' u') : d = d' ∧ u = u' := by
  obtain ⟨r, h1, rfl, rfl⟩ := h
  obtain ⟨r', k1, rfl, rfl⟩ := k
  have := h1.unique k1
  subst this
  exact ⟨rfl, rfl⟩

end Go.Proofs.YtmmplomkginadaaGreatDoor

/-! What is told of a sum. -/
namespace Go.Proofs.YtmmplomkginadaaGreatDoor
open Go.RowKit

def IsSum (x y d u : Nat) : Prop :=
  ∃ s, Flt.IsAdd x y s ∧ ((¬ (Flt.Fin x ∧ Flt.Fin y) ∨ Flt.sv x + Flt.sv y = 0) → d = s ∧ u = s) ∧
    (Flt.Fin x → Flt.Fin y → Flt.sv x + Flt.sv y ≠ 0 → Brk (decide (Flt.sv x + Flt.sv y < 0)) (Flt.sv x + Flt.sv y).natAbs 1 d u)
theorem IsSum.same {x y d u d' u' : Nat} (h : IsSum x y d u) (k : IsSum x y d' u') : Flt.Same d d' ∧ Flt.Same u u' := by
  obtain ⟨s, h1, h2, h3⟩ := h
  obtain ⟨t, k1, k2, k3⟩ := k
  have hst := h1.same k1
  by_cases hc : ¬ (Flt.Fin x ∧ Flt.Fin y) ∨ Flt.sv x + Flt.sv y = 0
  · obtain ⟨rfl, rfl⟩ := h2 hc
    obtain ⟨rfl, rfl⟩ := k2 hc
    exact ⟨hst, hst⟩
  · have hf : Flt.Fin x ∧ Flt.Fin y := by
      by_cases hf : Flt.Fin x ∧ Flt.Fin y
      · exact hf
      · exact absurd (Or.inl hf) hc
    have hz : Flt.sv x + Flt.sv y ≠ 0 := fun e => hc (Or.inr e)
    obtain ⟨rfl, rfl⟩ := (h3 hf.1 hf.2 hz).unique (k3 hf.1 hf.2 hz)
    exact ⟨Or.inl rfl, Or.inl rfl⟩

end Go.Proofs.YtmmplomkginadaaGreatDoor


/-! Floats, rounded down and up (round): the float beside. -/
namespace Go.Proofs.YtmmplomkginadaaGreatDoor
open Go.RowKit

theorem nan_zero : ¬ Flt.Nan 0 := by unfold Flt.Nan Flt.rg; rw [Flt.inf_eq]; omega
theorem sv_zero : Flt.sv 0 = 0 := Flt.sv_zero_iff.2 rfl
end Go.Proofs.YtmmplomkginadaaGreatDoor

/-! Floats, rounded down and up (round): sums and differences. -/
namespace Go.Proofs.YtmmplomkginadaaGreatDoor
open Go.RowKit

theorem cmp_zero {x : Nat} (h : ¬ Flt.Nan x) : (Ieee.double.order x 0 == some .gt) = decide (0 < Flt.sv x) ∧ (Ieee.double.order x 0 == some .lt) = decide (Flt.sv x < 0) := by
  rw [Flt.gt_spec h nan_zero, Flt.lt_spec h nan_zero, sv_zero]
  exact ⟨rfl, rfl⟩

end Go.Proofs.YtmmplomkginadaaGreatDoor

/-! The program's floats straight below and above a number (edge): under. -/
namespace Go.Proofs.YtmmplomkginadaaGreatDoor
open Go.RowKit

theorem bitLen_spec {x : Nat} (h : x ≠ 0) : 1 ≤ bitLen x ∧ 2 ^ (bitLen x - 1) ≤ x ∧ x < 2 ^ bitLen x := by
  unfold bitLen
  rw [if_neg h]
  exact ⟨by omega, Nat.log2_self_le h, Nat.lt_log2_self⟩
theorem bitLen_step {x : Nat} (h : x ≠ 0) : bitLen x = 1 + bitLen (x / 2) := by
  by_cases h1 : x / 2 = 0
  · have : x = 1 := by omega
    subst this; rfl
  · have := bitLen_shift x 1 (by simpa using h1)
    rw [Nat.pow_one] at this
    omega
theorem lib_bitLenAux : ∀ (f x : Nat), x < 2 ^ f → Lib.bitLenAux f x = bitLen x
  | 0, x, h => by
    have : x = 0 := by simpa using h
    subst this; rfl
  | f + 1, x, h => by
    unfold Lib.bitLenAux
    by_cases h0 : x = 0
    · subst h0; rfl
    · rw [if_neg h0, lib_bitLenAux f (x / 2) (by rw [Nat.pow_succ] at h; omega), bitLen_step h0]
theorem lib_bitLen {x : Nat} (h : x < 2 ^ 64) : Lib.bitLen x = bitLen x := lib_bitLenAux 64 x h
end Go.Proofs.YtmmplomkginadaaGreatDoor

/-! Products, rounded down and up (round.Mul). -/
namespace Go.Proofs.YtmmplomkginadaaGreatDoor
open Go.RowKit

/-! ### plain: pairs beside a fraction, however that is written -/
theorem IsOp.same {f : Nat → Nat → Option Nat} {x y s t : Nat} (h : IsOp f x y s) (k : IsOp f x y t) : Flt.Same s t := by
  have a := h.2
  have b := k.2
  cases hf : f x y with
  | some z => rw [hf] at a b; exact .inl (a.trans b.symm)
  | none => rw [hf] at a b; exact .inr ⟨a, b⟩

/-- The pair that is told of an operation: its own answer twice, or the floats beside. -/
def IsPair (f : Nat → Nat → Option Nat) (W : Prop) (x y : Nat) (s : Bool) (num den d u : Nat) : Prop :=
  (¬ W → ∃ z, IsOp f x y z ∧ d = z ∧ u = z) ∧ (W → Brk s num den d u)
theorem IsPair.same {f : Nat → Nat → Option Nat} {W : Prop} {x y : Nat} {s : Bool} {num den d u d' u' : Nat} (h : IsPair f W x y s num den d u) (k : IsPair f W x y s num den d' u') : Flt.Same d d' ∧ Flt.Same u u' := by
  by_cases hw : W
  · obtain ⟨a, b⟩ := (h.2 hw).unique (k.2 hw)
    exact ⟨.inl a, .inl b⟩
  · obtain ⟨z, h1, rfl, rfl⟩ := h.1 hw
    obtain ⟨t, k1, rfl, rfl⟩ := k.1 hw
    exact ⟨h1.same k1, h1.same k1⟩
/-! ### parts of a float; its sign -/
end Go.Proofs.YtmmplomkginadaaGreatDoor

/-! math/bits.Div64 of a number of 64 bits with 64 noughts behind it. -/
namespace Go.Proofs.YtmmplomkginadaaGreatDoor
open Go.RowKit

/-! ### plain: one digit of 32 bits -/
/-- What holds of the digit that is tried. -/
structure Dig (Y Y1 Y0 U q r : Nat) : Prop where
  y : Y = Y1 * 4294967296 + Y0
  y1 : 2147483648 ≤ Y1
  y2 : Y1 < 4294967296
  y3 : Y0 < 4294967296
  u : U < Y
  sum : q * Y1 + r = U
  most : q ≤ 4294967297
  low : U * 4294967296 / Y ≤ q

theorem Dig.prod {Y Y1 Y0 U q r : Nat} (h : Dig Y Y1 Y0 U q r) : q * Y + r * 4294967296 = U * 4294967296 + q * Y0 := by
  rw [h.y, ← h.sum, Nat.mul_add, ← Nat.mul_assoc, Nat.add_mul]
  omega
theorem Dig.lt {Y Y1 Y0 U q r : Nat} (h : Dig Y Y1 Y0 U q r) : U * 4294967296 / Y < 4294967296 := by
  have := h.u
  rw [Nat.div_lt_iff_lt_mul (by omega), Nat.mul_comm]
  omega
theorem Dig.less {Y Y1 Y0 U q r : Nat} (h : Dig Y Y1 Y0 U q r) (hc : 4294967296 ≤ q ∨ 4294967296 * r < q * Y0) : 1 ≤ q ∧ Dig Y Y1 Y0 U (q - 1) (r + Y1) := by
  have hq : U * 4294967296 / Y ≤ q - 1 ∧ 1 ≤ q := by
    rcases hc with hc | hc
    · have := h.lt; omega
    · have hp := h.prod
      have hY : 0 < Y := by have := h.u; omega
      have : U * 4294967296 / Y < q := by
        rw [Nat.div_lt_iff_lt_mul hY]; omega
      exact ⟨Nat.le_sub_one_of_lt this, Nat.lt_of_le_of_lt (Nat.zero_le _) this⟩
  refine ⟨hq.2, h.y, h.y1, h.y2, h.y3, h.u, ?_, by have := h.most; omega, hq.1⟩
  have hs := h.sum
  obtain ⟨t, rfl⟩ : ∃ t, q = t + 1 := ⟨q - 1, by omega⟩
  rw [Nat.add_mul] at hs
  simp only [Nat.add_sub_cancel]
  omega
theorem Dig.stop {Y Y1 Y0 U q r : Nat} (h : Dig Y Y1 Y0 U q r) (hc : q * Y0 ≤ 4294967296 * r) : q = U * 4294967296 / Y := by
  have hp := h.prod
  have hY : 0 < Y := by have := h.u; omega
  have : q ≤ U * 4294967296 / Y := by
    rw [Nat.le_div_iff_mul_le hY]; omega
  have := h.low
  omega
theorem Dig.far {Y Y1 Y0 U q r : Nat} (h : Dig Y Y1 Y0 U q r) (hq : q ≤ 4294967296) (hr : 4294967296 ≤ r) : q = U * 4294967296 / Y := by
  refine h.stop ?_
  have h1 : q * Y0 ≤ 4294967296 * 4294967296 := Nat.mul_le_mul hq (Nat.le_of_lt h.y3)
  omega
end Go.Proofs.YtmmplomkginadaaGreatDoor

/-! The references' whole numbers and floats: Divide by any number; quotients by any number. -/
namespace Go.Proofs.YtmmplomkginadaaGreatDoor
open Go.RowKit

theorem isInt_lt {w : World} {neg : Bool} {A : Option Addr} {n c : Nat} {z : Int} (h : IsInt w neg A n c z) : z.natAbs < Lm.B ^ n := by
  obtain ⟨l, hl, _, _, rfl⟩ := h
  have h1 : (sgnd neg (Lm.lv l)).natAbs = Lm.lv l := by unfold sgnd; split <;> omega
  rw [h1, ← hl.len]
  exact Lm.lv_lt hl.ok
theorem ref_Divide_any (neg neg' : Bool) (A A' : Option Addr) (n c n' c' : Nat) (x y : Int) (w : World) (hx : IsInt w neg A n c x) (hy : IsInt w neg' A' n' c' y) (hn : n ≤ 1000000000) (hn' : n' ≤ 1000000) (hy0 : y ≠ 0) :
    Calls Tryz.prog 297 #[.agg #[.bool neg, .slice A n c], .agg #[.bool neg', .slice A' n' c']] w (RetTwoInts w (x.tdiv y) (x.tmod y)) := by
  have h0 : n' ≠ 0 := fun e => hy0 ((isInt_zero hy).1 e)
  by_cases h1 : n' = 1
  · subst h1
    exact ref_Divide_one _ _ _ _ _ _ _ _ _ _ hx hy hn
  · obtain ⟨a, ha, ca, _, rfl⟩ := hx
    obtain ⟨b, hb, cb, _, rfl⟩ := hy
    rw [sgnd_tdiv, sgnd_tmod]
    exact ref_quo_of _ _ _ _ _ _ _ _ _ _ _ ha hb hn (by omega) (fun W hA hB => ref_divide_long _ _ _ _ _ _ _ _ _ hA hB cb hn hn' (by omega))

end Go.Proofs.YtmmplomkginadaaGreatDoor



/-! The references' floats (polestarref04): the quotient. -/
namespace Go.Proofs.YtmmplomkginadaaGreatDoor
open Go.RowKit

theorem frozen_alloc {w : World} (o : Obj) {g k : Nat} (h : g < w.heap.size) : (w.alloc o).frozen? ⟨g, k, none⟩ = w.frozen? ⟨g, k, none⟩ :=
  ((Below.refl w.heap.size w).alloc (Nat.le_refl _) o).frozen (p := ⟨g, k, none⟩) h

end Go.Proofs.YtmmplomkginadaaGreatDoor

namespace Go.Proofs.YtmmplomkginadaaGreatDoor
open Go.RowKit

/-! ### plain -/
/-- The greatest float whose square is not above V. -/
def DnSq (V r : Nat) : Prop := r < Flt.inf ∧ Flt.val r * Flt.val r ≤ V ∧ V < Flt.val (r + 1) * Flt.val (r + 1)
theorem DnSq.unique {V r s : Nat} (h : DnSq V r) (k : DnSq V s) : r = s := by
  have key : ∀ {r s : Nat}, DnSq V r → DnSq V s → ¬ r < s := by
    intro r s h k hlt
    have h1 : Flt.val (r + 1) * Flt.val (r + 1) ≤ Flt.val s * Flt.val s := Nat.mul_le_mul (Flt.val_le hlt) (Flt.val_le hlt)
    have := h.2.2
    have := k.2.1
    omega
  have := key h k
  have := key k h
  omega
/-- What the machine's root may give. -/
def IsSq (x z : Nat) : Prop := z < 2 ^ 64 ∧ (match Ieee.double.sqrt x with | some r => z = r | none => Flt.Nan z)
theorem IsSq.same {x s t : Nat} (h : IsSq x s) (k : IsSq x t) : Flt.Same s t := by
  have a := h.2
  have b := k.2
  cases hf : Ieee.double.sqrt x with
  | some z => rw [hf] at a b; exact .inl (a.trans b.symm)
  | none => rw [hf] at a b; exact .inr ⟨a, b⟩
def Pos (x : Nat) : Prop := Flt.Fin x ∧ Flt.sgn x = false ∧ Flt.rg x ≠ 0
/-- The pair that is told of a root. -/
def IsRoot (x d u : Nat) : Prop :=
  (¬ Pos x → ∃ z, IsSq x z ∧ d = z ∧ u = z) ∧
  (Pos x → ∃ r, DnSq (Flt.val (Flt.rg x) * 2 ^ Flt.K74) r ∧ d = r ∧ u = if Flt.val r * Flt.val r = Flt.val (Flt.rg x) * 2 ^ Flt.K74 then r else r + 1)
theorem IsRoot.same {x d u d' u' : Nat} (h : IsRoot x d u) (k : IsRoot x d' u') : Flt.Same d d' ∧ Flt.Same u u' := by
  by_cases hw : Pos x
  · obtain ⟨r, h1, rfl, rfl⟩ := h.2 hw
    obtain ⟨s, k1, rfl, rfl⟩ := k.2 hw
    have := h1.unique k1
    subst this
    exact ⟨.inl rfl, .inl rfl⟩
  · obtain ⟨z, h1, rfl, rfl⟩ := h.1 hw
    obtain ⟨t, k1, rfl, rfl⟩ := k.1 hw
    exact ⟨h1.same k1, h1.same k1⟩

end Go.Proofs.YtmmplomkginadaaGreatDoor

namespace Go.Proofs.YtmmplomkginadaaGreatDoor
open Go.RowKit

/-! ### plain -/
/-! ### half, Root -/
/-- The world of the loop: the number, its root so far, the result's place. -/
def RtIn (w : World) (A : Option Addr) (n c k R : Nat) (wx : World) : Prop :=
  ∃ negr Ar nr cr, wx.cell? ⟨R, 0, none⟩ = some (.bool negr) ∧ wx.cell? ⟨R, 1, none⟩ = some (.slice Ar nr cr) ∧ IsInt wx negr Ar nr cr (k : Int) ∧
    wx.cell? ⟨w.heap.size, 0, none⟩ = some (.bool false) ∧ wx.cell? ⟨w.heap.size, 1, none⟩ = some (.slice A n c) ∧
    wx.cell? ⟨w.heap.size + 1, 0, none⟩ = some (.bool false) ∧ wx.cell? ⟨w.heap.size + 1, 1, none⟩ = some (.slice none 0 0) ∧ R < wx.heap.size ∧ w.heap.size + 1 < R ∧ Below w.heap.size w wx ∧
    wx.frozen? ⟨R, 0, none⟩ = false ∧ wx.frozen? ⟨R, 1, none⟩ = false ∧ wx.frozen? ⟨w.heap.size + 1, 0, none⟩ = false ∧ wx.frozen? ⟨w.heap.size + 1, 1, none⟩ = false
theorem RtIn.set {w wx : World} {A : Option Addr} {n c k R : Nat} {b0 : Bool} {a0 : Option Addr} {n0 c0 : Nat} {neg' : Bool} {A' : Option Addr} {n' c' : Nat}
    (hI : IsInt wx neg' A' n' c' (k : Int)) (h0 : wx.cell? ⟨R, 0, none⟩ = some (.bool b0)) (h1 : wx.cell? ⟨R, 1, none⟩ = some (.slice a0 n0 c0))
    (x0 : wx.cell? ⟨w.heap.size, 0, none⟩ = some (.bool false)) (x1 : wx.cell? ⟨w.heap.size, 1, none⟩ = some (.slice A n c))
    (x2 : wx.cell? ⟨w.heap.size + 1, 0, none⟩ = some (.bool false)) (x3 : wx.cell? ⟨w.heap.size + 1, 1, none⟩ = some (.slice none 0 0)) (hR : R < wx.heap.size) (hs : w.heap.size + 1 < R) (hb : Below w.heap.size w wx)
    (f0 : wx.frozen? ⟨R, 0, none⟩ = false) (f1 : wx.frozen? ⟨R, 1, none⟩ = false) (f2 : wx.frozen? ⟨w.heap.size + 1, 0, none⟩ = false) (f3 : wx.frozen? ⟨w.heap.size + 1, 1, none⟩ = false) :
    RtIn w A n c k R ((wx.setCell ⟨R, 0, none⟩ (.bool neg')).setCell ⟨R, 1, none⟩ (.slice A' n' c')) := by
  refine ⟨neg', A', n', c', by simp [go_sem, h0], by simp [go_sem, h1], isInt_result hI h0 h1 _ _, ?_, ?_, ?_, ?_, ?_, hs, below_result hb (by omega) _ _, by simpa using f0, by simpa using f1, by simpa using f2, by simpa using f3⟩
  · exact (cell_far wx R _ _ ⟨w.heap.size, 0, none⟩ (show ¬ w.heap.size = R by omega)).trans x0
  · exact (cell_far wx R _ _ ⟨w.heap.size, 1, none⟩ (show ¬ w.heap.size = R by omega)).trans x1
  · exact (cell_far wx R _ _ ⟨w.heap.size + 1, 0, none⟩ (show ¬ w.heap.size + 1 = R by omega)).trans x2
  · exact (cell_far wx R _ _ ⟨w.heap.size + 1, 1, none⟩ (show ¬ w.heap.size + 1 = R by omega)).trans x3
  · simpa [World.setCell] using hR
theorem RtIn.new {w wx : World} {A : Option Addr} {n c k : Nat} {neg' : Bool} {A' : Option Addr} {n' c' : Nat} (t : TypeId)
    (hI : IsInt wx neg' A' n' c' (k : Int))
    (x0 : wx.cell? ⟨w.heap.size, 0, none⟩ = some (.bool false)) (x1 : wx.cell? ⟨w.heap.size, 1, none⟩ = some (.slice A n c))
    (x2 : wx.cell? ⟨w.heap.size + 1, 0, none⟩ = some (.bool false)) (x3 : wx.cell? ⟨w.heap.size + 1, 1, none⟩ = some (.slice none 0 0)) (hs : w.heap.size + 1 < wx.heap.size) (hb : Below w.heap.size w wx) (f2 : wx.frozen? ⟨w.heap.size + 1, 0, none⟩ = false) (f3 : wx.frozen? ⟨w.heap.size + 1, 1, none⟩ = false) :
    RtIn w A n c k wx.heap.size (wx.alloc (.cells #[.bool neg', .slice A' n' c'] t)) :=
  ⟨neg', A', n', c', by simp [go_sem], by simp [go_sem], hI.alloc _, cell_alloc _ _ (by omega) x0, cell_alloc _ _ (by omega) x1, cell_alloc _ _ (by omega) x2, cell_alloc _ _ (by omega) x3, by simp, hs, hb.alloc hb.size _, by simp [go_sem], by simp [go_sem], (frozen_alloc _ (by omega)).trans f2, (frozen_alloc _ (by omega)).trans f3⟩
end Go.Proofs.YtmmplomkginadaaGreatDoor
