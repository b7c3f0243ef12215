/-
  Whole numbers in memory of their own: where an answer's limbs lie; a walk's memory that tells it.
  The program's whole numbers (package exact): limbs held against limbs, copies, numbers of 64 bits, bits.
-/
import Derived.Test.YtgekmbfmfiikkaaGreatDoorExU
import Derived.Test.YtgekmbfmfiikkaaGreatDoorRefX
import Derived.WalkSpells
set_option maxHeartbeats 800000
namespace Go.Proofs.YtgekmbfmfiikkaaGreatDoor
open Go.RowKit
abbrev OwnAt := Option Addr × Nat × Nat
abbrev OwnAt.v (q : OwnAt) : Value := .slice q.1 q.2.1 q.2.2
def OwnR (B : Nat) (w : World) (q : OwnAt) : Prop := ∃ xs, w.ownsRow B 164 1 q.v q.2.1 xs
theorem OwnR.below {B : Nat} {w w' : World} {q : OwnAt} (h : OwnR B w q) (hb : Below w.heap.size w w') : OwnR B w' q := by
 obtain ⟨xs, h⟩ := h
 refine ⟨xs, h.1, ?_⟩
 rcases h.2 with h2 | ⟨g, cap, cur, e1, hbg, hg, hr⟩
 ·exact .inl h2
 ·exact .inr ⟨g, cap, cur, e1, hbg, (hb.block g (Array.getElem?_eq_some_iff.1 hg).1).trans hg, hr⟩
theorem OwnR.base {B B' : Nat} {w : World} {q : OwnAt} (h : OwnR B w q) (hB : ∀ g, q.v.ownBlock = some g → B' ≤ g) : OwnR B' w q := by
 obtain ⟨xs, h⟩ := h
 refine ⟨xs, h.1, ?_⟩
 rcases h.2 with h2 | ⟨g, cap, cur, e1, hbg, hr⟩
 ·exact .inl h2
 ·exact .inr ⟨g, cap, cur, e1, hB g (by rw [e1]; rfl), hr⟩
theorem OwnR.lt {B : Nat} {w : World} {q : OwnAt} (h : OwnR B w q) {g : Nat} (hg : q.v.ownBlock = some g) : B ≤ g ∧ g < w.heap.size := by
 obtain ⟨xs, h⟩ := h
 exact h.lt g hg
theorem OwnR.set {B : Nat} {w : World} {q : OwnAt} (h : OwnR B w q) {p : Addr} (hp : q.v.ownBlock ≠ some p.block) (u : Value) : OwnR B (w.setCell p u) q := by
 obtain ⟨xs, h⟩ := h
 refine ⟨xs, h.1, ?_⟩
 rcases h.2 with h2 | ⟨g, cap, cur, e1, hbg, hg, hr⟩
 ·exact .inl h2
 ·refine .inr ⟨g, cap, cur, e1, hbg, ?_, hr⟩
  rw [heap_setCell_other w p g u (fun e => hp (by rw [e1, e]; rfl))]
  exact hg
theorem OwnR.nil (B : Nat) (w : World) : OwnR B w (none, 0, 0) := ⟨[], World.ownsRow_nil _ _ _ _⟩
def CutOf (q q' : OwnAt) : Prop := q' = (none, 0, 0) ∨ (q'.1 = q.1 ∧ q'.2.2 = q.2.2 ∧ q'.2.1 ≤ q.2.1)
theorem CutOf.blk {q q' : OwnAt} (h : CutOf q q') {g : Nat} (hg : q'.v.ownBlock = some g) : q.v.ownBlock = some g := by
 rcases h with rfl | ⟨h1, _, _⟩
 ·cases hg
 ·obtain ⟨A, n, c⟩ := q
  obtain ⟨A', n', c'⟩ := q'
  simp only at h1
  subst h1
  cases A' with
  | none => cases hg
  | some a => exact hg
theorem OwnR.cut {B : Nat} {w : World} {q q' : OwnAt} (h : OwnR B w q) (hc : CutOf q q') : OwnR B w q' := by
 rcases hc with rfl | ⟨h1, h2, h3⟩
 ·exact OwnR.nil B w
 ·obtain ⟨A, n, c⟩ := q
  obtain ⟨A', n', c'⟩ := q'
  simp only at h1 h2 h3
  subst h1 h2
  obtain ⟨xs, h⟩ := h
  rcases h.2 with ⟨h4, h5⟩ | ⟨g, cap, cur, e1, hbg, hg, hr1, hr2, hr3, hr4⟩
  ·simp only at h5
   subst h5
   obtain rfl : n' = 0 := by omega
   exact ⟨xs, h⟩
  ·simp only [OwnAt.v] at e1
   injection e1 with e1 _ e3
   subst e1 e3
   refine ⟨cur.toList.take (n' * 1), ?_, .inr ⟨g, c', cur, rfl, hbg, hg, by simp only at hr1 ⊢; omega, hr2, hr3, rfl⟩⟩
   rw [List.length_take, Array.length_toList, hr3]
   simp only at hr1 ⊢
   omega
def FarQ (q q' : OwnAt) : Prop := ∀ g, q.v.ownBlock = some g → q'.v.ownBlock ≠ some g
theorem FarQ.symm {q q' : OwnAt} (h : FarQ q q') : FarQ q' q := fun g h1 h2 => h g h2 h1
def Owns (B : Nat) (w : World) (o : List OwnAt) : Prop := (∀ q ∈ o, OwnR B w q) ∧ o.Pairwise FarQ
theorem Owns.nil (B : Nat) (w : World) : Owns B w [] := ⟨fun _ h => absurd h (by simp), List.Pairwise.nil⟩
theorem Owns.one {B : Nat} {w : World} {q : OwnAt} (h : OwnR B w q) : Owns B w [q] := ⟨fun p hp => by rw [List.mem_singleton] at hp; subst hp; exact h, List.pairwise_singleton _ _⟩
theorem Owns.two {B : Nat} {w : World} {q q' : OwnAt} (h : OwnR B w q) (h' : OwnR B w q') (hf : FarQ q q') : Owns B w [q, q'] :=
 ⟨fun p hp => by
  simp only [List.mem_cons, List.not_mem_nil, or_false] at hp
  rcases hp with rfl | rfl
  ·exact h
  ·exact h', by simp [hf]⟩
theorem Owns.below {B : Nat} {w w' : World} {o : List OwnAt} (h : Owns B w o) (hb : Below w.heap.size w w') : Owns B w' o := ⟨fun q hq => (h.1 q hq).below hb, h.2⟩
theorem Owns.head {B : Nat} {w : World} {q : OwnAt} {o : List OwnAt} (h : Owns B w (q :: o)) : OwnR B w q := h.1 q (by simp)
theorem Owns.app {B B' : Nat} {w : World} {o o' : List OwnAt} (h : Owns B w o) (h' : Owns B' w o') (hB : B ≤ B') (hlt : ∀ q ∈ o, ∀ g, q.v.ownBlock = some g → g < B') : Owns B w (o' ++ o) := by
 refine ⟨fun q hq => ?_, List.pairwise_append.2 ⟨h'.2, h.2, fun a ha b hb g h1 h2 => ?_⟩⟩
 ·rcases List.mem_append.1 hq with k | k
  ·exact (h'.1 q k).base fun g hg => Nat.le_trans hB ((h'.1 q k).lt hg).1
  ·exact h.1 q k
 ·have := ((h'.1 a ha).lt h1).1
  have := hlt b hb g h2
  omega
def Mo (B : Nat) (w : World) (L : List (Nat × List Value)) (l : List IntAt) (o : List OwnAt) (wr : World) : Prop :=
 Below w.heap.size w wr ∧ (∀ b ∈ L, w.heap.size ≤ b.1 ∧ Blk wr b.1 b.2) ∧ (∀ p ∈ l, IsAt wr p) ∧ Owns B wr o ∧ (∀ q ∈ o, ∀ b ∈ L, q.v.ownBlock ≠ some b.1) ∧ B ≤ w.heap.size
section
variable {B : Nat} {w wr w' : World} {L L' : List (Nat × List Value)} {l l' : List IntAt} {o : List OwnAt}
theorem Mo.mm (h : Mo B w L l o wr) : Mm w L l wr := ⟨h.1, h.2.1, h.2.2.1⟩
theorem Mo.nil (w : World) : Mo w.heap.size w [] [] [] w := ⟨Below.refl _ _, fun b hb => absurd hb (by simp), fun b hb => absurd hb (by simp), Owns.nil _ _, fun _ h => absurd h (by simp), Nat.le_refl _⟩
theorem Mo.args (hB : B ≤ w.heap.size) (hO : Owns B w o) : Mo B w [] [] o w := ⟨Below.refl _ _, fun b hb => absurd hb (by simp), fun b hb => absurd hb (by simp), hO, fun _ _ _ h => absurd h (by simp), hB⟩
theorem Mo.int (h : Mo B w L l o wr) {neg : Bool} {A : Option Addr} {n c : Nat} {z : Int} (hI : IsInt wr neg A n c z) : Mo B w L ((neg, A, n, c, z) :: l) o wr :=
 ⟨h.1, h.2.1, (h.mm.int hI).2.2, h.2.2.2⟩
theorem Mo.next (h : Mo B w L l o wr) (hb : Below wr.heap.size wr w') : Mo B w L l o w' :=
 ⟨(h.mm.next hb).1, (h.mm.next hb).2.1, (h.mm.next hb).2.2, h.2.2.2.1.below hb, h.2.2.2.2⟩
theorem Mo.calln {o' : List OwnAt} (h : Mo B w L l o wr) (hb : Below wr.heap.size wr w') (hO : Owns wr.heap.size w' o') : Mo B w L l (o' ++ o) w' := by
 have k := h.next hb
 refine ⟨k.1, k.2.1, k.2.2.1, k.2.2.2.1.app hO (Nat.le_trans h.2.2.2.2.2 h.1.size) (fun q hq g hg => ((h.2.2.2.1.1 q hq).lt hg).2), fun q hq b hb' e => ?_, h.2.2.2.2.2⟩
 rcases List.mem_append.1 hq with m | m
 ·have h1 := ((hO.1 q m).lt e).1
  have h2 := (h.2.1 b hb').2.1
  omega
 ·exact h.2.2.2.2.1 q m b hb' e
theorem Mo.call1 {q : OwnAt} (h : Mo B w L l o wr) (hb : Below wr.heap.size wr w') (hO : Owns wr.heap.size w' [q]) : Mo B w L l (q :: o) w' := h.calln hb hO
theorem Mo.call2 {q q' : OwnAt} (h : Mo B w L l o wr) (hb : Below wr.heap.size wr w') (hO : Owns wr.heap.size w' [q, q']) : Mo B w L l (q :: q' :: o) w' := h.calln hb hO
theorem Mo.call4 {q q' q'' q''' : OwnAt} (h : Mo B w L l o wr) (hb : Below wr.heap.size wr w') (hO : Owns wr.heap.size w' [q, q', q'', q''']) : Mo B w L l (q :: q' :: q'' :: q''' :: o) w' := h.calln hb hO
theorem Mo.cut {q q' : OwnAt} (h : Mo B w L l (q :: o) wr) (hc : CutOf q q') : Mo B w L l (q' :: o) wr := by
 obtain ⟨h1, h2, h3, ⟨h4, h5⟩, h6, h7⟩ := h
 rw [List.pairwise_cons] at h5
 refine ⟨h1, h2, h3, ⟨fun p hp => ?_, List.pairwise_cons.2 ⟨fun p hp g hg => h5.1 p hp g (hc.blk hg), h5.2⟩⟩, fun p hp b hb e => ?_, h7⟩
 ·rw [List.mem_cons] at hp
  rcases hp with rfl | hp
  ·exact (h4 q (by simp)).cut hc
  ·exact h4 p (by simp [hp])
 ·rw [List.mem_cons] at hp
  rcases hp with rfl | hp
  ·exact h6 q (by simp) b hb (hc.blk e)
  ·exact h6 p (by simp [hp]) b hb e
theorem Mo.swap {q q' : OwnAt} (h : Mo B w L l (q :: q' :: o) wr) : Mo B w L l (q' :: q :: o) wr := by
 obtain ⟨h1, h2, h3, ⟨h4, h5⟩, h6, h7⟩ := h
 rw [List.pairwise_cons, List.pairwise_cons] at h5
 refine ⟨h1, h2, h3, ⟨fun p hp => h4 p ?_, List.pairwise_cons.2 ⟨fun p hp => ?_, List.pairwise_cons.2 ⟨fun p hp => h5.1 p (by simp [hp]), h5.2.2⟩⟩⟩, fun p hp => h6 p ?_, h7⟩
 ·simp only [List.mem_cons] at hp ⊢; rcases hp with k | k | k <;> simp [k]
 ·rw [List.mem_cons] at hp
  rcases hp with rfl | hp
  ·exact (h5.1 _ (by simp)).symm
  ·exact h5.2.1 p hp
 ·simp only [List.mem_cons] at hp ⊢; rcases hp with k | k | k <;> simp [k]
theorem Mo.box (h : Mo B w L l o wr) (ob : Obj) : Mo B w L l o (wr.alloc ob) := h.next ((Below.refl _ _).alloc (Nat.le_refl _) ob)
theorem Mo.drewN (h : Mo B w L l o wr) (n : Nat) : Mo B w L l o (wr.drewN n) := h.next (below_drewN (Below.refl _ _) n)
theorem Mo.drew (h : Mo B w L l o wr) : Mo B w L l o wr.drew := h.next ⟨rfl, rfl, rfl, Nat.le_refl _, fun _ _ => rfl⟩
theorem Mo.var (h : Mo B w L l o wr) {g : Nat} (hg : wr.heap.size = g) (vs : List Value) (t : TypeId) : Mo B w ((g, vs) :: L) l o (wr.alloc (.cells vs.toArray t)) := by
 have k := h.box (.cells vs.toArray t)
 have m := h.mm.var hg vs t
 refine ⟨m.1, m.2.1, m.2.2, k.2.2.2.1, fun q hq b hb e => ?_, h.2.2.2.2.2⟩
 rw [List.mem_cons] at hb
 rcases hb with rfl | hb
 ·have := ((h.2.2.2.1.1 q hq).lt e).2
  simp only at this
  omega
 ·exact h.2.2.2.2.1 q hq b hb e
theorem Mo.pick (h : Mo B w L l o wr) (hL : ∀ b ∈ L', b ∈ L) (hl : ∀ p ∈ l', p ∈ l) : Mo B w L' l' o wr :=
 ⟨h.1, fun b hb => h.2.1 b (hL b hb), fun p hp => h.2.2.1 p (hl p hp), h.2.2.2.1, fun q hq b hb => h.2.2.2.2.1 q hq b (hL b hb), h.2.2.2.2.2⟩
theorem Mo.tail {q : OwnAt} (h : Mo B w L l (q :: o) wr) : Mo B w L l o wr :=
 ⟨h.1, h.2.1, h.2.2.1, ⟨fun p hp => h.2.2.2.1.1 p (by simp [hp]), (List.pairwise_cons.1 h.2.2.2.1.2).2⟩, fun p hp => h.2.2.2.2.1 p (by simp [hp]), h.2.2.2.2.2⟩
theorem Mo.set {g : Nat} {vs : List Value} (h : Mo B w ((g, vs) :: L) l o wr) (hne : ∀ b ∈ L, g ≠ b.1) {j : Nat} (u0 u : Value) (hj : vs[j]? = some u0) (hu : ∀ x, u0 ≠ .int .u32 x) :
  Mo B w ((g, vs.set j u) :: L) l o (wr.setCell ⟨g, j, none⟩ u) := by
 have m := h.mm.set hne u0 u hj hu
 refine ⟨m.1, m.2.1, m.2.2, ⟨fun q hq => (h.2.2.2.1.1 q hq).set (p := ⟨g, j, none⟩) (fun e => h.2.2.2.2.1 q hq (g, vs) (by simp) e) u, h.2.2.2.1.2⟩, fun q hq b hb e => ?_, h.2.2.2.2.2⟩
 rw [List.mem_cons] at hb
 rcases hb with rfl | hb
 ·exact h.2.2.2.2.1 q hq (g, vs) (by simp) e
 ·exact h.2.2.2.2.1 q hq b (by simp [hb]) e
theorem Mo.at_ (h : Mo B w L l o wr) {neg : Bool} {A : Option Addr} {n c : Nat} {z : Int} (hp : (neg, A, n, c, z) ∈ l) : IsInt wr neg A n c z := h.2.2.1 _ hp
theorem Mo.blk (h : Mo B w L l o wr) {g : Nat} {vs : List Value} (hp : (g, vs) ∈ L) : Blk wr g vs := (h.2.1 _ hp).2
theorem Mo.set2 {g : Nat} {b0 : Bool} {a0 : Option Addr} {n0 c0 : Nat} (h : Mo B w ((g, [.bool b0, .slice a0 n0 c0]) :: L) l o wr) (hne : ∀ b ∈ L, g ≠ b.1) (neg : Bool) (A : Option Addr) (n c : Nat) :
  Mo B w ((g, [.bool neg, .slice A n c]) :: L) l o ((wr.setCell ⟨g, 0, none⟩ (.bool neg)).setCell ⟨g, 1, none⟩ (.slice A n c)) :=
 (h.set hne (.bool b0) (.bool neg) rfl (by simp)).set hne (.slice a0 n0 c0) (.slice A n c) rfl (by simp)
theorem Mo.set4 {g : Nat} {b0 b1 : Bool} {a0 a1 : Option Addr} {n0 c0 n1 c1 : Nat} (h : Mo B w ((g, [.bool b0, .slice a0 n0 c0, .bool b1, .slice a1 n1 c1]) :: L) l o wr) (hne : ∀ b ∈ L, g ≠ b.1)
  (neg : Bool) (A : Option Addr) (n c : Nat) (neg' : Bool) (A' : Option Addr) (n' c' : Nat) :
  Mo B w ((g, [.bool neg, .slice A n c, .bool neg', .slice A' n' c']) :: L) l o ((((wr.setCell ⟨g, 0, none⟩ (.bool neg)).setCell ⟨g, 1, none⟩ (.slice A n c)).setCell ⟨g, 2, none⟩ (.bool neg')).setCell ⟨g, 3, none⟩ (.slice A' n' c')) :=
 (((h.set hne (.bool b0) (.bool neg) rfl (by simp)).set hne (.slice a0 n0 c0) (.slice A n c) rfl (by simp)).set hne (.bool b1) (.bool neg') rfl (by simp)).set hne (.slice a1 n1 c1) (.slice A' n' c') rfl (by simp)
theorem Mo.own1 (h : Mo B w L l o wr) {q : OwnAt} (i : Nat) (hi : o[i]? = some q) : Owns B wr [q] := Owns.one (h.2.2.2.1.1 q (List.mem_of_getElem? hi))
theorem far_at {o : List OwnAt} (h : o.Pairwise FarQ) {i j : Nat} {q q' : OwnAt} (hi : o[i]? = some q) (hj : o[j]? = some q') (hij : i ≠ j) : FarQ q q' := by
 obtain ⟨h1, rfl⟩ := List.getElem?_eq_some_iff.1 hi
 obtain ⟨h2, rfl⟩ := List.getElem?_eq_some_iff.1 hj
 rw [List.pairwise_iff_getElem] at h
 rcases Nat.lt_or_gt_of_ne hij with k | k
 ·exact h i j h1 h2 k
 ·exact (h j i h2 h1 k).symm
theorem Mo.own2 (h : Mo B w L l o wr) {q q' : OwnAt} (i j : Nat) (hi : o[i]? = some q) (hj : o[j]? = some q') (hij : i ≠ j) : Owns B wr [q, q'] :=
 Owns.two (h.2.2.2.1.1 q (List.mem_of_getElem? hi)) (h.2.2.2.1.1 q' (List.mem_of_getElem? hj)) (far_at h.2.2.2.1.2 hi hj hij)
def OneOf (n0 : Nat) (o o' : List OwnAt) : Prop := ∀ q ∈ o', ∀ g, q.v.ownBlock = some g → (∃ p ∈ o, p.v.ownBlock = some g) ∨ n0 ≤ g
theorem Mo.low {q1 q2 : OwnAt} {o' : List OwnAt} (h : Mo B w L l (q1 :: q2 :: o) wr) (hb : Below wr.heap.size wr w') (hO : Owns B w' o') (hor : OneOf wr.heap.size [q1, q2] o') : Mo B w L l (o' ++ o) w' := by
 have k := h.next hb
 have hlt : ∀ q ∈ o, ∀ g, q.v.ownBlock = some g → g < wr.heap.size := fun q hq g hg => ((h.2.2.2.1.1 q (by simp [hq])).lt hg).2
 refine ⟨k.1, k.2.1, k.2.2.1, ⟨fun q hq => ?_, List.pairwise_append.2 ⟨hO.2, k.tail.tail.2.2.2.1.2, fun a ha b hb' g h1 h2 => ?_⟩⟩, fun q hq b hb' e => ?_, h.2.2.2.2.2⟩
 ·rcases List.mem_append.1 hq with m | m
  ·exact hO.1 q m
  ·exact k.2.2.2.1.1 q (by simp [m])
 ·have h5 := h.2.2.2.1.2
  rw [List.pairwise_cons, List.pairwise_cons] at h5
  rcases hor a ha g h1 with ⟨p, hp, hg⟩ | hg
  ·simp only [List.mem_cons, List.not_mem_nil, or_false] at hp
   rcases hp with rfl | rfl
   ·exact h5.1 b (by simp [hb']) g hg h2
   ·exact h5.2.1 b hb' g hg h2
  ·have := hlt b hb' g h2
   omega
 ·rcases List.mem_append.1 hq with m | m
  ·rcases hor q m b.1 e with ⟨p, hp, hg⟩ | hg
   ·exact h.2.2.2.2.1 p (by simp only [List.mem_cons, List.not_mem_nil, or_false] at hp ⊢; rcases hp with k | k <;> simp [k]) b hb' hg
   ·have := (h.2.1 b hb').2.1
    omega
  ·exact k.2.2.2.2.1 q (by simp [m]) b hb' e
theorem Mo.low2 {q1 q2 q3 q4 : OwnAt} (h : Mo B w L l (q1 :: q2 :: o) wr) (hb : Below wr.heap.size wr w') (hO : Owns B w' [q3, q4]) (hor : OneOf wr.heap.size [q1, q2] [q3, q4]) : Mo B w L l (q3 :: q4 :: o) w' := h.low hb hO hor
end
/-! ### what a call leaves -/
def RetIntO (W : World) (z : Int) (e : Ending) (w' : World) : Prop :=
 ∃ neg A n c, e = .returned (.agg #[.bool neg, .slice A n c]) ∧ IsInt w' neg A n c z ∧ Owns W.heap.size w' [(A, n, c)] ∧ Below W.heap.size W w'
def RetLimbsO (W : World) (P : List Nat → Prop) (e : Ending) (w' : World) : Prop :=
 ∃ A n c l, e = .returned (.slice A n c) ∧ Sl w' A n c l ∧ P l ∧ Owns W.heap.size w' [(A, n, c)] ∧ Below W.heap.size W w'
def RetSg (W : World) (q : OwnAt) (z : Int) (e : Ending) (w' : World) : Prop :=
 ∃ neg A n c, e = .returned (.agg #[.bool neg, .slice A n c]) ∧ IsInt w' neg A n c z ∧ CutOf q (A, n, c) ∧ Below W.heap.size W w'
def RetTwoO (W : World) (x y : Int) (e : Ending) (w' : World) : Prop :=
 ∃ neg A n c neg' A' n' c', e = .returned (.tuple #[.agg #[.bool neg, .slice A n c], .agg #[.bool neg', .slice A' n' c']]) ∧ IsInt w' neg A n c x ∧ IsInt w' neg' A' n' c' y ∧ Owns W.heap.size w' [(A, n, c), (A', n', c')] ∧ Below W.heap.size W w'
def RetFrO (W : World) (x : Rat) (e : Ending) (w' : World) : Prop :=
 ∃ neg A n c neg' A' n' c', e = .returned (.agg #[.bool neg, .slice A n c, .bool neg', .slice A' n' c']) ∧ IsInt w' neg A n c x.num ∧ IsInt w' neg' A' n' c' (x.den : Int) ∧ Owns W.heap.size w' [(A, n, c), (A', n', c')] ∧ Below W.heap.size W w'
def RetLow (B : Nat) (W : World) (q1 q2 : OwnAt) (x : Rat) (e : Ending) (w' : World) : Prop :=
 ∃ neg A n c neg' A' n' c', e = .returned (.agg #[.bool neg, .slice A n c, .bool neg', .slice A' n' c']) ∧ IsInt w' neg A n c x.num ∧ IsInt w' neg' A' n' c' (x.den : Int) ∧ Owns B w' [(A, n, c), (A', n', c')] ∧ OneOf W.heap.size [q1, q2] [(A, n, c), (A', n', c')] ∧ Below W.heap.size W w'
theorem RetIntO.fg {W w' : World} {z : Int} {e : Ending} (h : RetIntO W z e w') : RetInt W z e w' := by
 obtain ⟨neg, A, n, c, h1, h2, _, h3⟩ := h
 exact ⟨neg, A, n, c, h1, h2, h3⟩
theorem RetTwoO.fg {W w' : World} {x y : Int} {e : Ending} (h : RetTwoO W x y e w') : RetTwoInts W x y e w' := by
 obtain ⟨neg, A, n, c, neg', A', n', c', h1, h2, h3, _, h4⟩ := h
 exact ⟨neg, A, n, c, neg', A', n', c', h1, h2, h3, h4⟩
/-! ### the program's whole numbers: a sign; numbers of 64 bits -/
theorem ow_signed_any (neg : Bool) (A : Option Addr) (n c : Nat) (l : List Nat) (w : World) (h : Sl w A n c l) (hn : n ≤ 4000000000) :
  Calls Tryz.prog 267 #[.bool neg, .slice A n c] w (RetSg w (A, n, c) (sgnd neg (Lm.lv l))) := by
 have hlen := h.len
 have hcap := h.cap
 have htl := trim_len l
 by_cases h0 : Lm.trim l = []
 ·have hlv : Lm.lv l = 0 := by rw [← Lm.trim_lv, h0]; rfl
  have hl0 : ((Lm.trim l).length : Int) = 0 := by rw [h0]; rfl
  have H : Hid (Lm.lv l = 0) := hlv
  clear hlv h0
  go_enter Tryz.func267, Tryz.ntmps267
  go_wp2_with (go_at_call 278; refine (ex_trim_any _ _ _ _ _ (h.alloc _) hn).mono ?_; rintro e w' ⟨rfl, rfl⟩)
  exact bodyPost_ret (v := .agg #[.bool false, .slice none 0 0]) (by simp [results, Tryz.results267, go_sem]) rfl
   ⟨false, none, 0, 0, rfl, by rw [H.out, show sgnd neg 0 = 0 by unfold sgnd; split <;> rfl]; exact isInt_nought, .inl rfl, (Below.refl _ _).alloc (Nat.le_refl _) _⟩
 ·have h1 : (((Lm.trim l).length : Int) == 0) = false := by
   have : (Lm.trim l).length ≠ 0 := fun e => h0 (List.eq_nil_of_length_eq_zero e)
   rw [beq_eq_false_iff_ne]; omega
  go_enter Tryz.func267, Tryz.ntmps267
  go_wp2_with (go_at_call 278; refine (ex_trim_any _ _ _ _ _ (h.alloc _) hn).mono ?_; rintro e w' ⟨rfl, rfl⟩)
  exact bodyPost_ret (v := .agg #[.bool neg, .slice A (Lm.trim l).length c]) (by simp [results, Tryz.results267, go_sem]) rfl
   ⟨neg, A, (Lm.trim l).length, c, rfl, (isInt_signed h h0).below ((Below.refl _ _).alloc (Nat.le_refl _) _), .inr ⟨rfl, rfl, by simp only; omega⟩, (Below.refl _ _).alloc (Nat.le_refl _) _⟩
theorem Mo.varz {B : Nat} {w wr : World} {L : List (Nat × List Value)} {l : List IntAt} {o : List OwnAt} (h : Mo B w L l o wr) (vs : List Value) (t : TypeId) : Mo B w ((wr.heap.size, vs) :: L) l o (wr.alloc (.cells vs.toArray t)) := h.var rfl vs t
theorem Calls.withMo {P : Program} {f : FuncId} {args : Array Value} {W : World} {post : Ending → World → Prop} {B : Nat} {w0 : World} {L : List (Nat × List Value)} {l : List IntAt} {o : List OwnAt} (K : Mo B w0 L l o W) (h : Mo B w0 L l o W → Calls P f args W post) : Calls P f args W post := h K
end Go.Proofs.YtgekmbfmfiikkaaGreatDoor
namespace Go.Proofs.YtgekmbfmfiikkaaGreatDoor
open Go.RowKit
def RetSz (W : World) (x y : Nat) (e : Ending) (w' : World) : Prop := ∃ v : Int, e = .returned (.int .i64 v) ∧ (v < 0 ↔ x < y) ∧ (0 < v ↔ y < x) ∧ -1000000000 ≤ v ∧ v ≤ 1000000000 ∧ ∃ k, w' = W.drewN k
theorem ex_size_any (A A' : Option Addr) (n c n' c' : Nat) (a b : List Nat) (w : World) (ha : Sl w A n c a) (hb : Sl w A' n' c' b) (ca : Lm.canon a) (cb : Lm.canon b) (hn : n ≤ 1000000000) (hn' : n' ≤ 1000000000) :
  Calls Tryz.prog 270 #[.slice A n c, .slice A' n' c'] w (RetSz w (Lm.lv a) (Lm.lv b)) := by
 have la := ha.len
 have lb := hb.len
 by_cases hne : n = n'
 ·subst hne
  go_enter Tryz.func270, Tryz.ntmps270
  go_wp2
  go_loopw [5] (fun i wr => ∃ k : Nat, k ≤ n ∧ i = .int .i64 ((k : Int) - 1) ∧ Hid (a.drop k = b.drop k) ∧ ∃ j, wr = w.drewN j) (fun i _ => (intOf i + 1).toNat)
  case atStart => exact ⟨n, Nat.le_refl _, rfl, (by rw [List.drop_of_length_le (by omega), List.drop_of_length_le (by omega)] : a.drop n = b.drop n), 0, rfl⟩
  case round =>
   obtain ⟨k, hk, rfl, HD, j, rfl⟩ := hrel
   by_cases h0 : k = 0
   ·subst h0
    have E : Hid (Lm.lv a = Lm.lv b) := Lib.hid (by have := HD.out; simp only [List.drop_zero] at this; rw [this])
    go_wp2
    go_ret
    exact ⟨0, rfl, by have := E.out; omega, by have := E.out; omega, by omega, by omega, j, rfl⟩
   ·obtain ⟨ad, rfl, hba, hla, hca, hxa⟩ := ha.at_ (k := k - 1) (by omega)
    obtain ⟨ad', rfl, hbb, hlb, hcb, hxb⟩ := hb.at_ (k := k - 1) (by omega)
    have hk1 : 1 ≤ k := by omega
    have HD' : Hid (a.drop (k - 1 + 1) = b.drop (k - 1 + 1)) := by rw [show k - 1 + 1 = k by omega]; exact HD
    by_cases he : a[k - 1] = b[k - 1]
    ·have he' : (((a[k - 1] : Nat) : Int) != ((b[k - 1] : Nat) : Int)) = false := by rw [he]; simp
     go_wp2
     go_quiet (fail)
     all_goals go_wp2
     go_roundw
     case rel => exact ⟨k - 1, by omega, by go_num, (by rw [List.drop_eq_getElem_cons hla, List.drop_eq_getElem_cons hlb, he, HD'.out] : a.drop (k - 1) = b.drop (k - 1)), _, by first | exact drew2 _ _ _ | rfl⟩
     case measure => simp [intOf]; omega
    ·have he' : (((a[k - 1] : Nat) : Int) != ((b[k - 1] : Nat) : Int)) = true := by
      rw [bne_iff_ne]
      omega
     by_cases hl : a[k - 1] < b[k - 1]
     ·have E := Lib.hid (Lm.lt_of_limb ha.ok hla hlb HD'.out hl)
      have hl' : decide (((a[k - 1] : Nat) : Int) < ((b[k - 1] : Nat) : Int)) = true := by simpa using hl
      go_wp2
      go_quiet (fail)
      go_wp2
      go_quiet (fail)
      go_wp2
      go_ret
      exact ⟨-1, rfl, by have := E.out; omega, by have := E.out; omega, by omega, by omega, _, by first | exact drew3 _ _ _ _ | exact drew2 _ _ _ | rfl⟩
     ·have E := Lib.hid (Lm.lt_of_limb hb.ok hlb hla HD'.out.symm (show b[k - 1] < a[k - 1] by omega))
      have hl' : decide (((a[k - 1] : Nat) : Int) < ((b[k - 1] : Nat) : Int)) = false := by simp; omega
      go_wp2
      go_quiet (fail)
      go_wp2
      go_quiet (fail)
      go_wp2
      go_ret
      exact ⟨1, rfl, by have := E.out; omega, by have := E.out; omega, by omega, by omega, _, by first | exact drew3 _ _ _ _ | exact drew2 _ _ _ | rfl⟩
 ·have hb1 : ((n : Int) != (n' : Int)) = true := by rw [bne_iff_ne]; omega
  have E1 : Hid (n < n' → Lm.lv a < Lm.lv b) := Lib.hid (fun h => Lm.len_of_lv ha.ok hb.ok cb (by omega))
  have E2 : Hid (n' < n → Lm.lv b < Lm.lv a) := Lib.hid (fun h => Lm.len_of_lv hb.ok ha.ok ca (by omega))
  go_enter Tryz.func270, Tryz.ntmps270
  go_wp2
  go_ret
  refine ⟨(n : Int) - n', rfl, ?_, ?_, by omega, by omega, 0, rfl⟩
  ·rcases Nat.lt_or_ge n n' with h | h
   ·have := E1.out h; omega
   ·have := E2.out (by omega); omega
  ·rcases Nat.lt_or_ge n n' with h | h
   ·have := E1.out h; omega
   ·have := E2.out (by omega); omega
end Go.Proofs.YtgekmbfmfiikkaaGreatDoor
