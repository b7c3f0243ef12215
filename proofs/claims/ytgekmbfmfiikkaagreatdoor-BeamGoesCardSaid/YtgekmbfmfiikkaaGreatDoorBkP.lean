/-
  Lists in memory of their own, plainly: what may have changed, what is owned, what a list holds all over.
-/
import Derived.Test.YtgekmbfmfiikkaaGreatDoorRefX
import Derived.Deep.AppendLies
import Derived.Laws.OwnMore
namespace Go.Proofs.YtgekmbfmfiikkaaGreatDoor
open Go.RowKit
structure Fr (S : Nat → Prop) (w w' : World) : Prop where
 os : w'.os = w.os
 tape : w'.tape = w.tape
 output : w'.output = w.output
 size : w.heap.size ≤ w'.heap.size
 block : ∀ b, b < w.heap.size → ¬ S b → w'.heap[b]? = w.heap[b]?
theorem Fr.refl (S : Nat → Prop) (w : World) : Fr S w w := ⟨rfl, rfl, rfl, Nat.le_refl _, fun _ _ _ => rfl⟩
theorem Fr.trans {S : Nat → Prop} {w w1 w2 : World} (h : Fr S w w1) (k : Fr S w1 w2) : Fr S w w2 :=
 ⟨k.os.trans h.os, k.tape.trans h.tape, k.output.trans h.output, Nat.le_trans h.size k.size, fun b hb hs => (k.block b (Nat.lt_of_lt_of_le hb h.size) hs).trans (h.block b hb hs)⟩
theorem Fr.mono {S T : Nat → Prop} {w w1 : World} (h : Fr S w w1) (hST : ∀ b, S b → T b) : Fr T w w1 := ⟨h.os, h.tape, h.output, h.size, fun b hb hs => h.block b hb (fun k => hs (hST b k))⟩
theorem Fr.new {S T : Nat → Prop} {w w1 w2 : World} (h : Fr S w w1) (k : Fr T w1 w2) (hT : ∀ b, T b → S b ∨ w.heap.size ≤ b) : Fr S w w2 :=
 ⟨k.os.trans h.os, k.tape.trans h.tape, k.output.trans h.output, Nat.le_trans h.size k.size, fun b hb hs => (k.block b (Nat.lt_of_lt_of_le hb h.size) (fun q => (hT b q).elim hs (fun e => absurd hb (by omega)))).trans (h.block b hb hs)⟩
theorem Fr.of_below (S : Nat → Prop) {w w1 : World} (k : Below w.heap.size w w1) : Fr S w w1 := ⟨k.os, k.tape, k.output, k.size, fun b hb _ => k.block b hb⟩
theorem Fr.next {S : Nat → Prop} {w w1 w2 : World} (h : Fr S w w1) (k : Below w1.heap.size w1 w2) : Fr S w w2 := h.trans (Fr.of_below S k)
theorem Fr.alloc {S : Nat → Prop} {w w1 : World} (h : Fr S w w1) (o : Obj) : Fr S w (w1.alloc o) := h.next ((Below.refl _ _).alloc (Nat.le_refl _) o)
theorem Fr.drew {S : Nat → Prop} {w w1 : World} (h : Fr S w w1) : Fr S w w1.drew := h.next ⟨rfl, rfl, rfl, Nat.le_refl _, fun _ _ => rfl⟩
theorem Fr.of_grown {w w1 : World} {row : Option Nat} (k : w.grownBy w1 row) : Fr (fun b => row = some b) w w1 :=
 ⟨k.os, k.tape, k.output, k.size, fun b hb hs => k.block b hb (fun e => hs e.symm)⟩
theorem Fr.set (S : Nat → Prop) (w : World) {g : Nat} (hg : S g) (j : Nat) (u : Value) : Fr S w (w.setCell ⟨g, j, none⟩ u) :=
 ⟨rfl, rfl, rfl, by simp [World.setCell], fun b _ hs => heap_setCell_other w ⟨g, j, none⟩ b u (fun e => hs (by rw [e]; exact hg))⟩
theorem Fr.below {S : Nat → Prop} {w w1 : World} (h : Fr S w w1) {base : Nat} (hS : ∀ b, S b → base ≤ b) (hb : base ≤ w.heap.size) : Below base w w1 :=
 ⟨h.os, h.tape, h.output, h.size, fun b hlt => h.block b (by omega) (fun k => by have := hS b k; omega)⟩
theorem Fr.cell {S : Nat → Prop} {w w1 : World} (h : Fr S w w1) {g j : Nat} (hg : g < w.heap.size) (hs : ¬ S g) : w1.cell? ⟨g, j, none⟩ = w.cell? ⟨g, j, none⟩ := World.cell?_of_block (h.block g hg hs)
theorem Fr.frozen {S : Nat → Prop} {w w1 : World} (h : Fr S w w1) {g j : Nat} (hg : g < w.heap.size) (hs : ¬ S g) : w1.frozen? ⟨g, j, none⟩ = w.frozen? ⟨g, j, none⟩ := World.frozen?_of_block (h.block g hg hs)
theorem Fr.row {S : Nat → Prop} {w w1 : World} {base : Nat} {e : TypeId} {sz : Nat} {v : Value} {n : Nat} {xs : List Value} (h : w.ownsRow base e sz v n xs) (k : Fr S w w1) (hs : ∀ g, v.ownBlock = some g → ¬ S g) : w1.ownsRow base e sz v n xs := by
 refine ⟨h.1, ?_⟩
 rcases h.2 with hn | ⟨g, cap, cur, hv, hb, hg, rest⟩
 ·exact .inl hn
 ·refine .inr ⟨g, cap, cur, hv, hb, ?_, rest⟩
  rw [k.block g ?_ (hs g (by rw [hv]; rfl))]
  ·exact hg
  ·rcases Nat.lt_or_ge g w.heap.size with hlt | hge
   ·exact hlt
   ·rw [Array.getElem?_eq_none hge] at hg; cases hg
def Marked (mk : List Value) (sz n : Nat) (xs : List Value) : Prop := ∀ j, j < n * sz → xs[j]? = mk[j % sz]?
theorem Marked.app {mk : List Value} {sz n : Nat} {xs : List Value} (h : Marked mk sz n xs) (hl : xs.length = n * sz) (_hm : mk.length = sz) : Marked mk sz (n + 1) (xs ++ mk) := fun j hj => by
 rw [Nat.add_mul, Nat.one_mul] at hj
 rw [List.getElem?_append]
 split
 ·exact h j (by omega)
 ·congr 1
  have : j = (j - n * sz) + n * sz := by omega
  rw [hl, this, Nat.add_mul_mod_self_right, Nat.mod_eq_of_lt (by omega)]
  omega
def Mk (w : World) (mk : List Value) (sz : Nat) (v : Value) (n : Nat) : Prop :=
 (v = .slice none 0 0 ∧ n = 0) ∨ ∃ g c, v = .slice (some ⟨g, 0, none⟩) n c ∧ g < w.heap.size ∧ ∀ j, j < n * sz → w.cell? ⟨g, j, none⟩ = mk[j % sz]?
theorem Mk.of_row {w : World} {mk : List Value} {sz base : Nat} {e : TypeId} {v : Value} {n : Nat} {xs : List Value} (h : w.ownsRow base e sz v n xs) (hm : Marked mk sz n xs) : Mk w mk sz v n := by
 rcases h.2 with hn | ⟨g, cap, cur, rfl, hb, hg, rest⟩
 ·exact .inl hn
 ·refine .inr ⟨g, cap, rfl, (h.lt g rfl).2, fun j hj => ?_⟩
  rw [h.cellAt j hj]
  exact hm j hj
theorem Mk.next {S : Nat → Prop} {w w1 : World} {mk : List Value} {sz : Nat} {v : Value} {n : Nat} (h : Mk w mk sz v n) (k : Fr S w w1) (hs : ∀ g, v.ownBlock = some g → ¬ S g) : Mk w1 mk sz v n := by
 rcases h with hn | ⟨g, c, rfl, hg, hc⟩
 ·exact .inl hn
 ·exact .inr ⟨g, c, rfl, Nat.lt_of_lt_of_le hg k.size, fun j hj => (k.cell hg (hs g rfl)).trans (hc j hj)⟩
structure Hl where
 A : Option Addr
 n : Nat
 c : Nat
 xs : List Value
 lA : Option Addr
 ln : Nat
 lc : Nat
 k : Nat
abbrev Hl.v (h : Hl) : Value := .slice h.A h.n h.c
abbrev Hl.lv (h : Hl) : Value := .slice h.lA h.ln h.lc
def flat : List Hl → List Value
 | [] => []
 | h :: t => h.v :: h.lv :: .int .i64 (h.k : Int) :: flat t
theorem flat_len : ∀ L : List Hl, (flat L).length = L.length * 3
 | [] => rfl
 | h :: t => by simp only [flat, List.length_cons, flat_len t]; omega
theorem flat_get : ∀ {L : List Hl} {i : Nat} {h : Hl}, L[i]? = some h → (flat L)[i * 3]? = some h.v ∧ (flat L)[i * 3 + 1]? = some h.lv ∧ (flat L)[i * 3 + 2]? = some (.int .i64 (h.k : Int))
 | [], i, h, e => by simp at e
 | a :: t, 0, h, e => by
  simp at e
  subst e
  exact ⟨rfl, rfl, rfl⟩
 | a :: t, i + 1, h, e => by
  rw [List.getElem?_cons_succ] at e
  obtain ⟨h1, h2, h3⟩ := flat_get e
  rw [show (i + 1) * 3 = i * 3 + 1 + 1 + 1 by omega]
  exact ⟨h1, h2, h3⟩
theorem flat_set : ∀ (L : List Hl) (i : Nat) (h : Hl) (A : Option Addr) (n c : Nat), L[i]? = some h → (flat L).set (i * 3 + 1) (.slice A n c) = flat (L.set i { h with lA := A, ln := n, lc := c })
 | [], i, h, A, n, c, e => by simp at e
 | a :: t, 0, h, A, n, c, e => by
  simp at e
  subst e
  rfl
 | a :: t, i + 1, h, A, n, c, e => by
  rw [List.getElem?_cons_succ] at e
  have := flat_set t i h A n c e
  rw [show (i + 1) * 3 + 1 = (i * 3 + 1) + 1 + 1 + 1 by omega]
  simp only [flat, List.set_cons_succ, this]
theorem flat_app : ∀ (L : List Hl) (h : Hl), flat (L ++ [h]) = flat L ++ [h.v, h.lv, .int .i64 (h.k : Int)]
 | [], h => rfl
 | a :: t, h => by simp only [List.cons_append, flat, flat_app t h]
def Dis (L : List Hl) : Prop := ∀ (i j : Nat) (h h' : Hl), i ≠ j → L[i]? = some h → L[j]? = some h' → ∀ g, h.v.ownBlock = some g → h'.v.ownBlock ≠ some g
def Sv (L : List Hl) (b : Nat) : Prop := ∃ (i : Nat) (h : Hl), L[i]? = some h ∧ h.v.ownBlock = some b
def Owd (base : Nat) (e : TypeId) (sz : Nat) (w : World) (L : List Hl) : Prop := ∀ (i : Nat) (h : Hl), L[i]? = some h → w.ownsRow base e sz h.v h.n h.xs
def Held (w : World) (H : Nat) (L : List Hl) : Prop := H < w.heap.size ∧ ∀ j u, (flat L)[j]? = some u → w.cell? ⟨H, j, none⟩ = some u
theorem Held.next {w w1 : World} {H : Nat} {L : List Hl} (h : Held w H L) {S : Nat → Prop} (k : Fr S w w1) (hs : ¬ S H) : Held w1 H L :=
 ⟨Nat.lt_of_lt_of_le h.1 k.size, fun j u hu => (k.cell h.1 hs).trans (h.2 j u hu)⟩
theorem Held.at_ {w : World} {H : Nat} {L : List Hl} (h : Held w H L) {i : Nat} {x : Hl} (hx : L[i]? = some x) : w.cell? ⟨H, i * 3, none⟩ = some x.v ∧ w.cell? ⟨H, i * 3 + 1, none⟩ = some x.lv ∧ w.cell? ⟨H, i * 3 + 2, none⟩ = some (.int .i64 (x.k : Int)) := by
 obtain ⟨h1, h2, h3⟩ := flat_get hx
 exact ⟨h.2 _ _ h1, h.2 _ _ h2, h.2 _ _ h3⟩
theorem row_step {L : List Hl} {m j : Nat} {h h' : Hl} (hh : L[m]? = some h) (hD : Dis L) {W wr : World} {o : Obj} (hF : Fr (fun b => h.v.ownBlock = some b) (W.alloc o) wr) (hj : L[j]? = some h') (hne : j ≠ m) {base : Nat} {e : TypeId} {sz : Nat} {zs : List Value}
  (ho : W.ownsRow base e sz h'.v h'.n zs) : wr.ownsRow base e sz h'.v h'.n zs :=
 Fr.row (ho.alloc o) hF (fun g hg hv => hD m j h h' (fun e => hne e.symm) hh hj g hv hg)
theorem fr_step {L : List Hl} {m : Nat} {h : Hl} (hh : L[m]? = some h) {w W wr : World} {o : Obj} (h0 : Fr (Sv L) w W) (hF : Fr (fun b => h.v.ownBlock = some b) (W.alloc o) wr) : Fr (Sv L) w wr :=
 (h0.alloc o).trans (hF.mono fun _ hb => ⟨m, h, hh, hb⟩)
def Gr (W0 : Nat) (mk : Nat → List Value) (sz : Nat) (w : World) (h h' : Hl) : Prop :=
 h'.A = h.A ∧ h'.n = h.n ∧ h'.c = h.c ∧ h'.k = h.k ∧ h'.ln = h.n + 70 ∧ Mk w (mk h.k) sz h.v h.n ∧ Mk w (mk h.k) sz h'.lv (h.n + 70) ∧ ∀ g, h'.lv.ownBlock = some g → h.v.ownBlock = some g ∨ W0 ≤ g
theorem Gr.next {W0 : Nat} {mk : Nat → List Value} {sz : Nat} {w w1 : World} {h h' : Hl} (k : Gr W0 mk sz w h h') {S : Nat → Prop} (hF : Fr S w w1) (h1 : ∀ g, h.v.ownBlock = some g → ¬ S g) (h2 : ∀ g, W0 ≤ g → ¬ S g) : Gr W0 mk sz w1 h h' := by
 obtain ⟨a, b, c, d, e, m1, m2, l⟩ := k
 exact ⟨a, b, c, d, e, m1.next hF h1, m2.next hF (fun g hg => (l g hg).elim (h1 g) (h2 g)), l⟩
theorem mk_grow {w1 w2 : World} {mk : List Value} {sz : Nat} {v lv : Value} {n m g' cap base : Nat} {e : TypeId} {zs : List Value} (hM : Mk w1 mk sz v n) (hown : w2.ownsRow base e sz (.slice (some ⟨g', 0, none⟩) m cap) m zs) (hz : Marked mk sz m zs) (hn : n ≤ m)
  (hor : lv.ownBlock = some g' ∧ w1.grownBy w2 (some g') ∨ g' = w1.heap.size ∧ w1.grownBy w2 none) : Mk w2 mk sz v n := by
 rcases hM with hn0 | ⟨g, c, rfl, hg, hc⟩
 ·exact .inl hn0
 ·by_cases hgg : g = g'
  ·subst hgg
   refine .inr ⟨g, c, rfl, (hown.lt g rfl).2, fun j hj => ?_⟩
   have hle : n * sz ≤ m * sz := Nat.mul_le_mul_right _ hn
   rw [hown.cellAt j (by omega)]
   exact hz j (by omega)
  ·rcases hor with ⟨_, k⟩ | ⟨_, k⟩
   ·exact Mk.next (.inr ⟨g, c, rfl, hg, hc⟩) (Fr.of_grown k) (fun q hq hs => by
     injection hq with hq
     injection hs with hs
     have : g = q := hq
     omega)
   ·exact Mk.next (.inr ⟨g, c, rfl, hg, hc⟩) (Fr.of_grown k) (fun q hq hs => by cases hs)
theorem fr_grow {S : Nat → Prop} {w w1 w2 : World} {lv : Value} {g' : Nat} (h : Fr S w w1) (hl : ∀ g, lv.ownBlock = some g → S g ∨ w.heap.size ≤ g) (hor : lv.ownBlock = some g' ∧ w1.grownBy w2 (some g') ∨ g' = w1.heap.size ∧ w1.grownBy w2 none) : Fr S w w2 ∧ (S g' ∨ w.heap.size ≤ g') := by
 rcases hor with ⟨e, k⟩ | ⟨e, k⟩
 ·refine ⟨h.new (Fr.of_grown k) (fun b hb => ?_), hl g' e⟩
  injection hb with hb
  subst hb
  exact hl _ e
 ·refine ⟨h.new (Fr.of_grown k) (fun b hb => by cases hb), .inr ?_⟩
  rw [e]
  exact h.size
section
variable {P : Program} (w : World)
theorem run_append_either (t ty : TypeId) (base : Nat) (e : TypeId) (i : TypeInfo) (z : Value) (size bytes : Nat) (ht : P.underlying t = some (.slice e)) (hi : P.info? e = some i) (hz : i.zero = some z)
  (hsize : i.size = size) (hby : i.bytes = bytes) (hzs : z.cells.size = size) (hsz : 0 < size)
  (v : Value) (n : Nat) (xs : List Value) (hown : w.ownsRow base e size v n xs)
  (a : Addr) (m c : Nat) (news : List Value) (hl : news.length = m * size) (hnews : ∀ j u, news[j]? = some u → w.cell? (a.add j) = some u) (h1 : ∀ u ∈ news, u.oneCell' = true)
  (hm : 0 < m) (h63 : n + m ≤ maxLen) (hbytes : (n + m) * bytes ≤ 140737488355328) (hbase : base ≤ w.heap.size) :
  ∃ g cap w', (Builtin.append_ #[t, t] ty #[v, .slice (some a) m c]).run P w = .ok (.slice (some ⟨g, 0, none⟩) (n + m) cap) w' ∧ w'.ownsRow base e size (.slice (some ⟨g, 0, none⟩) (n + m) cap) (n + m) (xs ++ news) ∧
   (v.ownBlock = some g ∧ w.grownBy w' (some g) ∨ g = w.heap.size ∧ w.grownBy w' none) := by
 subst hsize
 subst hby
 have hsmall : n + m ≤ 9223372036854775807 := by simp only [maxLen] at h63; omega
 have hlen : (xs ++ news).length = (n + m) * i.size := by rw [List.length_append, hown.1, hl, Nat.add_mul]
 have grown : ∀ (old : Nat), old < n + m →
   (w.drew.alloc (.cells (xs.toArray ++ news.toArray ++ Builtin.zeroCells z.cells (grownCap w (n + m) old e - (n + m))) e)).ownsRow base e i.size
    (.slice (some ⟨w.heap.size, 0, none⟩) (n + m) (grownCap w (n + m) old e)) (n + m) (xs ++ news) ∧
   w.grownBy (w.drew.alloc (.cells (xs.toArray ++ news.toArray ++ Builtin.zeroCells z.cells (grownCap w (n + m) old e - (n + m))) e)) none := by
  intro old ho
  have hge := grownCap_ge w (n + m) old e
  have hcm : grownCap w (n + m) old e ≤ maxLen := grownCap_le_maxLen w (n + m) old e h63
  refine ⟨⟨hlen, .inr ⟨w.heap.size, _, _, rfl, hbase, heap_alloc_new w.drew _, hge, hcm, ?_, ?_⟩⟩, ⟨rfl, rfl, rfl, by simp, fun k hk _ => heap_alloc_old w.drew _ hk⟩⟩
  ·simp only [Array.size_append, List.size_toArray, size_zeroCells, hzs, hown.1, hl, ← Nat.add_mul]
   congr 1
   omega
  ·simp only [Array.toList_append, List.append_assoc]
   rw [← List.append_assoc, ← hlen]
   exact List.take_left
 rcases hown.2 with ⟨rfl, rfl⟩ | ⟨g, cap, cur, rfl, hbg, hg, hnc, hcm, hcs, htake⟩
 ·have hx : xs = [] := List.eq_nil_of_length_eq_zero (by simpa using hown.1)
  subst hx
  have hr := run_append_nil (P := P) w t ty e i z ht hi hz a m c news hl hnews (by omega) (by omega) (by have hb := hbytes; simp only [Nat.zero_add] at hb; omega)
  have hgr := grown 0 (by omega)
  simp only [Nat.zero_add, List.nil_append, Array.empty_append] at hgr ⊢
  exact ⟨_, _, _, hr, hgr.1, .inr ⟨rfl, hgr.2⟩⟩
 ·by_cases hroom : n + m ≤ cap
  ·have hfit : n * i.size + news.length ≤ cur.size := by rw [hl, hcs, ← Nat.add_mul]; exact Nat.mul_le_mul_right _ hroom
   have hr := run_append_room (P := P) w t ty e i ht hi g n cap cur hg a m c news hl hnews h1 hroom hfit
   refine ⟨_, _, _, hr, ⟨hlen, .inr ⟨g, cap, _, rfl, hbg, setRow_heap w g cur _ e _ hg, hroom, hcm, ?_, ?_⟩⟩, .inl ⟨rfl, ⟨rfl, rfl, rfl, by simp, fun k _ hk => setRow_other w g k _ (fun e => hk (by simp [e]))⟩⟩⟩
   ·simp only [List.size_toArray, List.length_append, List.length_take, List.length_drop, Array.length_toList]
    omega
   ·rw [htake, ← hlen]
    exact List.take_left
  ·have holds : ∀ j u, xs[j]? = some u → w.cell? ((⟨g, 0, none⟩ : Addr).add j) = some u := hown.cells (g := g) rfl
   have hr := run_append_grow (P := P) w t ty e i z ht hi hz ⟨g, 0, none⟩ n cap xs hown.1 holds a m c news hl hnews (by omega) (by omega) (growslice_fits (by omega) hbytes)
   have hgr := grown cap (by omega)
   exact ⟨_, _, _, hr, hgr.1, .inr ⟨rfl, hgr.2⟩⟩
theorem wp_append_either {o : Oper} {a : Act} {K : Act → World → Prop} {Q : Exit → Act → World → Prop} (s x : Operand) (t : TypeId)
  (ho : o.op = .call { callee := .builtin .append, args := #[s, x], argTypes := #[t, t] })
  (base : Nat) (e : TypeId) (i : TypeInfo) (z : Value) (size bytes : Nat) (ht : P.underlying t = some (.slice e)) (hi : P.info? e = some i) (hz : i.zero = some z)
  (hsize : i.size = size) (hby : i.bytes = bytes) (hzs : z.cells.size = size) (hsz : 0 < size)
  (v : Value) (n : Nat) (xs : List Value) (hs : a.eval s = v) (hown : w.ownsRow base e size v n xs)
  (ad : Addr) (m c : Nat) (news : List Value) (hx : a.eval x = .slice (some ad) m c) (hl : news.length = m * size) (hnews : ∀ j u, news[j]? = some u → w.cell? (ad.add j) = some u) (h1 : ∀ u ∈ news, u.oneCell' = true)
  (hm : 0 < m) (h63 : n + m ≤ maxLen) (hbytes : (n + m) * bytes ≤ 140737488355328) (hbase : base ≤ w.heap.size)
  (h : ∀ g cap w', w'.ownsRow base e size (.slice (some ⟨g, 0, none⟩) (n + m) cap) (n + m) (xs ++ news) → (v.ownBlock = some g ∧ w.grownBy w' (some g) ∨ g = w.heap.size ∧ w.grownBy w' none) → K (a.put o.dst (.slice (some ⟨g, 0, none⟩) (n + m) cap)) w') : o.wp P a w K Q := by
 obtain ⟨g, cap, w', hr, h2, h3⟩ := run_append_either (P := P) w t o.type base e i z size bytes ht hi hz hsize hby hzs hsz v n xs hown ad m c news hl hnews h1 hm h63 hbytes hbase
 unfold Oper.wp execOp
 simp only [ho, resolve, invoke, builtin, Sem.run_bind, Sem.run_pure, Result.andThen_ok, List.map_toArray, List.map_cons, List.map_nil, hs, hx, hr]
 exact h g cap w' h2 h3
theorem wpList_append_either {ops : Array Oper} {rest : List Oper} {o : Oper} {a : Act} {Q : Exit → Act → World → Prop} (hgd : o.guard = none) (s x : Operand) (t : TypeId)
  (ho : o.op = .call { callee := .builtin .append, args := #[s, x], argTypes := #[t, t] })
  (base : Nat) (e : TypeId) (i : TypeInfo) (z : Value) (size bytes : Nat) (ht : P.underlying t = some (.slice e)) (hi : P.info? e = some i) (hz : i.zero = some z)
  (hsize : i.size = size) (hby : i.bytes = bytes) (hzs : z.cells.size = size) (hsz : 0 < size)
  (v : Value) (n : Nat) (xs : List Value) (hs : a.eval s = v) (hown : w.ownsRow base e size v n xs)
  (ad : Addr) (m c : Nat) (news : List Value) (hx : a.eval x = .slice (some ad) m c) (hl : news.length = m * size) (hnews : ∀ j u, news[j]? = some u → w.cell? (ad.add j) = some u) (h1 : ∀ u ∈ news, u.oneCell' = true)
  (hm : 0 < m) (h63 : n + m ≤ maxLen) (hbytes : (n + m) * bytes ≤ 140737488355328) (hbase : base ≤ w.heap.size)
  (h : ∀ g cap w', w'.ownsRow base e size (.slice (some ⟨g, 0, none⟩) (n + m) cap) (n + m) (xs ++ news) → (v.ownBlock = some g ∧ w.grownBy w' (some g) ∨ g = w.heap.size ∧ w.grownBy w' none) → wpList P ops Q rest (a.put o.dst (.slice (some ⟨g, 0, none⟩) (n + m) cap)) w') : wpList P ops Q (o :: rest) a w :=
 wpList_plain hgd fun _ hK => wp_append_either w s x t ho base e i z size bytes ht hi hz hsize hby hzs hsz v n xs hs hown ad m c news hx hl hnews h1 hm h63 hbytes hbase fun g cap w' h2 h3 => hK _ _ (h g cap w' h2 h3)
theorem step_append_either {ops : Array Oper} {o : Oper} {a : Act} {K : Act → World → Prop} {Q : Exit → Act → World → Prop} {E : Prop} (hgd : o.guard = none) (s x : Operand) (t : TypeId)
  (ho : o.op = .call { callee := .builtin .append, args := #[s, x], argTypes := #[t, t] })
  (base : Nat) (e : TypeId) (i : TypeInfo) (z : Value) (size bytes : Nat) (ht : P.underlying t = some (.slice e)) (hi : P.info? e = some i) (hz : i.zero = some z)
  (hsize : i.size = size) (hby : i.bytes = bytes) (hzs : z.cells.size = size) (hsz : 0 < size)
  (v : Value) (n : Nat) (xs : List Value) (hs : a.eval s = v) (hown : w.ownsRow base e size v n xs)
  (ad : Addr) (m c : Nat) (news : List Value) (hx : a.eval x = .slice (some ad) m c) (hl : news.length = m * size) (hnews : ∀ j u, news[j]? = some u → w.cell? (ad.add j) = some u) (h1 : ∀ u ∈ news, u.oneCell' = true)
  (hm : 0 < m) (h63 : n + m ≤ maxLen) (hbytes : (n + m) * bytes ≤ 140737488355328) (hbase : base ≤ w.heap.size)
  (h : ∀ g cap w', w'.ownsRow base e size (.slice (some ⟨g, 0, none⟩) (n + m) cap) (n + m) (xs ++ news) → (v.ownBlock = some g ∧ w.grownBy w' (some g) ∨ g = w.heap.size ∧ w.grownBy w' none) → K (a.put o.dst (.slice (some ⟨g, 0, none⟩) (n + m) cap)) w') :
  if Region.wanted o (yielded ops a.tmps) = true then Oper.wp P o a w K Q else E := by
 have hw : Region.wanted o (yielded ops a.tmps) = true := by simp [Region.wanted, hgd]
 rw [if_pos hw]
 exact wp_append_either w s x t ho base e i z size bytes ht hi hz hsize hby hzs hsz v n xs hs hown ad m c news hx hl hnews h1 hm h63 hbytes hbase h
end
end Go.Proofs.YtgekmbfmfiikkaaGreatDoor
