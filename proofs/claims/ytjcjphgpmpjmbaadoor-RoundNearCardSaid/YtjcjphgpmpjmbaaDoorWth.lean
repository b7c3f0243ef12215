/-
  The references' spans (polestarref05): the least and the greatest of some fractions. append onto a slice of the call's own, and what no cell of its row is (the kit's law run_append_own_at, turned: one limb more). The references' spans (polestarref05): the operations on two spans (Do). What floats are worth, in one row (polestarlaw04.worth).
-/
import Derived.Test.YtjcjphgpmpjmbaaDoorFrR
import Derived.Test.YtjcjphgpmpjmbaaDoorTzP
import Derived.Test.YtjcjphgpmpjmbaaDoorRefX
import Derived.Test.YtjcjphgpmpjmbaaDoorSpnR
import Derived.Test.YtjcjphgpmpjmbaaDoorSpnV
import Derived.Test.YtjcjphgpmpjmbaaDoorMem
import Derived.Deep.AppendLies
import Derived.Test.YtjcjphgpmpjmbaaDoorTzG
namespace Go.Proofs.YtjcjphgpmpjmbaaDoor
open Go.RowKit

/-- A fraction in memory: its two numbers' values, and what it is worth. -/
abbrev FrE := (Bool × Option Addr × Nat × Nat) × (Bool × Option Addr × Nat × Nat) × Rat
def FrE.vs (f : FrE) : List Value := [.bool f.1.1, .slice f.1.2.1 f.1.2.2.1 f.1.2.2.2, .bool f.2.1.1, .slice f.2.1.2.1 f.2.1.2.2.1 f.2.1.2.2.2]
def FrE.at_ (wr : World) (f : FrE) : Prop := IsInt wr f.1.1 f.1.2.1 f.1.2.2.1 f.1.2.2.2 f.2.2.num ∧ IsInt wr f.2.1.1 f.2.1.2.1 f.2.1.2.2.1 f.2.1.2.2.2 (f.2.2.den : Int)
/-- A block that holds fractions. -/
def Frs (wr : World) (g N : Nat) (F : Nat → FrE) : Prop :=
  g < wr.heap.size ∧ ∀ i, i < N → (wr.cell? ⟨g, i * 4, none⟩ = some (.bool (F i).1.1) ∧ wr.cell? ⟨g, i * 4 + 1, none⟩ = some (.slice (F i).1.2.1 (F i).1.2.2.1 (F i).1.2.2.2) ∧
    wr.cell? ⟨g, i * 4 + 2, none⟩ = some (.bool (F i).2.1.1) ∧ wr.cell? ⟨g, i * 4 + 3, none⟩ = some (.slice (F i).2.1.2.1 (F i).2.1.2.2.1 (F i).2.1.2.2.2)) ∧ FrE.at_ wr (F i)
theorem Frs.next {wr w' : World} {g N : Nat} {F : Nat → FrE} (h : Frs wr g N F) (hb : Below wr.heap.size wr w') : Frs w' g N F := by
  refine ⟨Nat.lt_of_lt_of_le h.1 hb.size, fun i hi => ?_⟩
  obtain ⟨⟨h0, h1, h2, h3⟩, h4⟩ := h.2 i hi
  obtain ⟨hc, _⟩ := bcell hb
  exact ⟨⟨(hc _ _ h.1).trans h0, (hc _ _ h.1).trans h1, (hc _ _ h.1).trans h2, (hc _ _ h.1).trans h3⟩, h4.1.below hb, h4.2.below hb⟩
theorem Frs.drewN {wr : World} {g N : Nat} {F : Nat → FrE} (h : Frs wr g N F) (j : Nat) : Frs (wr.drewN j) g N F := h.next (below_drewN (Below.refl _ _) j)
theorem Frs.store {wr : World} {g N : Nat} {F : Nat → FrE} (h : Frs wr g N F) {g' j : Nat} (hne : g' ≠ g) {u : Value} (hc : wr.cell? ⟨g', j, none⟩ = some u) (hu : ∀ x, u ≠ .int .u32 x) (v : Value) : Frs (wr.setCell ⟨g', j, none⟩ v) g N F := by
  have far : ∀ o, (wr.setCell ⟨g', j, none⟩ v).cell? ⟨g, o, none⟩ = wr.cell? ⟨g, o, none⟩ := fun o => World.cell?_setCell_other wr ⟨g', j, none⟩ ⟨g, o, none⟩ _ (by intro q; injection q with q; exact hne q)
  refine ⟨by simpa [World.setCell] using h.1, fun i hi => ?_⟩
  obtain ⟨⟨h0, h1, h2, h3⟩, h4⟩ := h.2 i hi
  exact ⟨⟨(far _).trans h0, (far _).trans h1, (far _).trans h2, (far _).trans h3⟩, IsInt.store h4.1 v hc hu, IsInt.store h4.2 v hc hu⟩
def FrE.val (f : FrE) : Value := .agg #[.bool f.1.1, .slice f.1.2.1 f.1.2.2.1 f.1.2.2.2, .bool f.2.1.1, .slice f.2.1.2.1 f.2.1.2.2.1 f.2.1.2.2.2]
end Go.Proofs.YtjcjphgpmpjmbaaDoor

namespace Go.Proofs.YtjcjphgpmpjmbaaDoor
open Go.RowKit

/-- No cell of the block is a limb. -/
def NoLimb (w : World) (g : Nat) : Prop := ∃ cs t fr, w.heap[g]? = some (.cells cs t fr) ∧ ∀ u ∈ cs.toList, ∀ x, u ≠ .int .u32 x
theorem NoLimb.below {w w' : World} {g : Nat} (h : NoLimb w g) (hg : g < w.heap.size) (hb : Below w.heap.size w w') : NoLimb w' g := by
  obtain ⟨cs, t, fr, h1, h2⟩ := h
  exact ⟨cs, t, fr, (hb.block g hg).trans h1, h2⟩
theorem noLimb_cells {w : World} {g : Nat} {cs : Array Value} {t : TypeId} {fr : Nat × Nat} (hg : w.heap[g]? = some (.cells cs t fr)) (h : ∀ u ∈ cs.toList, ∀ x, u ≠ .int .u32 x) : NoLimb w g := ⟨cs, t, fr, hg, h⟩
theorem cells_of_noLimb {w : World} {g : Nat} {cs : Array Value} {t : TypeId} {fr : Nat × Nat} (hg : w.heap[g]? = some (.cells cs t fr)) (h : NoLimb w g) : ∀ u ∈ cs.toList, ∀ x, u ≠ .int .u32 x := by
  obtain ⟨cs', t', fr', h1, h2⟩ := h
  rw [hg] at h1
  injection h1 with h1
  injection h1 with h1
  subst h1
  exact h2
theorem NoLimb.no {w : World} {g : Nat} (h : NoLimb w g) (a : Addr) (ha : a.block = g) (x : Int) : w.cell? a ≠ some (.int .u32 x) := by
  obtain ⟨cs, t, fr, h1, h2⟩ := h
  subst ha
  unfold World.cell?
  rw [h1]
  intro e
  have e' : (if a.spot.isSome then none else cs[a.off]?) = some (.int .u32 x) := e
  split at e'
  · cases e'
  · refine h2 (.int .u32 x) ?_ x rfl
    rw [← Array.getElem?_toList] at e'
    exact List.mem_of_getElem? e'
section
variable {P : Program} (w : World)
theorem run_append_limbs (t ty : TypeId) (base : Nat) (e : TypeId) (i : TypeInfo) (z : Value) (size bytes : Nat) (ht : P.underlying t = some (.slice e)) (hi : P.info? e = some i) (hz : i.zero = some z)
    (hsize : i.size = size) (hby : i.bytes = bytes) (hzs : z.cells.size = size) (hsz : 0 < size)
    (v : Value) (n : Nat) (xs : List Value) (hown : w.ownsRow base e size v n xs)
    (a : Addr) (m c : Nat) (news : List Value) (hl : news.length = m * size) (hnews : ∀ j u, news[j]? = some u → w.cell? (a.add j) = some u) (h1 : ∀ u ∈ news, u.oneCell' = true)
    (hm : 0 < m) (h63 : n + m ≤ maxLen) (hbytes : (n + m) * bytes ≤ 140737488355328) (hbase : base ≤ w.heap.size)
    (hq : ∀ g, v.ownBlock = some g → NoLimb w g) (hqn : ∀ u ∈ news, ∀ x, u ≠ .int .u32 x) (hqx : ∀ u ∈ xs, ∀ x, u ≠ .int .u32 x) (hqz : ∀ k, ∀ u ∈ (Builtin.zeroCells z.cells k).toList, ∀ x, u ≠ .int .u32 x) :
    ∃ g cap w', (Builtin.append_ #[t, t] ty #[v, .slice (some a) m c]).run P w = .ok (.slice (some ⟨g, 0, none⟩) (n + m) cap) w' ∧ w'.ownsRow base e size (.slice (some ⟨g, 0, none⟩) (n + m) cap) (n + m) (xs ++ news) ∧ w.grownBy w' v.ownBlock ∧
      (v.ownBlock = some g ∨ g = w.heap.size) ∧ g < w'.heap.size ∧ NoLimb w' g := by
  subst hsize
  subst hby
  have hsmall : n + m ≤ 9223372036854775807 := by simp only [maxLen] at h63; omega
  have hlen : (xs ++ news).length = (n + m) * i.size := by rw [List.length_append, hown.1, hl, Nat.add_mul]
  have grown : ∀ (old : Nat), old < n + m → ∀ (row : Option Nat),
      (w.drew.alloc (.cells (xs.toArray ++ news.toArray ++ Builtin.zeroCells z.cells (grownCap w (n + m) old e - (n + m))) e)).ownsRow base e i.size
        (.slice (some ⟨w.heap.size, 0, none⟩) (n + m) (grownCap w (n + m) old e)) (n + m) (xs ++ news) ∧
      w.grownBy (w.drew.alloc (.cells (xs.toArray ++ news.toArray ++ Builtin.zeroCells z.cells (grownCap w (n + m) old e - (n + m))) e)) row ∧
      NoLimb (w.drew.alloc (.cells (xs.toArray ++ news.toArray ++ Builtin.zeroCells z.cells (grownCap w (n + m) old e - (n + m))) e)) w.heap.size := by
    intro old ho row
    have hge := grownCap_ge w (n + m) old e
    have hcm : grownCap w (n + m) old e ≤ maxLen := grownCap_le_maxLen w (n + m) old e h63
    refine ⟨⟨hlen, .inr ⟨w.heap.size, _, _, rfl, hbase, heap_alloc_new w.drew _, hge, hcm, ?_, ?_⟩⟩, ⟨rfl, rfl, rfl, by simp, fun k hk _ => heap_alloc_old w.drew _ hk⟩, ?_⟩
    · simp only [Array.size_append, List.size_toArray, size_zeroCells, hzs, hown.1, hl, ← Nat.add_mul]
      congr 1
      omega
    · simp only [Array.toList_append, List.append_assoc]
      rw [← List.append_assoc, ← hlen]
      exact List.take_left
    · refine noLimb_cells (heap_alloc_new w.drew _) (fun u hu => ?_)
      simp only [Array.toList_append, List.mem_append] at hu
      rcases hu with (hu | hu) | hu
      · exact hqx u hu
      · exact hqn u hu
      · exact hqz _ u hu
  rcases hown.2 with ⟨rfl, rfl⟩ | ⟨g, cap, cur, rfl, hbg, hg, hnc, hcm, hcs, htake⟩
  · have hx : xs = [] := List.eq_nil_of_length_eq_zero (by simpa using hown.1)
    subst hx
    have hr := run_append_nil (P := P) w t ty e i z ht hi hz a m c news hl hnews (by omega) (by omega) (by have hb := hbytes; simp only [Nat.zero_add] at hb; omega)
    have hgr := grown 0 (by omega) (Value.ownBlock (.slice none 0 0))
    simp only [Nat.zero_add, List.nil_append, Array.empty_append] at hgr ⊢
    exact ⟨_, _, _, hr, hgr.1, hgr.2.1, .inr rfl, by simp, hgr.2.2⟩
  · have hNL := hq g rfl
    by_cases hroom : n + m ≤ cap
    · have hfit : n * i.size + news.length ≤ cur.size := by rw [hl, hcs, ← Nat.add_mul]; exact Nat.mul_le_mul_right _ hroom
      have hr := run_append_room (P := P) w t ty e i ht hi g n cap cur hg a m c news hl hnews h1 hroom hfit
      refine ⟨_, _, _, hr, ⟨hlen, .inr ⟨g, cap, _, rfl, hbg, setRow_heap w g cur _ e _ hg, hroom, hcm, ?_, ?_⟩⟩, ⟨rfl, rfl, rfl, by simp, fun k _ hk => setRow_other w g k _ (fun e => hk (by simp [Value.ownBlock, e]))⟩, .inl rfl, ?_, ?_⟩
      · simp only [List.size_toArray, List.length_append, List.length_take, List.length_drop, Array.length_toList]
        omega
      · rw [htake, ← hlen]
        exact List.take_left
      · exact (Array.getElem?_eq_some_iff.1 (setRow_heap w g cur _ e _ hg)).1
      · refine noLimb_cells (setRow_heap w g cur _ e _ hg) (fun u hu => ?_)
        have hold := cells_of_noLimb hg hNL
        simp only [List.mem_append] at hu
        rcases hu with (hu | hu) | hu
        · exact hold u (List.mem_of_mem_take hu)
        · exact hqn u hu
        · exact hold u (List.mem_of_mem_drop hu)
    · have holds : ∀ j u, xs[j]? = some u → w.cell? ((⟨g, 0, none⟩ : Addr).add j) = some u := hown.cells (g := g) rfl
      have hr := run_append_grow (P := P) w t ty e i z ht hi hz ⟨g, 0, none⟩ n cap xs hown.1 holds a m c news hl hnews (by omega) (by omega) (growslice_fits (by omega) hbytes)
      have hgr := grown cap (by omega) (Value.ownBlock (.slice (some ⟨g, 0, none⟩) n cap))
      exact ⟨_, _, _, hr, hgr.1, hgr.2.1, .inr rfl, by simp, hgr.2.2⟩
end
/-- A whole number stays through an append onto a row without limbs. -/
theorem IsInt.grown {w w' : World} {row : Option Nat} {neg : Bool} {A : Option Addr} {n c : Nat} {z : Int} (h : IsInt w neg A n c z) (hg : w.grownBy w' row) (hq : ∀ g, row = some g → NoLimb w g) : IsInt w' neg A n c z := by
  obtain ⟨l, ⟨⟨hl, hr⟩, h2⟩, h3⟩ := h
  refine ⟨l, ⟨⟨hl, fun h0 => ?_⟩, h2⟩, h3⟩
  obtain ⟨ad, e, hb, hc⟩ := hr h0
  refine ⟨ad, e, Nat.lt_of_lt_of_le hb hg.size, fun j u hu => ?_⟩
  have hcu := hc j u hu
  obtain ⟨_, hu2⟩ := u32s_get hu
  refine hg.cell hcu (fun e2 => ?_)
  rw [block_of_add] at e2
  have hN := hq ad.block e2.symm
  rw [hu2] at hcu
  exact hN.no (ad.add j) (block_of_add ad j) _ hcu
/-- At the operation. -/
theorem wp_append_limbs {P : Program} (w : World) {o : Oper} {a : Act} {K : Act → World → Prop} {Q : Exit → Act → World → Prop} (s x : Operand) (t : TypeId)
    (ho : o.op = .call { callee := .builtin .append, args := #[s, x], argTypes := #[t, t] })
    (base : Nat) (e : TypeId) (i : TypeInfo) (z : Value) (size bytes : Nat) (ht : P.underlying t = some (.slice e)) (hi : P.info? e = some i) (hz : i.zero = some z)
    (hsize : i.size = size) (hby : i.bytes = bytes) (hzs : z.cells.size = size) (hsz : 0 < size)
    (v : Value) (n : Nat) (xs : List Value) (hs : a.eval s = v) (hown : w.ownsRow base e size v n xs)
    (ad : Addr) (m c : Nat) (news : List Value) (hx : a.eval x = .slice (some ad) m c) (hl : news.length = m * size) (hnews : ∀ j u, news[j]? = some u → w.cell? (ad.add j) = some u) (h1 : ∀ u ∈ news, u.oneCell' = true)
    (hm : 0 < m) (h63 : n + m ≤ maxLen) (hbytes : (n + m) * bytes ≤ 140737488355328) (hbase : base ≤ w.heap.size)
    (hq : ∀ g, v.ownBlock = some g → NoLimb w g) (hqn : ∀ u ∈ news, ∀ x, u ≠ .int .u32 x) (hqx : ∀ u ∈ xs, ∀ x, u ≠ .int .u32 x) (hqz : ∀ k, ∀ u ∈ (Builtin.zeroCells z.cells k).toList, ∀ x, u ≠ .int .u32 x)
    (h : ∀ g cap w', w'.ownsRow base e size (.slice (some ⟨g, 0, none⟩) (n + m) cap) (n + m) (xs ++ news) → w.grownBy w' v.ownBlock → (v.ownBlock = some g ∨ g = w.heap.size) → g < w'.heap.size → NoLimb w' g → K (a.put o.dst (.slice (some ⟨g, 0, none⟩) (n + m) cap)) w') : o.wp P a w K Q := by
  obtain ⟨g, cap, w', hr, h2, h3, h4, h5, h6⟩ := run_append_limbs (P := P) w t o.type base e i z size bytes ht hi hz hsize hby hzs hsz v n xs hown ad m c news hl hnews h1 hm h63 hbytes hbase hq hqn hqx hqz
  unfold Oper.wp execOp
  simp only [ho, resolve, invoke, builtin, Sem.run_bind, Sem.run_pure, Result.andThen_ok, List.map_toArray, List.map_cons, List.map_nil, hs, hx, hr]
  exact h g cap w' h2 h3 h4 h5 h6
end Go.Proofs.YtjcjphgpmpjmbaaDoor

namespace Go.Proofs.YtjcjphgpmpjmbaaDoor
open Go.RowKit

theorem info_frac : (Tryd.prog.info? 26).map (fun i => (i.zero, i.size, i.bytes)) = some (some (.agg #[.bool false, .slice none 0 0, .bool false, .slice none 0 0]), 4, 64) := by kernel_rfl
theorem under_fracs : Tryd.prog.underlying 37 = some (.slice 26) := by kernel_rfl
theorem frac_zeros (k : Nat) : ∀ u ∈ (Builtin.zeroCells (Value.agg #[.bool false, .slice none 0 0, .bool false, .slice none 0 0]).cells k).toList, ∀ x, u ≠ .int .u32 x := by
  intro u hu x e
  have hc : (Value.agg #[.bool false, .slice none 0 0, .bool false, .slice none 0 0]).cells = #[.bool false, .slice none 0 0, .bool false, .slice none 0 0] := rfl
  rw [hc] at hu
  unfold Builtin.zeroCells at hu
  simp only [Array.toList_map, Array.toList_range, List.mem_map, List.mem_range] at hu
  obtain ⟨i, _, hi⟩ := hu
  have h4 : i % 4 < 4 := Nat.mod_lt _ (by decide)
  have hsz : (#[Value.bool false, .slice none 0 0, .bool false, .slice none 0 0] : Array Value).size = 4 := rfl
  rw [hsz] at hi
  obtain ⟨r, hr⟩ : ∃ r, i % 4 = r := ⟨_, rfl⟩
  rw [hr] at hi h4
  match r, h4 with
  | 0, _ => rw [← hi] at e; cases e
  | 1, _ => rw [← hi] at e; cases e
  | 2, _ => rw [← hi] at e; cases e
  | 3, _ => rw [← hi] at e; cases e
/-- A row of fractions of the call's own. -/
def AllR (base : Nat) (av : Value) (N : Nat) (V : Nat → Rat) (wr : World) : Prop :=
  ∃ (G : Nat → FrE) (xs : List Value), wr.ownsRow base 26 4 av N xs ∧ (∀ j, j < N → ∀ q v, (G j).vs[q]? = some v → xs[j * 4 + q]? = some v) ∧ (∀ u ∈ xs, ∀ x, u ≠ .int .u32 x) ∧
    (∀ g, av.ownBlock = some g → NoLimb wr g) ∧ ∀ j, j < N → FrE.at_ wr (G j) ∧ (G j).2.2 = V j
theorem own_next {w w' : World} {base : Nat} {e : TypeId} {size n : Nat} {v : Value} {xs : List Value} (h : w.ownsRow base e size v n xs) (hb : Below w.heap.size w w') : w'.ownsRow base e size v n xs :=
  h.kept (only_of_below hb) (by cases hv : v.ownBlock <;> simp)
theorem AllR.next {base N : Nat} {av : Value} {V : Nat → Rat} {wr w' : World} (h : AllR base av N V wr) (hb : Below wr.heap.size wr w') : AllR base av N V w' := by
  obtain ⟨G, xs, h1, h2, h3, h4, h5⟩ := h
  exact ⟨G, xs, own_next h1 hb, h2, h3, fun g hg => (h4 g hg).below (h1.lt g hg).2 hb, fun j hj => ⟨⟨(h5 j hj).1.1.below hb, (h5 j hj).1.2.below hb⟩, (h5 j hj).2⟩⟩
theorem AllR.nil (base : Nat) (V : Nat → Rat) (wr : World) : AllR base (.slice none 0 0) 0 V wr :=
  ⟨fun _ => ((false, none, 0, 0), (false, none, 0, 0), 0), [], World.ownsRow_nil wr base _ 4, fun j hj => absurd hj (by omega), fun u hu => absurd hu (by simp), (fun g hg => absurd hg (by simp [Value.ownBlock])), fun j hj => absurd hj (by omega)⟩
theorem vs_no_limb (f : FrE) : ∀ u ∈ f.vs, ∀ x, u ≠ .int .u32 x := by
  intro u hu x e
  unfold FrE.vs at hu
  simp only [List.mem_cons, List.not_mem_nil, or_false] at hu
  rcases hu with rfl | rfl | rfl | rfl <;> cases e
def updE (G : Nat → FrE) (N : Nat) (f : FrE) (j : Nat) : FrE := if j = N then f else G j
theorem updE_same (G : Nat → FrE) (N : Nat) (f : FrE) : updE G N f N = f := if_pos rfl
theorem updE_other (G : Nat → FrE) {N j : Nat} (f : FrE) (h : j ≠ N) : updE G N f j = G j := if_neg h
theorem AllR.more {base N g cap : Nat} {av : Value} {V : Nat → Rat} {wr w' : World} {G : Nat → FrE} {xs : List Value} {f : FrE} (h1 : wr.ownsRow base 26 4 av N xs) (h2 : ∀ j, j < N → ∀ q v, (G j).vs[q]? = some v → xs[j * 4 + q]? = some v) (h3 : ∀ u ∈ xs, ∀ x, u ≠ .int .u32 x)
    (h4 : ∀ g, av.ownBlock = some g → NoLimb wr g) (h5 : ∀ j, j < N → FrE.at_ wr (G j) ∧ (G j).2.2 = V j) (hf : FrE.at_ wr f) (hv : f.2.2 = V N)
    (k1 : w'.ownsRow base 26 4 (.slice (some ⟨g, 0, none⟩) (N + 1) cap) (N + 1) (xs ++ f.vs)) (k2 : wr.grownBy w' av.ownBlock) (k3 : NoLimb w' g) : AllR base (.slice (some ⟨g, 0, none⟩) (N + 1) cap) (N + 1) V w' := by
  refine ⟨updE G N f, xs ++ f.vs, k1, fun j hj q v hq => ?_, fun u hu => ?_, fun g' hg' => ?_, fun j hj => ?_⟩
  · have hl : xs.length = N * 4 := h1.1
    by_cases e : j = N
    · subst e
      rw [updE_same] at hq
      rw [List.getElem?_append_right (by omega), hl, show j * 4 + q - j * 4 = q by omega]
      exact hq
    · rw [updE_other _ _ e] at hq
      have hx := h2 j (by omega) q v hq
      rw [List.getElem?_append_left (by
        have := (List.getElem?_eq_some_iff.1 hx).1
        exact this)]
      exact hx
  · rcases List.mem_append.1 hu with hu | hu
    · exact h3 u hu
    · exact vs_no_limb f u hu
  · injection hg' with hg'
    rw [← hg']
    exact k3
  · by_cases e : j = N
    · subst e
      rw [updE_same]
      exact ⟨⟨hf.1.grown k2 h4, hf.2.grown k2 h4⟩, hv⟩
    · rw [updE_other _ _ e]
      have := h5 j (by omega)
      exact ⟨⟨this.1.1.grown k2 h4, this.1.2.grown k2 h4⟩, this.2⟩
theorem AllR.frs {base N g cap : Nat} {V : Nat → Rat} {wr : World} (h : AllR base (.slice (some ⟨g, 0, none⟩) N cap) N V wr) : ∃ F : Nat → FrE, Frs wr g N F ∧ ∀ j, j < N → (F j).2.2 = V j := by
  obtain ⟨G, xs, h1, h2, h3, h4, h5⟩ := h
  refine ⟨G, ⟨(h1.lt g rfl).2, fun i hi => ⟨?_, (h5 i hi).1⟩⟩, fun j hj => (h5 j hj).2⟩
  have cell : ∀ q v, q < 4 → (G i).vs[q]? = some v → wr.cell? ⟨g, i * 4 + q, none⟩ = some v := fun q v hq hv => by
    rw [h1.cellAt (i * 4 + q) (by omega)]
    exact h2 i hi q v hv
  exact ⟨cell 0 _ (by omega) rfl, cell 1 _ (by omega) rfl, cell 2 _ (by omega) rfl, cell 3 _ (by omega) rfl⟩

/-! ### what an append leaves -/
theorem Frs.grown {w w' : World} {g N : Nat} {F : Nat → FrE} {row : Option Nat} (h : Frs w g N F) (hg : w.grownBy w' row) (hne : some g ≠ row) (hq : ∀ g, row = some g → NoLimb w g) : Frs w' g N F := by
  refine ⟨Nat.lt_of_lt_of_le h.1 hg.size, fun i hi => ?_⟩
  obtain ⟨⟨h0, h1, h2, h3⟩, h4⟩ := h.2 i hi
  exact ⟨⟨hg.cell h0 hne, hg.cell h1 hne, hg.cell h2 hne, hg.cell h3 hne⟩, h4.1.grown hg hq, h4.2.grown hg hq⟩
theorem Blk.grown {w w' : World} {g : Nat} {vs : List Value} {row : Option Nat} (h : Blk w g vs) (hg : w.grownBy w' row) (hne : some g ≠ row) : Blk w' g vs :=
  ⟨Nat.lt_of_lt_of_le h.1 hg.size, fun k v hk => ⟨hg.cell (h.2 k v hk).1 hne, (hg.frozen_far ⟨g, k, none⟩ h.1 hne).trans (h.2 k v hk).2⟩⟩
/-- The walk's memory in Do's loops. -/
def DoM (w : World) (L : List (Nat × List Value)) (gx gy B : Nat) (X Y : Nat → FrE) (av : Value) (N : Nat) (V : Nat → Rat) (wr : World) : Prop :=
  Mm w L [] wr ∧ Frs wr gx 2 X ∧ Frs wr gy 2 Y ∧ Hid (w.heap.size ≤ B ∧ (∀ b ∈ L, b.1 < B) ∧ gx < B ∧ gy < B ∧ B ≤ wr.heap.size) ∧ AllR B av N V wr
theorem DoM.next {w wr w' : World} {L : List (Nat × List Value)} {gx gy B N : Nat} {X Y : Nat → FrE} {av : Value} {V : Nat → Rat} (h : DoM w L gx gy B X Y av N V wr) (hb : Below wr.heap.size wr w') : DoM w L gx gy B X Y av N V w' :=
  ⟨h.1.next hb, h.2.1.next hb, h.2.2.1.next hb, Lib.hid ⟨h.2.2.2.1.out.1, h.2.2.2.1.out.2.1, h.2.2.2.1.out.2.2.1, h.2.2.2.1.out.2.2.2.1, Nat.le_trans h.2.2.2.1.out.2.2.2.2 hb.size⟩, h.2.2.2.2.next hb⟩
theorem DoM.drew {w wr : World} {L : List (Nat × List Value)} {gx gy B N : Nat} {X Y : Nat → FrE} {av : Value} {V : Nat → Rat} (h : DoM w L gx gy B X Y av N V wr) : DoM w L gx gy B X Y av N V wr.drew := h.next ⟨rfl, rfl, rfl, Nat.le_refl _, fun _ _ => rfl⟩
theorem DoM.drewN {w wr : World} {L : List (Nat × List Value)} {gx gy B N : Nat} {X Y : Nat → FrE} {av : Value} {V : Nat → Rat} (h : DoM w L gx gy B X Y av N V wr) (n : Nat) : DoM w L gx gy B X Y av N V (wr.drewN n) := h.next (below_drewN (Below.refl _ _) n)
theorem own_ge2 {wr : World} {base N : Nat} {e : TypeId} {size : Nat} {av : Value} {xs : List Value} (h : wr.ownsRow base e size av N xs) {g : Nat} (hg : g < base) : some g ≠ av.ownBlock := by
  intro k
  have := (h.lt g k.symm).1
  omega
theorem below_grown {w wr w' : World} {B : Nat} {row : Option Nat} (h : Below B w wr) (hg : wr.grownBy w' row) (hB : B ≤ wr.heap.size) (hr : ∀ g, row = some g → B ≤ g) : Below B w w' :=
  ⟨hg.os.trans h.os, hg.tape.trans h.tape, hg.output.trans h.output, Nat.le_trans h.size hg.size, fun k hk => (hg.block k (Nat.lt_of_lt_of_le hk hB) (fun e => by
    have := hr k e.symm
    omega)).trans (h.block k hk)⟩
theorem DoM.more {w wr w' : World} {L : List (Nat × List Value)} {gx gy B N g cap : Nat} {X Y : Nat → FrE} {av : Value} {V : Nat → Rat} {xs : List Value} (h : DoM w L gx gy B X Y av N V wr)
    (h1 : wr.ownsRow B 26 4 av N xs) (h4 : ∀ g, av.ownBlock = some g → NoLimb wr g) (k2 : wr.grownBy w' av.ownBlock) (hA : AllR B (.slice (some ⟨g, 0, none⟩) (N + 1) cap) (N + 1) V w') : DoM w L gx gy B X Y (.slice (some ⟨g, 0, none⟩) (N + 1) cap) (N + 1) V w' := by
  obtain ⟨c1, c2, c3, c4, c5⟩ := h.2.2.2.1.out
  refine ⟨⟨below_grown h.1.1 k2 (by have := h.1.1.size; omega) (fun g hg => by have := (h1.lt g hg).1; omega), fun b hb => ⟨(h.1.2.1 b hb).1, (h.1.2.1 b hb).2.grown k2 (own_ge2 h1 (c2 b hb))⟩, fun p hp => absurd hp (by simp)⟩,
    h.2.1.grown k2 (own_ge2 h1 c3) h4, h.2.2.1.grown k2 (own_ge2 h1 c4) h4, Lib.hid ⟨c1, c2, c3, c4, Nat.le_trans c5 k2.size⟩, hA⟩
theorem DoM.row {w wr : World} {L : List (Nat × List Value)} {gx gy B N : Nat} {X Y : Nat → FrE} {av : Value} {V : Nat → Rat} (h : DoM w L gx gy B X Y av N V wr) (h0 : 0 < N) : ∃ g cap, av = .slice (some ⟨g, 0, none⟩) N cap ∧ N ≤ cap := by
  obtain ⟨_, _, _, _, G, xs, h1, _⟩ := h
  rcases h1.2 with ⟨_, k⟩ | ⟨g, cap, cur, rfl, _, _, hnc, _⟩
  · omega
  · exact ⟨g, cap, rfl, hnc⟩
theorem vs_new (w : World) (f : FrE) (t : TypeId) : ∀ k v, f.vs[k]? = some v → (w.alloc (.cells f.vs.toArray t)).cell? ⟨w.heap.size, k, none⟩ = some v := fun k v h => ((Blk.new w rfl f.vs t).2 k v h).1
/-! ### plain facts of the four -/
end Go.Proofs.YtjcjphgpmpjmbaaDoor

namespace Go.Proofs.YtjcjphgpmpjmbaaDoor
open Go.RowKit

theorem wpList_frac {wr : World} {ops : Array Oper} {rest : List Oper} {o : Oper} {a : Act} {Q : Exit → Act → World → Prop} (hgd : o.guard = none) (s x : Operand)
    (ho : o.op = .call { callee := .builtin .append, args := #[s, x], argTypes := #[37, 37] })
    {B N : Nat} {av : Value} {V : Nat → Rat} (f : FrE) (ga c : Nat) (hA : AllR B av N V wr) (hB : B ≤ wr.heap.size) (hf : ∀ k v, f.vs[k]? = some v → wr.cell? ⟨ga, k, none⟩ = some v) (hat : FrE.at_ wr f) (hv : f.2.2 = V N) (hN : N ≤ 1000)
    (hs : a.eval s = av) (hx : a.eval x = .slice (some ⟨ga, 0, none⟩) 1 c)
    (h : ∀ g cap w', AllR B (.slice (some ⟨g, 0, none⟩) (N + 1) cap) (N + 1) V w' → Below B wr w' → wpList Tryd.prog ops Q rest (a.put o.dst (.slice (some ⟨g, 0, none⟩) (N + 1) cap)) w') : wpList Tryd.prog ops Q (o :: rest) a wr := by
  obtain ⟨i, hi, hz, hsz, hby⟩ := info_parts info_frac
  obtain ⟨G, xs, h1, h2, h3, h4, h5⟩ := hA
  refine wpList_plain hgd fun _ hK => wp_append_limbs wr s x 37 ho B 26 i _ 4 64 under_fracs hi hz hsz hby rfl (by decide) av N xs hs h1 ⟨ga, 0, none⟩ 1 c f.vs hx rfl (fun j u hj => ?_) (fun u hu => ?_) (by decide) (by simp [maxLen]; omega) (by omega) hB h4 (vs_no_limb f) h3 frac_zeros fun g cap w' k1 k2 k3 k4 k5 => hK _ _ (h g cap w' (AllR.more h1 h2 h3 h4 h5 hat hv k1 k2 k5) ?_)
  · have e : (⟨ga, 0, none⟩ : Addr).add j = ⟨ga, j, none⟩ := by
      cases j with
      | zero => simp [Addr.add]
      | succ n => simp [Addr.add]
    rw [e]
    exact hf j u hj
  · unfold FrE.vs at hu
    simp only [List.mem_cons, List.not_mem_nil, or_false] at hu
    rcases hu with rfl | rfl | rfl | rfl <;> rfl
  · exact below_grown (Below.refl _ _) k2 hB (fun g hg => (h1.lt g hg).1)

def RetWo (W : World) (N : Nat) (X : Nat → Nat) (e : Ending) (w' : World) : Prop :=
  ((∀ j, j < N → Flt.Fin (X j)) ∧ ∃ g c F, e = .returned (.tuple #[.slice (some ⟨g, 0, none⟩) N c, .bool true]) ∧ N ≤ c ∧ Frs w' g N F ∧ (∀ j, j < N → (F j).2.2 = fr (X j)) ∧ W.heap.size ≤ g ∧ Below W.heap.size W w') ∨
  ((∃ j, j < N ∧ ¬ Flt.Fin (X j)) ∧ e = .returned (.tuple #[.slice none 0 0, .bool false]) ∧ Below W.heap.size W w')
theorem AllR.own {base N : Nat} {av : Value} {V : Nat → Rat} {wr : World} (h : AllR base av N V wr) (h0 : 0 < N) : ∃ g cap, av = .slice (some ⟨g, 0, none⟩) N cap ∧ N ≤ cap ∧ base ≤ g := by
  obtain ⟨G, xs, h1, _⟩ := h
  rcases h1.2 with ⟨_, k⟩ | ⟨g, cap, cur, rfl, hb, _, hnc, _⟩
  · omega
  · exact ⟨g, cap, rfl, hnc, hb⟩
set_option maxRecDepth 100000 in
set_option maxHeartbeats 3200000 in
theorem law_worth (g N c : Nat) (X : Nat → Nat) (w : World) (hg : g < w.heap.size) (hN0 : 0 < N) (hN : N ≤ 1000) (hX : ∀ i, i < N → w.cell? ⟨g, i, none⟩ = some (.float .f64 (X i)) ∧ X i < 2 ^ 64) (hT : Tab w) :
    Calls Tryd.prog 13 #[.slice (some ⟨g, 0, none⟩) N c] w (RetWo w N X) := by
  have HT := Lib.hid hT
  have HX := Lib.hid hX
  clear hX hT
  go_enter Tryd.func13, Tryd.ntmps13
  go_wp2_with fail
  go_loopw [4, 5] (fun av i wr => ∃ k : Nat, k ≤ N ∧ i = .int .i64 (k : Int) ∧ Hid (∀ j, j < k → Flt.Fin (X j)) ∧ AllR w.heap.size av k (fun j => fr (X j)) wr ∧ Below w.heap.size w wr) (fun _ i _ => N - (intOf i).toNat)
  case atStart => exact ⟨0, Nat.zero_le _, rfl, Lib.hid (fun j hj => absurd hj (by omega)), AllR.nil _ _ _, Below.refl _ _⟩
  case round =>
    obtain ⟨k, hk, rfl, HF, hA, hb⟩ := hrel
    have hsz := hb.size
    by_cases hlt : k < N
    · obtain ⟨x, hx⟩ : ∃ x, X k = x := ⟨_, rfl⟩
      obtain ⟨c0, x64⟩ := HX.out k hlt
      rw [hx] at c0 x64
      have c1 := (hb.cell (p := ⟨g, k, none⟩) hg).trans c0
      have hlt' : (k : Int) < (N : Int) := by omega
      have hk0 : (0 : Int) ≤ (k : Int) := Int.natCast_nonneg _
      have HT1 := Lib.hid (HT.out.next hb)
      by_cases hf : Flt.Fin x
      · have HF1 : Hid (∀ j, j < k + 1 → Flt.Fin (X j)) := Lib.hid (fun j hj => by
          rcases Nat.lt_or_ge j k with h | h
          · exact HF.out j h
          · have : j = k := by omega
            rw [this, hx]; exact hf)
        have HXK := Lib.hid hx
        have hA0 := hA
        clear hx c0
        go_wp2_with fail
        refine (frac_float_fin x x64 _ HT1.out hf).mono ?_
        rintro e1 w1 ⟨neg1, A1, n1, c1', l1, ne1, B1, m1, d1, k1, rfl, O1, hb1⟩
        obtain ⟨i1, i2, _⟩ := O1.ints
        have KL := ((((Mm.nil w1).int i2).int i1).var (g := w1.heap.size) rfl [.bool neg1, .slice A1 n1 c1', .bool ne1, .slice B1 m1 d1] 26)
        have hA1 := hA.next hb1
        go_upto_if 23 with (fail)
        generalize w1.alloc (.cells #[.bool neg1, .slice A1 n1 c1', .bool ne1, .slice B1 m1 d1] 26) = w2 at KL ⊢
        have hA2 := hA1.next KL.1
        have hb2 := hb.trans ((below_next hb1 KL.1).mono hsz)
        obtain ⟨⟨qa1, qb1, qc1, qd1⟩, ⟨qe1, qf1, qg1, qh1⟩, qi1⟩ := (KL.blk (g := w1.heap.size) (vs := [.bool neg1, .slice A1 n1 c1', .bool ne1, .slice B1 m1 d1]) (by simp)).four
        have hi1 := KL.at_ (neg := neg1) (A := A1) (n := n1) (c := c1') (z := (fr x).num) (by simp)
        have hi2 := KL.at_ (neg := ne1) (A := B1) (n := m1) (c := d1) (z := ((fr x).den : Int)) (by simp)
        have hsz2 := hb2.size
        have hA3 := hA2.next (w' := w2.alloc (.cells #[.bool neg1, .slice A1 n1 c1', .bool ne1, .slice B1 m1 d1] 26)) ((Below.refl _ _).alloc (Nat.le_refl _) _)
        have hb3 := hb2.alloc hsz2 (.cells #[.bool neg1, .slice A1 n1 c1', .bool ne1, .slice B1 m1 d1] 26)
        have hcell := vs_new w2 ((neg1, A1, n1, c1'), (ne1, B1, m1, d1), fr x) 26
        have hat : FrE.at_ (w2.alloc (.cells #[.bool neg1, .slice A1 n1 c1', .bool ne1, .slice B1 m1 d1] 26)) ((neg1, A1, n1, c1'), (ne1, B1, m1, d1), fr x) := ⟨hi1.alloc _, hi2.alloc _⟩
        clear HF hA hA0 hA1 hA2 hb hb1 hb2 O1 i1 i2 c1 HT1 hi1 hi2 KL
        go_wp2_with (at_builtin; (refine wpList_frac rfl _ _ rfl ((neg1, A1, n1, c1'), (ne1, B1, m1, d1), fr x) w2.heap.size 1 hA3 (by simp; omega) hcell hat (by rw [← HXK.out]) (by omega) rfl rfl ?_; intro g4 cap4 w4 hA4 hb4))
        have hb5 := hb3.trans hb4
        refine ⟨⟨k + 1, hlt, congrArg (Value.int .i64) (by omega), HF1, hA4, hb5⟩, ?_⟩
        simp [intOf]
        omega
      · have HR : Hid (∃ j, j < N ∧ ¬ Flt.Fin (X j)) := Lib.hid ⟨k, hlt, by rw [hx]; exact hf⟩
        clear hA HF hx c0
        go_wp2_with fail
        refine (frac_float_no x x64 _ hf).mono ?_
        rintro e1 w1 ⟨rfl, hb1⟩
        have KL := (Mm.nil w1).var (g := w1.heap.size) rfl [.bool false, .slice none 0 0, .bool false, .slice none 0 0] 26
        have hb2 := hb.trans ((below_next hb1 KL.1).mono hsz)
        clear hb hb1 KL hf
        go_wp2_with fail
        go_ret2
        exact .inr ⟨HR.out, rfl, hb2⟩
    · obtain rfl : k = N := by omega
      have hnl : ¬ (k : Int) < (k : Int) := by omega
      obtain ⟨ga, ca, rfl, hca, hga⟩ := hA.own hN0
      obtain ⟨F, hF, hV⟩ := hA.frs
      have HR : Hid (RetWo w k X (.returned (.tuple #[.slice (some ⟨ga, 0, none⟩) k ca, .bool true])) wr) := Lib.hid (.inl ⟨HF.out, ga, ca, F, rfl, hca, hF, hV, hga, hb⟩)
      clear HF hA hF hV
      go_wp2_with fail
      go_ret2
      exact HR.out
end Go.Proofs.YtjcjphgpmpjmbaaDoor
