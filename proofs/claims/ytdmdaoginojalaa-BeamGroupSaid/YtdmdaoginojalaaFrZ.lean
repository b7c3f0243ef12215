/-
  The references' spans (polestarref05): the operations on two spans (Do).
-/
import Derived.Test.YtdmdaoginojalaaSpnV
import Derived.Test.YtdmdaoginojalaaLst
import Derived.Test.YtdmdaoginojalaaExB
import Derived.Test.YtdmdaoginojalaaTzF
import Derived.Test.YtdmdaoginojalaaRoot
import Derived.Test.YtdmdaoginojalaaSpnR
namespace Go.Proofs.Ytdmdaoginojalaa
open Go.RowKit

theorem info_frac : (Try.prog.info? 26).map (fun i => (i.zero, i.size, i.bytes)) = some (some (.agg #[.bool false, .slice none 0 0, .bool false, .slice none 0 0]), 4, 64) := by kernel_rfl
theorem under_fracs : Try.prog.underlying 71 = some (.slice 26) := by kernel_rfl
theorem frac_zeros (k : Nat) : ∀ u ∈ (Builtin.zeroCells (Value.agg #[.bool false, .slice none 0 0, .bool false, .slice none 0 0]).cells k).toList, ∀ x, u ≠ .int .u32 x := by
  intro u hu x e
  have hc : (Value.agg #[.bool false, .slice none 0 0, .bool false, .slice none 0 0]).cells = #[.bool false, .slice none 0 0, .bool false, .slice none 0 0] := rfl
  rw [hc] at hu
  unfold Builtin.zeroCells at hu
  simp only [Array.toList_map, Array.toList_range, List.mem_map, List.mem_range] at hu
  obtain ⟨i, _, hi⟩ := hu
  have h4 : i % 4 < 4 := Nat.mod_lt _ (by decide)
  have hsz : (#[Value.bool false, .slice none 0 0, .bool false, .slice none 0 0] : Array Value).size = 4 := rfl
  rw [hsz] at hi
  obtain ⟨r, hr⟩ : ∃ r, i % 4 = r := ⟨_, rfl⟩
  rw [hr] at hi h4
  match r, h4 with
  | 0, _ => rw [← hi] at e; cases e
  | 1, _ => rw [← hi] at e; cases e
  | 2, _ => rw [← hi] at e; cases e
  | 3, _ => rw [← hi] at e; cases e
/-- A row of fractions of the call's own. -/
def AllR (base : Nat) (av : Value) (N : Nat) (V : Nat → Rat) (wr : World) : Prop :=
  ∃ (G : Nat → FrE) (xs : List Value), wr.ownsRow base 26 4 av N xs ∧ (∀ j, j < N → ∀ q v, (G j).vs[q]? = some v → xs[j * 4 + q]? = some v) ∧ (∀ u ∈ xs, ∀ x, u ≠ .int .u32 x) ∧
    (∀ g, av.ownBlock = some g → NoLimb wr g) ∧ ∀ j, j < N → FrE.at_ wr (G j) ∧ (G j).2.2 = V j
theorem own_next {w w' : World} {base : Nat} {e : TypeId} {size n : Nat} {v : Value} {xs : List Value} (h : w.ownsRow base e size v n xs) (hb : Below w.heap.size w w') : w'.ownsRow base e size v n xs :=
  h.kept (only_of_below hb) (by cases hv : v.ownBlock <;> simp)
theorem AllR.next {base N : Nat} {av : Value} {V : Nat → Rat} {wr w' : World} (h : AllR base av N V wr) (hb : Below wr.heap.size wr w') : AllR base av N V w' := by
  obtain ⟨G, xs, h1, h2, h3, h4, h5⟩ := h
  exact ⟨G, xs, own_next h1 hb, h2, h3, fun g hg => (h4 g hg).below (h1.lt g hg).2 hb, fun j hj => ⟨⟨(h5 j hj).1.1.below hb, (h5 j hj).1.2.below hb⟩, (h5 j hj).2⟩⟩
theorem AllR.nil (base : Nat) (V : Nat → Rat) (wr : World) : AllR base (.slice none 0 0) 0 V wr :=
  ⟨fun _ => ((false, none, 0, 0), (false, none, 0, 0), 0), [], World.ownsRow_nil wr base _ 4, fun j hj => absurd hj (by omega), fun u hu => absurd hu (by simp), (fun g hg => absurd hg (by simp [Value.ownBlock])), fun j hj => absurd hj (by omega)⟩
theorem vs_no_limb (f : FrE) : ∀ u ∈ f.vs, ∀ x, u ≠ .int .u32 x := by
  intro u hu x e
  unfold FrE.vs at hu
  simp only [List.mem_cons, List.not_mem_nil, or_false] at hu
  rcases hu with rfl | rfl | rfl | rfl <;> cases e
def updE (G : Nat → FrE) (N : Nat) (f : FrE) (j : Nat) : FrE := if j = N then f else G j
theorem updE_same (G : Nat → FrE) (N : Nat) (f : FrE) : updE G N f N = f := if_pos rfl
theorem updE_other (G : Nat → FrE) {N j : Nat} (f : FrE) (h : j ≠ N) : updE G N f j = G j := if_neg h
theorem AllR.more {base N g cap : Nat} {av : Value} {V : Nat → Rat} {wr w' : World} {G : Nat → FrE} {xs : List Value} {f : FrE} (h1 : wr.ownsRow base 26 4 av N xs) (h2 : ∀ j, j < N → ∀ q v, (G j).vs[q]? = some v → xs[j * 4 + q]? = some v) (h3 : ∀ u ∈ xs, ∀ x, u ≠ .int .u32 x)
    (h4 : ∀ g, av.ownBlock = some g → NoLimb wr g) (h5 : ∀ j, j < N → FrE.at_ wr (G j) ∧ (G j).2.2 = V j) (hf : FrE.at_ wr f) (hv : f.2.2 = V N)
    (k1 : w'.ownsRow base 26 4 (.slice (some ⟨g, 0, none⟩) (N + 1) cap) (N + 1) (xs ++ f.vs)) (k2 : wr.grownBy w' av.ownBlock) (k3 : NoLimb w' g) : AllR base (.slice (some ⟨g, 0, none⟩) (N + 1) cap) (N + 1) V w' := by
  refine ⟨updE G N f, xs ++ f.vs, k1, fun j hj q v hq => ?_, fun u hu => ?_, fun g' hg' => ?_, fun j hj => ?_⟩
  · have hl : xs.length = N * 4 := h1.1
    by_cases e : j = N
    · subst e
      rw [updE_same] at hq
      rw [List.getElem?_append_right (by omega), hl, show j * 4 + q - j * 4 = q by omega]
      exact hq
    · rw [updE_other _ _ e] at hq
      have hx := h2 j (by omega) q v hq
      rw [List.getElem?_append_left (by
        have := (List.getElem?_eq_some_iff.1 hx).1
        exact this)]
      exact hx
  · rcases List.mem_append.1 hu with hu | hu
    · exact h3 u hu
    · exact vs_no_limb f u hu
  · injection hg' with hg'
    rw [← hg']
    exact k3
  · by_cases e : j = N
    · subst e
      rw [updE_same]
      exact ⟨⟨hf.1.grown k2 h4, hf.2.grown k2 h4⟩, hv⟩
    · rw [updE_other _ _ e]
      have := h5 j (by omega)
      exact ⟨⟨this.1.1.grown k2 h4, this.1.2.grown k2 h4⟩, this.2⟩
theorem AllR.frs {base N g cap : Nat} {V : Nat → Rat} {wr : World} (h : AllR base (.slice (some ⟨g, 0, none⟩) N cap) N V wr) : ∃ F : Nat → FrE, Frs wr g N F ∧ ∀ j, j < N → (F j).2.2 = V j := by
  obtain ⟨G, xs, h1, h2, h3, h4, h5⟩ := h
  refine ⟨G, ⟨(h1.lt g rfl).2, fun i hi => ⟨?_, (h5 i hi).1⟩⟩, fun j hj => (h5 j hj).2⟩
  have cell : ∀ q v, q < 4 → (G i).vs[q]? = some v → wr.cell? ⟨g, i * 4 + q, none⟩ = some v := fun q v hq hv => by
    rw [h1.cellAt (i * 4 + q) (by omega)]
    exact h2 i hi q v hv
  exact ⟨cell 0 _ (by omega) rfl, cell 1 _ (by omega) rfl, cell 2 _ (by omega) rfl, cell 3 _ (by omega) rfl⟩

/-! ### what an append leaves -/
theorem Frs.grown {w w' : World} {g N : Nat} {F : Nat → FrE} {row : Option Nat} (h : Frs w g N F) (hg : w.grownBy w' row) (hne : some g ≠ row) (hq : ∀ g, row = some g → NoLimb w g) : Frs w' g N F := by
  refine ⟨Nat.lt_of_lt_of_le h.1 hg.size, fun i hi => ?_⟩
  obtain ⟨⟨h0, h1, h2, h3⟩, h4⟩ := h.2 i hi
  exact ⟨⟨hg.cell h0 hne, hg.cell h1 hne, hg.cell h2 hne, hg.cell h3 hne⟩, h4.1.grown hg hq, h4.2.grown hg hq⟩
theorem Blk.grown {w w' : World} {g : Nat} {vs : List Value} {row : Option Nat} (h : Blk w g vs) (hg : w.grownBy w' row) (hne : some g ≠ row) : Blk w' g vs :=
  ⟨Nat.lt_of_lt_of_le h.1 hg.size, fun k v hk => ⟨hg.cell (h.2 k v hk).1 hne, (hg.frozen_far ⟨g, k, none⟩ h.1 hne).trans (h.2 k v hk).2⟩⟩
/-- The walk's memory in Do's loops. -/
def DoM (w : World) (L : List (Nat × List Value)) (gx gy B : Nat) (X Y : Nat → FrE) (av : Value) (N : Nat) (V : Nat → Rat) (wr : World) : Prop :=
  Mm w L [] wr ∧ Frs wr gx 2 X ∧ Frs wr gy 2 Y ∧ Hid (w.heap.size ≤ B ∧ (∀ b ∈ L, b.1 < B) ∧ gx < B ∧ gy < B ∧ B ≤ wr.heap.size) ∧ AllR B av N V wr
theorem DoM.next {w wr w' : World} {L : List (Nat × List Value)} {gx gy B N : Nat} {X Y : Nat → FrE} {av : Value} {V : Nat → Rat} (h : DoM w L gx gy B X Y av N V wr) (hb : Below wr.heap.size wr w') : DoM w L gx gy B X Y av N V w' :=
  ⟨h.1.next hb, h.2.1.next hb, h.2.2.1.next hb, Lib.hid ⟨h.2.2.2.1.out.1, h.2.2.2.1.out.2.1, h.2.2.2.1.out.2.2.1, h.2.2.2.1.out.2.2.2.1, Nat.le_trans h.2.2.2.1.out.2.2.2.2 hb.size⟩, h.2.2.2.2.next hb⟩
theorem DoM.drew {w wr : World} {L : List (Nat × List Value)} {gx gy B N : Nat} {X Y : Nat → FrE} {av : Value} {V : Nat → Rat} (h : DoM w L gx gy B X Y av N V wr) : DoM w L gx gy B X Y av N V wr.drew := h.next ⟨rfl, rfl, rfl, Nat.le_refl _, fun _ _ => rfl⟩
theorem DoM.drewN {w wr : World} {L : List (Nat × List Value)} {gx gy B N : Nat} {X Y : Nat → FrE} {av : Value} {V : Nat → Rat} (h : DoM w L gx gy B X Y av N V wr) (n : Nat) : DoM w L gx gy B X Y av N V (wr.drewN n) := h.next (below_drewN (Below.refl _ _) n)
theorem own_ge2 {wr : World} {base N : Nat} {e : TypeId} {size : Nat} {av : Value} {xs : List Value} (h : wr.ownsRow base e size av N xs) {g : Nat} (hg : g < base) : some g ≠ av.ownBlock := by
  intro k
  have := (h.lt g k.symm).1
  omega
theorem below_grown {w wr w' : World} {B : Nat} {row : Option Nat} (h : Below B w wr) (hg : wr.grownBy w' row) (hB : B ≤ wr.heap.size) (hr : ∀ g, row = some g → B ≤ g) : Below B w w' :=
  ⟨hg.os.trans h.os, hg.tape.trans h.tape, hg.output.trans h.output, Nat.le_trans h.size hg.size, fun k hk => (hg.block k (Nat.lt_of_lt_of_le hk hB) (fun e => by
    have := hr k e.symm
    omega)).trans (h.block k hk)⟩
theorem DoM.more {w wr w' : World} {L : List (Nat × List Value)} {gx gy B N g cap : Nat} {X Y : Nat → FrE} {av : Value} {V : Nat → Rat} {xs : List Value} (h : DoM w L gx gy B X Y av N V wr)
    (h1 : wr.ownsRow B 26 4 av N xs) (h4 : ∀ g, av.ownBlock = some g → NoLimb wr g) (k2 : wr.grownBy w' av.ownBlock) (hA : AllR B (.slice (some ⟨g, 0, none⟩) (N + 1) cap) (N + 1) V w') : DoM w L gx gy B X Y (.slice (some ⟨g, 0, none⟩) (N + 1) cap) (N + 1) V w' := by
  obtain ⟨c1, c2, c3, c4, c5⟩ := h.2.2.2.1.out
  refine ⟨⟨below_grown h.1.1 k2 (by have := h.1.1.size; omega) (fun g hg => by have := (h1.lt g hg).1; omega), fun b hb => ⟨(h.1.2.1 b hb).1, (h.1.2.1 b hb).2.grown k2 (own_ge2 h1 (c2 b hb))⟩, fun p hp => absurd hp (by simp)⟩,
    h.2.1.grown k2 (own_ge2 h1 c3) h4, h.2.2.1.grown k2 (own_ge2 h1 c4) h4, Lib.hid ⟨c1, c2, c3, c4, Nat.le_trans c5 k2.size⟩, hA⟩
theorem at_alloc {w : World} {f : FrE} (h : FrE.at_ w f) (o : Obj) : FrE.at_ (w.alloc o) f := ⟨h.1.alloc _, h.2.alloc _⟩
theorem DoM.row {w wr : World} {L : List (Nat × List Value)} {gx gy B N : Nat} {X Y : Nat → FrE} {av : Value} {V : Nat → Rat} (h : DoM w L gx gy B X Y av N V wr) (h0 : 0 < N) : ∃ g cap, av = .slice (some ⟨g, 0, none⟩) N cap ∧ N ≤ cap := by
  obtain ⟨_, _, _, _, G, xs, h1, _⟩ := h
  rcases h1.2 with ⟨_, k⟩ | ⟨g, cap, cur, rfl, _, _, hnc, _⟩
  · omega
  · exact ⟨g, cap, rfl, hnc⟩
theorem vs_new (w : World) (f : FrE) (t : TypeId) : ∀ k v, f.vs[k]? = some v → (w.alloc (.cells f.vs.toArray t)).cell? ⟨w.heap.size, k, none⟩ = some v := fun k v h => ((Blk.new w rfl f.vs t).2 k v h).1
/-! ### plain facts of the four -/
end Go.Proofs.Ytdmdaoginojalaa
