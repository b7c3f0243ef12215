/-
  The references' spans (polestarref05): the operations on two spans (Do).
-/
import Derived.Test.YtcjpocepgkfkaaaFrY
import Derived.Test.YtcjpocepgkfkaaaApp
import Derived.Test.YtcjpocepgkfkaaaFrDp
namespace Go.Proofs.Ytcjpocepgkfkaaa
open Go.RowKit

theorem info_frac : (Try.prog.info? 37).map (fun i => (i.zero, i.size, i.bytes)) = some (some (.agg #[.bool false, .slice none 0 0, .bool false, .slice none 0 0]), 4, 64) := by kernel_rfl
theorem under_fracs : Try.prog.underlying 39 = some (.slice 37) := by kernel_rfl
theorem frac_zeros (k : Nat) : ∀ u ∈ (Builtin.zeroCells (Value.agg #[.bool false, .slice none 0 0, .bool false, .slice none 0 0]).cells k).toList, ∀ x, u ≠ .int .u32 x := by
  intro u hu x e
  have hc : (Value.agg #[.bool false, .slice none 0 0, .bool false, .slice none 0 0]).cells = #[.bool false, .slice none 0 0, .bool false, .slice none 0 0] := rfl
  rw [hc] at hu
  unfold Builtin.zeroCells at hu
  simp only [Array.toList_map, Array.toList_range, List.mem_map, List.mem_range] at hu
  obtain ⟨i, _, hi⟩ := hu
  have h4 : i % 4 < 4 := Nat.mod_lt _ (by decide)
  have hsz : (#[Value.bool false, .slice none 0 0, .bool false, .slice none 0 0] : Array Value).size = 4 := rfl
  rw [hsz] at hi
  obtain ⟨r, hr⟩ : ∃ r, i % 4 = r := ⟨_, rfl⟩
  rw [hr] at hi h4
  match r, h4 with
  | 0, _ => rw [← hi] at e; cases e
  | 1, _ => rw [← hi] at e; cases e
  | 2, _ => rw [← hi] at e; cases e
  | 3, _ => rw [← hi] at e; cases e
/-- A row of fractions of the call's own. -/
def AllR (base : Nat) (av : Value) (N : Nat) (V : Nat → Rat) (wr : World) : Prop :=
  ∃ (G : Nat → FrE) (xs : List Value), wr.ownsRow base 37 4 av N xs ∧ (∀ j, j < N → ∀ q v, (G j).vs[q]? = some v → xs[j * 4 + q]? = some v) ∧ (∀ u ∈ xs, ∀ x, u ≠ .int .u32 x) ∧
    (∀ g, av.ownBlock = some g → NoLimb wr g) ∧ ∀ j, j < N → FrE.at_ wr (G j) ∧ (G j).2.2 = V j
theorem own_next {w w' : World} {base : Nat} {e : TypeId} {size n : Nat} {v : Value} {xs : List Value} (h : w.ownsRow base e size v n xs) (hb : Below w.heap.size w w') : w'.ownsRow base e size v n xs :=
  h.kept (only_of_below hb) (by cases hv : v.ownBlock <;> simp)
theorem AllR.next {base N : Nat} {av : Value} {V : Nat → Rat} {wr w' : World} (h : AllR base av N V wr) (hb : Below wr.heap.size wr w') : AllR base av N V w' := by
  obtain ⟨G, xs, h1, h2, h3, h4, h5⟩ := h
  exact ⟨G, xs, own_next h1 hb, h2, h3, fun g hg => (h4 g hg).below (h1.lt g hg).2 hb, fun j hj => ⟨⟨(h5 j hj).1.1.below hb, (h5 j hj).1.2.below hb⟩, (h5 j hj).2⟩⟩
theorem AllR.nil (base : Nat) (V : Nat → Rat) (wr : World) : AllR base (.slice none 0 0) 0 V wr :=
  ⟨fun _ => ((false, none, 0, 0), (false, none, 0, 0), 0), [], World.ownsRow_nil wr base _ 4, fun j hj => absurd hj (by omega), fun u hu => absurd hu (by simp), (fun g hg => absurd hg (by simp [Value.ownBlock])), fun j hj => absurd hj (by omega)⟩
theorem vs_no_limb (f : FrE) : ∀ u ∈ f.vs, ∀ x, u ≠ .int .u32 x := by
  intro u hu x e
  unfold FrE.vs at hu
  simp only [List.mem_cons, List.not_mem_nil, or_false] at hu
  rcases hu with rfl | rfl | rfl | rfl <;> cases e
def updE (G : Nat → FrE) (N : Nat) (f : FrE) (j : Nat) : FrE := if j = N then f else G j
theorem updE_same (G : Nat → FrE) (N : Nat) (f : FrE) : updE G N f N = f := if_pos rfl
theorem updE_other (G : Nat → FrE) {N j : Nat} (f : FrE) (h : j ≠ N) : updE G N f j = G j := if_neg h
theorem AllR.more {base N g cap : Nat} {av : Value} {V : Nat → Rat} {wr w' : World} {G : Nat → FrE} {xs : List Value} {f : FrE} (h1 : wr.ownsRow base 37 4 av N xs) (h2 : ∀ j, j < N → ∀ q v, (G j).vs[q]? = some v → xs[j * 4 + q]? = some v) (h3 : ∀ u ∈ xs, ∀ x, u ≠ .int .u32 x)
    (h4 : ∀ g, av.ownBlock = some g → NoLimb wr g) (h5 : ∀ j, j < N → FrE.at_ wr (G j) ∧ (G j).2.2 = V j) (hf : FrE.at_ wr f) (hv : f.2.2 = V N)
    (k1 : w'.ownsRow base 37 4 (.slice (some ⟨g, 0, none⟩) (N + 1) cap) (N + 1) (xs ++ f.vs)) (k2 : wr.grownBy w' av.ownBlock) (k3 : NoLimb w' g) : AllR base (.slice (some ⟨g, 0, none⟩) (N + 1) cap) (N + 1) V w' := by
  refine ⟨updE G N f, xs ++ f.vs, k1, fun j hj q v hq => ?_, fun u hu => ?_, fun g' hg' => ?_, fun j hj => ?_⟩
  · have hl : xs.length = N * 4 := h1.1
    by_cases e : j = N
    · subst e
      rw [updE_same] at hq
      rw [List.getElem?_append_right (by omega), hl, show j * 4 + q - j * 4 = q by omega]
      exact hq
    · rw [updE_other _ _ e] at hq
      have hx := h2 j (by omega) q v hq
      rw [List.getElem?_append_left (by
        have := (List.getElem?_eq_some_iff.1 hx).1
        exact this)]
      exact hx
  · rcases List.mem_append.1 hu with hu | hu
    · exact h3 u hu
    · exact vs_no_limb f u hu
  · injection hg' with hg'
    rw [← hg']
    exact k3
  · by_cases e : j = N
    · subst e
      rw [updE_same]
      exact ⟨⟨hf.1.grown k2 h4, hf.2.grown k2 h4⟩, hv⟩
    · rw [updE_other _ _ e]
      have := h5 j (by omega)
      exact ⟨⟨this.1.1.grown k2 h4, this.1.2.grown k2 h4⟩, this.2⟩
theorem AllR.frs {base N g cap : Nat} {V : Nat → Rat} {wr : World} (h : AllR base (.slice (some ⟨g, 0, none⟩) N cap) N V wr) : ∃ F : Nat → FrE, Frs wr g N F ∧ ∀ j, j < N → (F j).2.2 = V j := by
  obtain ⟨G, xs, h1, h2, h3, h4, h5⟩ := h
  refine ⟨G, ⟨(h1.lt g rfl).2, fun i hi => ⟨?_, (h5 i hi).1⟩⟩, fun j hj => (h5 j hj).2⟩
  have cell : ∀ q v, q < 4 → (G i).vs[q]? = some v → wr.cell? ⟨g, i * 4 + q, none⟩ = some v := fun q v hq hv => by
    rw [h1.cellAt (i * 4 + q) (by omega)]
    exact h2 i hi q v hv
  exact ⟨cell 0 _ (by omega) rfl, cell 1 _ (by omega) rfl, cell 2 _ (by omega) rfl, cell 3 _ (by omega) rfl⟩

def two2 (a b : FrE) (i : Nat) : FrE := if i = 0 then a else b
theorem two2_l {a b : FrE} {r : Rat} (h : a.2.2 = r) : (two2 a b 0).2.2 = r := h
theorem two2_r {a b : FrE} {r : Rat} (h : b.2.2 = r) : (two2 a b 1).2.2 = r := h
theorem frs_two (w : World) {g : Nat} (hg : w.heap.size = g) (a b : FrE) (ha : FrE.at_ w a) (hb : FrE.at_ w b) (t : TypeId) : Frs (w.alloc (.cells #[.bool a.1.1, .slice a.1.2.1 a.1.2.2.1 a.1.2.2.2, .bool a.2.1.1, .slice a.2.1.2.1 a.2.1.2.2.1 a.2.1.2.2.2, .bool b.1.1, .slice b.1.2.1 b.1.2.2.1 b.1.2.2.2, .bool b.2.1.1, .slice b.2.1.2.1 b.2.1.2.2.1 b.2.1.2.2.2] t)) g 2 (two2 a b) := by
  subst hg
  refine ⟨by simp, fun i hi => ?_⟩
  have hA : FrE.at_ (w.alloc (.cells #[.bool a.1.1, .slice a.1.2.1 a.1.2.2.1 a.1.2.2.2, .bool a.2.1.1, .slice a.2.1.2.1 a.2.1.2.2.1 a.2.1.2.2.2, .bool b.1.1, .slice b.1.2.1 b.1.2.2.1 b.1.2.2.2, .bool b.2.1.1, .slice b.2.1.2.1 b.2.1.2.2.1 b.2.1.2.2.2] t)) a := ⟨ha.1.alloc _, ha.2.alloc _⟩
  have hB : FrE.at_ (w.alloc (.cells #[.bool a.1.1, .slice a.1.2.1 a.1.2.2.1 a.1.2.2.2, .bool a.2.1.1, .slice a.2.1.2.1 a.2.1.2.2.1 a.2.1.2.2.2, .bool b.1.1, .slice b.1.2.1 b.1.2.2.1 b.1.2.2.2, .bool b.2.1.1, .slice b.2.1.2.1 b.2.1.2.2.1 b.2.1.2.2.2] t)) b := ⟨hb.1.alloc _, hb.2.alloc _⟩
  match i, hi with
  | 0, _ => exact ⟨⟨by simp [go_sem, two2], by simp [go_sem, two2], by simp [go_sem, two2], by simp [go_sem, two2]⟩, hA⟩
  | 1, _ => exact ⟨⟨by simp [go_sem, two2], by simp [go_sem, two2], by simp [go_sem, two2], by simp [go_sem, two2]⟩, hB⟩
  | (k + 2), hi => exact absurd hi (by omega)

/-! ### what an append leaves -/
theorem Frs.grown {w w' : World} {g N : Nat} {F : Nat → FrE} {row : Option Nat} (h : Frs w g N F) (hg : w.grownBy w' row) (hne : some g ≠ row) (hq : ∀ g, row = some g → NoLimb w g) : Frs w' g N F := by
  refine ⟨Nat.lt_of_lt_of_le h.1 hg.size, fun i hi => ?_⟩
  obtain ⟨⟨h0, h1, h2, h3⟩, h4⟩ := h.2 i hi
  exact ⟨⟨hg.cell h0 hne, hg.cell h1 hne, hg.cell h2 hne, hg.cell h3 hne⟩, h4.1.grown hg hq, h4.2.grown hg hq⟩
theorem Blk.grown {w w' : World} {g : Nat} {vs : List Value} {row : Option Nat} (h : Blk w g vs) (hg : w.grownBy w' row) (hne : some g ≠ row) : Blk w' g vs :=
  ⟨Nat.lt_of_lt_of_le h.1 hg.size, fun k v hk => ⟨hg.cell (h.2 k v hk).1 hne, (hg.frozen_far ⟨g, k, none⟩ h.1 hne).trans (h.2 k v hk).2⟩⟩
/-- The walk's memory in Do's loops. -/
def DoM (w : World) (L : List (Nat × List Value)) (gx gy B : Nat) (X Y : Nat → FrE) (av : Value) (N : Nat) (V : Nat → Rat) (wr : World) : Prop :=
  Mm w L [] wr ∧ Frs wr gx 2 X ∧ Frs wr gy 2 Y ∧ Hid (w.heap.size ≤ B ∧ (∀ b ∈ L, b.1 < B) ∧ gx < B ∧ gy < B ∧ B ≤ wr.heap.size) ∧ AllR B av N V wr
theorem DoM.next {w wr w' : World} {L : List (Nat × List Value)} {gx gy B N : Nat} {X Y : Nat → FrE} {av : Value} {V : Nat → Rat} (h : DoM w L gx gy B X Y av N V wr) (hb : Below wr.heap.size wr w') : DoM w L gx gy B X Y av N V w' :=
  ⟨h.1.next hb, h.2.1.next hb, h.2.2.1.next hb, Lib.hid ⟨h.2.2.2.1.out.1, h.2.2.2.1.out.2.1, h.2.2.2.1.out.2.2.1, h.2.2.2.1.out.2.2.2.1, Nat.le_trans h.2.2.2.1.out.2.2.2.2 hb.size⟩, h.2.2.2.2.next hb⟩
theorem DoM.drew {w wr : World} {L : List (Nat × List Value)} {gx gy B N : Nat} {X Y : Nat → FrE} {av : Value} {V : Nat → Rat} (h : DoM w L gx gy B X Y av N V wr) : DoM w L gx gy B X Y av N V wr.drew := h.next ⟨rfl, rfl, rfl, Nat.le_refl _, fun _ _ => rfl⟩
theorem DoM.drewN {w wr : World} {L : List (Nat × List Value)} {gx gy B N : Nat} {X Y : Nat → FrE} {av : Value} {V : Nat → Rat} (h : DoM w L gx gy B X Y av N V wr) (n : Nat) : DoM w L gx gy B X Y av N V (wr.drewN n) := h.next (below_drewN (Below.refl _ _) n)
theorem own_ge2 {wr : World} {base N : Nat} {e : TypeId} {size : Nat} {av : Value} {xs : List Value} (h : wr.ownsRow base e size av N xs) {g : Nat} (hg : g < base) : some g ≠ av.ownBlock := by
  intro k
  have := (h.lt g k.symm).1
  omega
theorem below_grown {w wr w' : World} {B : Nat} {row : Option Nat} (h : Below B w wr) (hg : wr.grownBy w' row) (hB : B ≤ wr.heap.size) (hr : ∀ g, row = some g → B ≤ g) : Below B w w' :=
  ⟨hg.os.trans h.os, hg.tape.trans h.tape, hg.output.trans h.output, Nat.le_trans h.size hg.size, fun k hk => (hg.block k (Nat.lt_of_lt_of_le hk hB) (fun e => by
    have := hr k e.symm
    omega)).trans (h.block k hk)⟩
theorem DoM.more {w wr w' : World} {L : List (Nat × List Value)} {gx gy B N g cap : Nat} {X Y : Nat → FrE} {av : Value} {V : Nat → Rat} {xs : List Value} (h : DoM w L gx gy B X Y av N V wr)
    (h1 : wr.ownsRow B 37 4 av N xs) (h4 : ∀ g, av.ownBlock = some g → NoLimb wr g) (k2 : wr.grownBy w' av.ownBlock) (hA : AllR B (.slice (some ⟨g, 0, none⟩) (N + 1) cap) (N + 1) V w') : DoM w L gx gy B X Y (.slice (some ⟨g, 0, none⟩) (N + 1) cap) (N + 1) V w' := by
  obtain ⟨c1, c2, c3, c4, c5⟩ := h.2.2.2.1.out
  refine ⟨⟨below_grown h.1.1 k2 (by have := h.1.1.size; omega) (fun g hg => by have := (h1.lt g hg).1; omega), fun b hb => ⟨(h.1.2.1 b hb).1, (h.1.2.1 b hb).2.grown k2 (own_ge2 h1 (c2 b hb))⟩, fun p hp => absurd hp (by simp)⟩,
    h.2.1.grown k2 (own_ge2 h1 c3) h4, h.2.2.1.grown k2 (own_ge2 h1 c4) h4, Lib.hid ⟨c1, c2, c3, c4, Nat.le_trans c5 k2.size⟩, hA⟩
theorem at_alloc {w : World} {f : FrE} (h : FrE.at_ w f) (o : Obj) : FrE.at_ (w.alloc o) f := ⟨h.1.alloc _, h.2.alloc _⟩
/-- One more fraction at the row's end. -/
theorem step_all {wr w : World} {ops : Array Oper} {o : Oper} {a : Act} {K : Act → World → Prop} {Q : Exit → Act → World → Prop} {E : Prop} (hgd : o.guard = none) (s x : Operand)
    (ho : o.op = .call { callee := .builtin .append, args := #[s, x], argTypes := #[39, 39] })
    {L : List (Nat × List Value)} {gx gy B N : Nat} {X Y : Nat → FrE} {av : Value} {V : Nat → Rat} (f : FrE) (ga c : Nat) (hD : DoM w L gx gy B X Y av N V wr) (hf : ∀ k v, f.vs[k]? = some v → wr.cell? ⟨ga, k, none⟩ = some v) (hat : FrE.at_ wr f) (hv : f.2.2 = V N) (hN : N ≤ 1000)
    (hs : a.eval s = av) (hx : a.eval x = .slice (some ⟨ga, 0, none⟩) 1 c)
    (h : ∀ g cap w', DoM w L gx gy B X Y (.slice (some ⟨g, 0, none⟩) (N + 1) cap) (N + 1) V w' → K (a.put o.dst (.slice (some ⟨g, 0, none⟩) (N + 1) cap)) w') :
    if Region.wanted o (yielded ops a.tmps) = true then Oper.wp Try.prog o a wr K Q else E := by
  obtain ⟨i, hi, hz, hsz, hby⟩ := info_parts info_frac
  have hD0 := hD
  obtain ⟨_, _, _, hB, G, xs, h1, h2, h3, h4, h5⟩ := hD
  refine step_append_limbs wr hgd s x 39 ho B 37 i _ 4 64 under_fracs hi hz hsz hby rfl (by decide) av N xs hs h1 ⟨ga, 0, none⟩ 1 c f.vs hx rfl (fun j u hj => ?_) (fun u hu => ?_) (by decide) (by simp [maxLen]; omega) (by omega) hB.out.2.2.2.2 h4 (vs_no_limb f) h3 frac_zeros ?_
  · have e : (⟨ga, 0, none⟩ : Addr).add j = ⟨ga, j, none⟩ := by
      cases j with
      | zero => simp [Addr.add]
      | succ n => simp [Addr.add]
    rw [e]
    exact hf j u hj
  · unfold FrE.vs at hu
    simp only [List.mem_cons, List.not_mem_nil, or_false] at hu
    rcases hu with rfl | rfl | rfl | rfl <;> rfl
  · intro g cap w' k1 k2 k3 k4 k5
    exact h g cap w' (DoM.more hD0 h1 h4 k2 (AllR.more h1 h2 h3 h4 h5 hat hv k1 k2 k5))
theorem DoM.row {w wr : World} {L : List (Nat × List Value)} {gx gy B N : Nat} {X Y : Nat → FrE} {av : Value} {V : Nat → Rat} (h : DoM w L gx gy B X Y av N V wr) (h0 : 0 < N) : ∃ g cap, av = .slice (some ⟨g, 0, none⟩) N cap ∧ N ≤ cap := by
  obtain ⟨_, _, _, _, G, xs, h1, _⟩ := h
  rcases h1.2 with ⟨_, k⟩ | ⟨g, cap, cur, rfl, _, _, hnc, _⟩
  · omega
  · exact ⟨g, cap, rfl, hnc⟩
theorem vs_new (w : World) (f : FrE) (t : TypeId) : ∀ k v, f.vs[k]? = some v → (w.alloc (.cells f.vs.toArray t)).cell? ⟨w.heap.size, k, none⟩ = some v := fun k v h => ((Blk.new w rfl f.vs t).2 k v h).1
/-! ### plain facts of the four -/
theorem fin_if {la ha : Nat} (h : okS la ha = true) (P : Prop) [Decidable P] : Flt.Fin (if P then la else ha) := by
  obtain ⟨a, b, _⟩ := okS_iff.1 h
  split
  · exact a
  · exact b
theorem rg_if {lb hb : Nat} (h : okS lb hb = true) (hz : zB lb hb = false) (P : Prop) [Decidable P] : Flt.rg (if P then lb else hb) ≠ 0 := by
  obtain ⟨a, b, c⟩ := okS_iff.1 h
  obtain ⟨n1, n2⟩ := side_rg (side_of a b c hz)
  split
  · exact n1
  · exact n2
theorem cor_sz (k : Nat) {la ha lb hb : Nat} (h1 : okS la ha = true) (h2 : okS lb hb = true) (hz : 3 ≤ k → zB lb hb = false) (j : Nat) : Sz (corR k la ha lb hb j) 135 :=
  opR_sz (fin_if h1 _) (fin_if h2 _) (fun h => rg_if h2 (hz h) _)
theorem two_cases {P : Nat → Prop} (h0 : P 0) (h1 : P 1) : ∀ j, j < 2 → P j := by
  intro j hj
  match j, hj with
  | 0, _ => exact h0
  | 1, _ => exact h1
theorem fr_szs {la ha lb hb : Nat} (h1 : okS la ha = true) (h2 : okS lb hb = true) (X Y : Nat → FrE) (x0 : (X 0).2.2 = fr la) (x1 : (X 1).2.2 = fr ha) (y0 : (Y 0).2.2 = fr lb) (y1 : (Y 1).2.2 = fr hb) (i k : Nat) (hi : i < 2) (hk : k < 2) : Sz (X i).2.2 67 ∧ Sz (Y k).2.2 67 := by
  obtain ⟨a, b, _⟩ := okS_iff.1 h1
  obtain ⟨c, d, _⟩ := okS_iff.1 h2
  refine ⟨two_cases (P := fun i => Sz (X i).2.2 67) ?_ ?_ i hi, two_cases (P := fun i => Sz (Y i).2.2 67) ?_ ?_ k hk⟩
  · show Sz (X 0).2.2 67
    rw [x0]; exact fr_sz a
  · show Sz (X 1).2.2 67
    rw [x1]; exact fr_sz b
  · show Sz (Y 0).2.2 67
    rw [y0]; exact fr_sz c
  · show Sz (Y 1).2.2 67
    rw [y1]; exact fr_sz d
theorem fr_nes {lb hb : Nat} (h2 : okS lb hb = true) (hz : zB lb hb = false) (Y : Nat → FrE) (y0 : (Y 0).2.2 = fr lb) (y1 : (Y 1).2.2 = fr hb) (k : Nat) (hk : k < 2) : (Y k).2.2 ≠ 0 := by
  obtain ⟨a, b, c⟩ := okS_iff.1 h2
  obtain ⟨n1, n2⟩ := side_rg (side_of a b c hz)
  refine two_cases (P := fun k => (Y k).2.2 ≠ 0) ?_ ?_ k hk
  · show (Y 0).2.2 ≠ 0
    rw [y0]; exact fr_ne n1
  · show (Y 1).2.2 ≠ 0
    rw [y1]; exact fr_ne n2
theorem cor_at (K : Nat) {la ha lb hb : Nat} (X Y : Nat → FrE) (x0 : (X 0).2.2 = fr la) (x1 : (X 1).2.2 = fr ha) (y0 : (Y 0).2.2 = fr lb) (y1 : (Y 1).2.2 = fr hb) (i k : Nat) (hi : i < 2) (hk : k < 2) : opR K (X i).2.2 (Y k).2.2 = corR K la ha lb hb (2 * i + k) := by
  revert k
  revert i
  refine two_cases ?_ ?_ <;> refine two_cases ?_ ?_
  · rw [x0, y0]; rfl
  · rw [x0, y1]; rfl
  · rw [x1, y0]; rfl
  · rw [x1, y1]; rfl
theorem dom_nil {w wr : World} {L : List (Nat × List Value)} {gx gy : Nat} {X Y : Nat → FrE} (h : Mm w L [] wr) (hX : Frs wr gx 2 X) (hY : Frs wr gy 2 Y) (V : Nat → Rat) : DoM w L gx gy wr.heap.size X Y (.slice none 0 0) 0 V wr :=
  ⟨h, hX, hY, Lib.hid ⟨h.1.size, fun b hb => (h.2.1 b hb).2.1, hX.1, hY.1, Nat.le_refl _⟩, AllR.nil _ _ _⟩
/-- What Do tells where it refuses nothing. -/
def DoE (k la ha lb hb : Nat) (r : Nat × Nat × Int) : Prop :=
  ∃ a b lo hi, a < 4 ∧ b < 4 ∧ (∀ j, j < 4 → corR k la ha lb hb a ≤ corR k la ha lb hb j ∧ corR k la ha lb hb j ≤ corR k la ha lb hb b) ∧ DownR (corR k la ha lb hb a) lo ∧ UpR (corR k la ha lb hb b) hi ∧ r = endsF lo hi
set_option maxRecDepth 100000 in
set_option maxHeartbeats 12800000 in
theorem ref5_do_0 (la ha lb hb : Nat) (b1 : la < 2 ^ 64) (b2 : ha < 2 ^ 64) (b3 : lb < 2 ^ 64) (b4 : hb < 2 ^ 64) (ha' : okS la ha = true) (hb' : okS lb hb = true) (w : World) :
    Calls Try.prog 5 #[.int .i64 0, .agg #[.float .f64 la, .float .f64 ha], .agg #[.float .f64 lb, .float .f64 hb]] w (RetSp w (DoE 0 la ha lb hb)) := by
  have K0 := ((((Mm.nil w).var (g := w.heap.size) rfl [.float .f64 la, .float .f64 ha] 24).var (g := w.heap.size + 1) (by simp) [.float .f64 lb, .float .f64 hb] 24).var (g := w.heap.size + 1 + 1) (by simp) [.float .f64 0, .float .f64 0] 24)
  have HA : Hid (okI la ha = 0) := Lib.hid (by unfold okI; rw [ha']; rfl)
  have HB : Hid (okI lb hb = 0) := Lib.hid (by unfold okI; rw [hb']; rfl)
  have HF : Hid (∀ X Y : Nat → FrE, (X 0).2.2 = fr la → (X 1).2.2 = fr ha → (Y 0).2.2 = fr lb → (Y 1).2.2 = fr hb → ∀ i k, i < 2 → k < 2 → Sz (X i).2.2 67 ∧ Sz (Y k).2.2 67 ∧ True ∧ opR 0 (X i).2.2 (Y k).2.2 = corR 0 la ha lb hb (2 * i + k)) := Lib.hid (fun X Y x0 x1 y0 y1 i j hi hj => ⟨(fr_szs ha' hb' X Y x0 x1 y0 y1 i j hi hj).1, (fr_szs ha' hb' X Y x0 x1 y0 y1 i j hi hj).2, True.intro, cor_at 0 X Y x0 x1 y0 y1 i j hi hj⟩)
  have HS : Hid (∀ j, Sz (corR 0 la ha lb hb j) 135) := Lib.hid (cor_sz 0 ha' hb' (by omega))

  obtain ⟨xla, hxla⟩ : ∃ x, fr la = x := ⟨_, rfl⟩
  rw [hxla] at HF
  have HXla := Lib.hid hxla
  clear hxla
  obtain ⟨xha, hxha⟩ : ∃ x, fr ha = x := ⟨_, rfl⟩
  rw [hxha] at HF
  have HXha := Lib.hid hxha
  clear hxha
  obtain ⟨xlb, hxlb⟩ : ∃ x, fr lb = x := ⟨_, rfl⟩
  rw [hxlb] at HF
  have HXlb := Lib.hid hxlb
  clear hxlb
  obtain ⟨xhb, hxhb⟩ : ∃ x, fr hb = x := ⟨_, rfl⟩
  rw [hxhb] at HF
  have HXhb := Lib.hid hxhb
  clear hxhb
  clear ha' hb'
  go_enter Try.func5, Try.ntmps5
  go_wp2_with fail
  generalize ((w.alloc (.cells #[.float .f64 la, .float .f64 ha] 24)).alloc (.cells #[.float .f64 lb, .float .f64 hb] 24)).alloc (.cells #[.float .f64 0, .float .f64 0] 24) = w0 at K0 ⊢
  obtain ⟨qa0x, qb0x, qc0x, qd0x, qe0x⟩ := (K0.blk (g := w.heap.size) (vs := [.float .f64 la, .float .f64 ha]) (by simp)).two
  obtain ⟨qa0y, qb0y, qc0y, qd0y, qe0y⟩ := (K0.blk (g := w.heap.size + 1) (vs := [.float .f64 lb, .float .f64 hb]) (by simp)).two
  obtain ⟨qa0r, qb0r, qc0r, qd0r, qe0r⟩ := (K0.blk (g := w.heap.size + 1 + 1) (vs := [.float .f64 0, .float .f64 0]) (by simp)).two
  go_wp2_with fail
  refine (ref_check_any la ha _).mono ?_
  rintro e1 w1 ⟨rfl, hb1⟩
  rw [HA.out]
  have K1 := K0.next hb1
  clear hb1 K0
  obtain ⟨qa1x, qb1x, qc1x, qd1x, qe1x⟩ := (K1.blk (g := w.heap.size) (vs := [.float .f64 la, .float .f64 ha]) (by simp)).two
  obtain ⟨qa1y, qb1y, qc1y, qd1y, qe1y⟩ := (K1.blk (g := w.heap.size + 1) (vs := [.float .f64 lb, .float .f64 hb]) (by simp)).two
  obtain ⟨qa1r, qb1r, qc1r, qd1r, qe1r⟩ := (K1.blk (g := w.heap.size + 1 + 1) (vs := [.float .f64 0, .float .f64 0]) (by simp)).two
  go_wp2_with fail
  refine (ref_check_any lb hb _).mono ?_
  rintro e2 w2 ⟨rfl, hb2⟩
  rw [HB.out]
  have K2 := K1.next hb2
  clear hb2 K1
  obtain ⟨qa2x, qb2x, qc2x, qd2x, qe2x⟩ := (K2.blk (g := w.heap.size) (vs := [.float .f64 la, .float .f64 ha]) (by simp)).two
  obtain ⟨qa2y, qb2y, qc2y, qd2y, qe2y⟩ := (K2.blk (g := w.heap.size + 1) (vs := [.float .f64 lb, .float .f64 hb]) (by simp)).two
  obtain ⟨qa2r, qb2r, qc2r, qd2r, qe2r⟩ := (K2.blk (g := w.heap.size + 1 + 1) (vs := [.float .f64 0, .float .f64 0]) (by simp)).two
  go_upto_region 5 with (fail)
  go_cut [8] from 35 to 41 (fun s8 wx => ∃ (gx : Nat) (X : Nat → FrE), s8 = .slice (some ⟨gx, 0, none⟩) 2 2 ∧ Hid ((X 0).2.2 = xla ∧ (X 1).2.2 = xha) ∧ Frs wx gx 2 X ∧ Mm w [(w.heap.size, [.float .f64 la, .float .f64 ha]), (w.heap.size + 1, [.float .f64 lb, .float .f64 hb]), (w.heap.size + 1 + 1, [.float .f64 0, .float .f64 0])] [] wx)
  case first =>
    go_region_held3 (fun w' => w'.cell? ⟨w.heap.size, 0, none⟩ = some (.float .f64 la) ∧ w'.cell? ⟨w.heap.size, 1, none⟩ = some (.float .f64 ha))
      (go_keep)
      (first
        | (go_at_call 14; (with_reducible refine (ref2_float_any la b1 _).mono ?_); rintro e3 w3 ⟨neg3, A3, n3, c3, ne3, B3, m3, d3, rfl, I3, J3, hb3⟩; rw [HXla.out] at I3 J3; (first | (with_reducible have K3 := ((K2.next hb3).int J3).int I3) | (with_reducible have K3 := ((K2.drew.next hb3).int J3).int I3) | (with_reducible have K3 := (((K2.drewN _).next hb3).int J3).int I3)); have Q3x := (K3.blk (g := w.heap.size) (vs := [.float .f64 la, .float .f64 ha]) (by simp)).two; obtain ⟨qa3x, qb3x, qc3x, qd3x, qe3x⟩ := Q3x; have Q3y := (K3.blk (g := w.heap.size + 1) (vs := [.float .f64 lb, .float .f64 hb]) (by simp)).two; obtain ⟨qa3y, qb3y, qc3y, qd3y, qe3y⟩ := Q3y; clear I3 J3 hb3)
        | (go_at_call 14; (with_reducible refine (ref2_float_any ha b2 _).mono ?_); rintro e4 w4 ⟨neg4, A4, n4, c4, ne4, B4, m4, d4, rfl, I4, J4, hb4⟩; rw [HXha.out] at I4 J4; (first | (with_reducible have K4 := ((K3.next hb4).int J4).int I4) | (with_reducible have K4 := ((K3.drew.next hb4).int J4).int I4) | (with_reducible have K4 := (((K3.drewN _).next hb4).int J4).int I4)); have Q4x := (K4.blk (g := w.heap.size) (vs := [.float .f64 la, .float .f64 ha]) (by simp)).two; obtain ⟨qa4x, qb4x, qc4x, qd4x, qe4x⟩ := Q4x; have Q4y := (K4.blk (g := w.heap.size + 1) (vs := [.float .f64 lb, .float .f64 hb]) (by simp)).two; obtain ⟨qa4y, qb4y, qc4y, qd4y, qe4y⟩ := Q4y; clear I4 J4 hb4))
    all_goals (go_wp2_with fail)
    all_goals go_meet
    all_goals first
      | exact ⟨w4.heap.size, two2 ((neg3, A3, n3, c3), (ne3, B3, m3, d3), xla) ((neg4, A4, n4, c4), (ne4, B4, m4, d4), xha), rfl, Lib.hid ⟨two2_l rfl, two2_r rfl⟩, frs_two w4 rfl ((neg3, A3, n3, c3), (ne3, B3, m3, d3), xla) ((neg4, A4, n4, c4), (ne4, B4, m4, d4), xha) ⟨K4.at_ (by simp), K4.at_ (by simp)⟩ ⟨K4.at_ (by simp), K4.at_ (by simp)⟩ _, (K4.box _).pick (by simp) (by simp)⟩
      | exact ⟨w4.heap.size, two2 ((neg3, A3, n3, c3), (ne3, B3, m3, d3), xla) ((neg4, A4, n4, c4), (ne4, B4, m4, d4), xha), rfl, Lib.hid ⟨two2_l rfl, two2_r rfl⟩, (frs_two w4 rfl ((neg3, A3, n3, c3), (ne3, B3, m3, d3), xla) ((neg4, A4, n4, c4), (ne4, B4, m4, d4), xha) ⟨K4.at_ (by simp), K4.at_ (by simp)⟩ ⟨K4.at_ (by simp), K4.at_ (by simp)⟩ _).next ⟨rfl, rfl, rfl, Nat.le_refl _, fun _ _ => rfl⟩, ((K4.box _).drew).pick (by simp) (by simp)⟩
  case rest =>
    obtain ⟨gx, X, rfl, HX, FX, K3⟩ := hcut
    clear K2 qa0x qb0x qc0x qd0x qe0x qa0y qb0y qc0y qd0y qe0y qa0r qb0r qc0r qd0r qe0r qa1x qb1x qc1x qd1x qe1x qa1y qb1y qc1y qd1y qe1y qa1r qb1r qc1r qd1r qe1r qa2x qb2x qc2x qd2x qe2x qa2y qb2y qc2y qd2y qe2y qa2r qb2r qc2r qd2r qe2r
    obtain ⟨qa2y, qb2y, qc2y, qd2y, qe2y⟩ := (K3.blk (g := w.heap.size + 1) (vs := [.float .f64 lb, .float .f64 hb]) (by simp)).two
    go_upto_region 6 with (fail)
    go_cut [9] from 42 to 48 (fun s9 wx => ∃ (gy : Nat) (Y : Nat → FrE), s9 = .slice (some ⟨gy, 0, none⟩) 2 2 ∧ Hid ((Y 0).2.2 = xlb ∧ (Y 1).2.2 = xhb) ∧ Frs wx gx 2 X ∧ Frs wx gy 2 Y ∧ Mm w [(w.heap.size, [.float .f64 la, .float .f64 ha]), (w.heap.size + 1, [.float .f64 lb, .float .f64 hb]), (w.heap.size + 1 + 1, [.float .f64 0, .float .f64 0])] [] wx)
    case first =>
      go_region_held3 (fun w' => w'.cell? ⟨w.heap.size + 1, 0, none⟩ = some (.float .f64 lb) ∧ w'.cell? ⟨w.heap.size + 1, 1, none⟩ = some (.float .f64 hb))
        (go_keep)
        (first
          | (go_at_call 14; (with_reducible refine (ref2_float_any lb b3 _).mono ?_); rintro e4 w4 ⟨neg4, A4, n4, c4, ne4, B4, m4, d4, rfl, I4, J4, hb4⟩; rw [HXlb.out] at I4 J4; (first | (with_reducible have K4 := ((K3.next hb4).int J4).int I4) | (with_reducible have K4 := ((K3.drew.next hb4).int J4).int I4) | (with_reducible have K4 := (((K3.drewN _).next hb4).int J4).int I4)); have Q4x := (K4.blk (g := w.heap.size) (vs := [.float .f64 la, .float .f64 ha]) (by simp)).two; obtain ⟨qa4x, qb4x, qc4x, qd4x, qe4x⟩ := Q4x; have Q4y := (K4.blk (g := w.heap.size + 1) (vs := [.float .f64 lb, .float .f64 hb]) (by simp)).two; obtain ⟨qa4y, qb4y, qc4y, qd4y, qe4y⟩ := Q4y; have FX4 := FX.next (by first | exact hb4 | exact below_of_drew hb4 | exact below_of_drewN hb4); clear I4 J4 hb4)
          | (go_at_call 14; (with_reducible refine (ref2_float_any hb b4 _).mono ?_); rintro e5 w5 ⟨neg5, A5, n5, c5, ne5, B5, m5, d5, rfl, I5, J5, hb5⟩; rw [HXhb.out] at I5 J5; (first | (with_reducible have K5 := ((K4.next hb5).int J5).int I5) | (with_reducible have K5 := ((K4.drew.next hb5).int J5).int I5) | (with_reducible have K5 := (((K4.drewN _).next hb5).int J5).int I5)); have Q5x := (K5.blk (g := w.heap.size) (vs := [.float .f64 la, .float .f64 ha]) (by simp)).two; obtain ⟨qa5x, qb5x, qc5x, qd5x, qe5x⟩ := Q5x; have Q5y := (K5.blk (g := w.heap.size + 1) (vs := [.float .f64 lb, .float .f64 hb]) (by simp)).two; obtain ⟨qa5y, qb5y, qc5y, qd5y, qe5y⟩ := Q5y; have FX5 := FX4.next (by first | exact hb5 | exact below_of_drew hb5 | exact below_of_drewN hb5); clear I5 J5 hb5))
      all_goals (go_wp2_with fail)
      all_goals go_meet
      all_goals first
        | exact ⟨w5.heap.size, two2 ((neg4, A4, n4, c4), (ne4, B4, m4, d4), xlb) ((neg5, A5, n5, c5), (ne5, B5, m5, d5), xhb), rfl, Lib.hid ⟨two2_l rfl, two2_r rfl⟩, FX5.next ((Below.refl _ _).alloc (Nat.le_refl _) _), frs_two w5 rfl ((neg4, A4, n4, c4), (ne4, B4, m4, d4), xlb) ((neg5, A5, n5, c5), (ne5, B5, m5, d5), xhb) ⟨K5.at_ (by simp), K5.at_ (by simp)⟩ ⟨K5.at_ (by simp), K5.at_ (by simp)⟩ _, (K5.box _).pick (by simp) (by simp)⟩
        | exact ⟨w5.heap.size, two2 ((neg4, A4, n4, c4), (ne4, B4, m4, d4), xlb) ((neg5, A5, n5, c5), (ne5, B5, m5, d5), xhb), rfl, Lib.hid ⟨two2_l rfl, two2_r rfl⟩, (FX5.next ((Below.refl _ _).alloc (Nat.le_refl _) _)).next ⟨rfl, rfl, rfl, Nat.le_refl _, fun _ _ => rfl⟩, (frs_two w5 rfl ((neg4, A4, n4, c4), (ne4, B4, m4, d4), xlb) ((neg5, A5, n5, c5), (ne5, B5, m5, d5), xhb) ⟨K5.at_ (by simp), K5.at_ (by simp)⟩ ⟨K5.at_ (by simp), K5.at_ (by simp)⟩ _).next ⟨rfl, rfl, rfl, Nat.le_refl _, fun _ _ => rfl⟩, ((K5.box _).drew).pick (by simp) (by simp)⟩
    case rest =>
      obtain ⟨gy, Y, rfl, HY, FX2, FY, K4⟩ := hcut
      clear FX K3 qa2y qb2y qc2y qd2y qe2y
      have HH : Hid (∀ i k, i < 2 → k < 2 → Sz (X i).2.2 67 ∧ Sz (Y k).2.2 67 ∧ True ∧ opR 0 (X i).2.2 (Y k).2.2 = corR 0 la ha lb hb (2 * i + k)) := Lib.hid (HF.out X Y HX.out.1 HX.out.2 HY.out.1 HY.out.2)
      have D0 := dom_nil K4 FX2 FY (corR 0 la ha lb hb)
      obtain ⟨B, hB⟩ : ∃ B, wc.heap.size = B := ⟨_, rfl⟩
      rw [hB] at D0
      clear hB
      clear HX HY HF FX2 FY K4
      go_wp2_with fail
      go_loopw [10, 11] (fun av iv wr => ∃ i : Nat, iv = .int .i64 (i : Int) ∧ i ≤ 2 ∧ DoM w [(w.heap.size, [.float .f64 la, .float .f64 ha]), (w.heap.size + 1, [.float .f64 lb, .float .f64 hb]), (w.heap.size + 1 + 1, [.float .f64 0, .float .f64 0])] gx gy B X Y av (2 * i) (corR 0 la ha lb hb) wr) (fun _ i _ => 2 - (intOf i).toNat)
      case atStart => exact ⟨0, rfl, by decide, D0⟩
      case round =>
        obtain ⟨i, rfl, hi2, DM⟩ := hrel
        clear D0
        by_cases hlt : i < 2
        · have hlt' : (i : Int) < 2 := by omega
          go_wp2_with fail
          go_loopw [10, 12] (fun av kv wr => ∃ k : Nat, kv = .int .i64 (k : Int) ∧ k ≤ 2 ∧ DoM w [(w.heap.size, [.float .f64 la, .float .f64 ha]), (w.heap.size + 1, [.float .f64 lb, .float .f64 hb]), (w.heap.size + 1 + 1, [.float .f64 0, .float .f64 0])] gx gy B X Y av (2 * i + k) (corR 0 la ha lb hb) wr) (fun _ k _ => 2 - (intOf k).toNat)
          case atStart => exact ⟨0, rfl, by decide, DM⟩
          case round =>
            obtain ⟨k, rfl, hk2, DI⟩ := hrel
            clear DM
            by_cases hlk : k < 2
            · have hlk' : (k : Int) < 2 := by omega
              obtain ⟨⟨c0, c1, c2, c3⟩, ci⟩ := DI.2.1.2 i hlt
              obtain ⟨⟨d0, d1, d2, d3⟩, di⟩ := DI.2.2.1.2 k hlk
              obtain ⟨s1, s2, s3, s4⟩ := HH.out i k hlt hlk
              obtain ⟨fi, hfi⟩ : ∃ f, X i = f := ⟨_, rfl⟩
              obtain ⟨fk, hfk⟩ : ∃ f, Y k = f := ⟨_, rfl⟩
              obtain ⟨r, hr⟩ : ∃ r, corR 0 la ha lb hb (2 * i + k) = r := ⟨_, rfl⟩
              rw [hfi] at c0 c1 c2 c3 ci s1 s4
              rw [hfk] at d0 d1 d2 d3 di s2 s4
              rw [hr] at s4
              obtain ⟨⟨i1, I1, t1, v1⟩, ⟨i2, I2, t2, v2⟩, xi⟩ := fi
              obtain ⟨⟨j1, J1, p1, q1⟩, ⟨j2, J2, p2, q2⟩, yk⟩ := fk
              have S1 := Lib.hid s1
              have S2 := Lib.hid s2
              have S3 := Lib.hid s3
              have S4 : Hid (xi + yk = r) := Lib.hid s4
              have HR := Lib.hid hr
              have HFI := Lib.hid hfi
              have HFK := Lib.hid hfk
              have KI := (((DI.1.int ci.1).int ci.2).int di.1).int di.2
              have gxl := DI.2.1.1
              have gyl := DI.2.2.1.1
              have hi0 : (0 : Int) ≤ (i : Int) := Int.natCast_nonneg _
              have hk0 : (0 : Int) ≤ (k : Int) := Int.natCast_nonneg _
              have h67 : 67 + 67 < 1000000 := by decide
              have hNN : 2 * i + k ≤ 1000 := by omega
              clear s1 s2 s3 s4 hr hfi hfk ci di
              go_wp2_with fail
              go_region_held3 (fun w' => w'.cell? ⟨gx, i * 4, none⟩ = some (.bool i1) ∧ w'.cell? ⟨gx, i * 4 + 1, none⟩ = some (.slice I1 t1 v1) ∧ w'.cell? ⟨gx, i * 4 + 2, none⟩ = some (.bool i2) ∧ w'.cell? ⟨gx, i * 4 + 3, none⟩ = some (.slice I2 t2 v2) ∧ w'.cell? ⟨gy, k * 4, none⟩ = some (.bool j1) ∧ w'.cell? ⟨gy, k * 4 + 1, none⟩ = some (.slice J1 p1 q1) ∧ w'.cell? ⟨gy, k * 4 + 2, none⟩ = some (.bool j2) ∧ w'.cell? ⟨gy, k * 4 + 3, none⟩ = some (.slice J2 p2 q2))
                (go_keep)
                (first
                  | (go_at_call 15; (with_reducible refine (ref2_plus_any i1 i2 I1 I2 t1 v1 t2 v2 j1 j2 J1 J2 p1 q1 p2 q2 xi yk r 67 67 _ ?_ ?_ ?_ ?_ S1.out S2.out h67 S4).mono ?_); (first | (with_reducible exact KI.at_ (by simp)) | (with_reducible exact KI.drew.at_ (by simp)) | (with_reducible exact (KI.drewN _).at_ (by simp))); (first | (with_reducible exact KI.at_ (by simp)) | (with_reducible exact KI.drew.at_ (by simp)) | (with_reducible exact (KI.drewN _).at_ (by simp))); (first | (with_reducible exact KI.at_ (by simp)) | (with_reducible exact KI.drew.at_ (by simp)) | (with_reducible exact (KI.drewN _).at_ (by simp))); (first | (with_reducible exact KI.at_ (by simp)) | (with_reducible exact KI.drew.at_ (by simp)) | (with_reducible exact (KI.drewN _).at_ (by simp))); rintro e5 w5 ⟨neg5, A5, n5, c5, ne5, B5, m5, d5, rfl, I5, J5, hb5⟩; (first | (with_reducible have D5 := DI.next hb5) | (with_reducible have D5 := DI.drew.next hb5) | (with_reducible have D5 := (DI.drewN _).next hb5)); have O5x := (D5.2.1.2 i hlt).1; rw [HFI.out] at O5x; obtain ⟨xa5, xb5, xc5, xd5⟩ := O5x; have O5y := (D5.2.2.1.2 k hlk).1; rw [HFK.out] at O5y; obtain ⟨ya5, yb5, yc5, yd5⟩ := O5y; have xl5 := D5.2.1.1; have yl5 := D5.2.2.1.1; have E5 : FrE.at_ w5 ((neg5, A5, n5, c5), (ne5, B5, m5, d5), r) := ⟨I5, J5⟩)
                  | (refine step_all (by rfl) _ _ (by rfl) ((neg5, A5, n5, c5), (ne5, B5, m5, d5), r) w5.heap.size 1 (D5.next ((Below.refl _ _).alloc (Nat.le_refl _) _)) (vs_new w5 _ _) (at_alloc E5 _) HR.out.symm hNN (by rfl) (by rfl) ?_; intro g6 cap6 w6 D6; have O6x := (D6.2.1.2 i hlt).1; rw [HFI.out] at O6x; obtain ⟨xa6, xb6, xc6, xd6⟩ := O6x; have O6y := (D6.2.2.1.2 k hlk).1; rw [HFK.out] at O6y; obtain ⟨ya6, yb6, yc6, yd6⟩ := O6y; have xl6 := D6.2.1.1; have yl6 := D6.2.2.1.1))
              all_goals go_wp2_with fail
              go_roundw
              case rel => exact ⟨k + 1, by go_num, by omega, D6⟩
              case measure => simp [intOf]; omega
            · obtain rfl : k = 2 := by omega
              go_wp2_with fail
              go_roundw
              case rel => exact ⟨i + 1, by go_num, by omega, DI⟩
              case measure => simp [intOf]; omega
        · obtain rfl : i = 2 := by omega
          have DM4 : DoM w [(w.heap.size, [.float .f64 la, .float .f64 ha]), (w.heap.size + 1, [.float .f64 lb, .float .f64 hb]), (w.heap.size + 1 + 1, [.float .f64 0, .float .f64 0])] gx gy B X Y u10 4 (corR 0 la ha lb hb) wr := DM
          obtain ⟨g, cap, rfl, hcap⟩ := DM4.row (by decide)
          obtain ⟨F, FR, HV⟩ := DM4.2.2.2.2.frs
          have HSz : Hid (∀ i, i < 4 → Sz (F i).2.2 135) := Lib.hid (fun i hi => by rw [HV i hi]; exact HS.out i)
          have HVV := Lib.hid HV
          have KF := DM4.1
          clear DM DM4 HV HS
          go_wp2_with fail
          refine (ref5_few_any g 4 cap 135 F _ FR (by decide) (by decide) hcap HSz (by decide)).mono ?_
          rintro e7 w7 ⟨a, b, hia, hib, rfl, hall, Ia, Ib, hb7⟩
          have K7 := KF.next hb7
          have HE : Hid (∀ lo hi, DownR (F a).2.2 lo → UpR (F b).2.2 hi → DoE 0 la ha lb hb (endsF lo hi)) := Lib.hid (fun lo hi hD hU => ⟨a, b, lo, hi, hia, hib, fun j hj => by
            rw [← HVV.out a hia, ← HVV.out b hib, ← HVV.out j hj]; exact hall j hj, by rw [← HVV.out a hia]; exact hD, by rw [← HVV.out b hib]; exact hU, rfl⟩)
          have SA := Lib.hid (HSz.out a hia)
          have SB := Lib.hid (HSz.out b hib)
          clear hb7 hall hia hib HVV HSz KF FR
          go_wp2_with fail
          refine (ref5_least_any (F a).1.1 (F a).2.1.1 (F a).1.2.1 (F a).2.1.2.1 (F a).1.2.2.1 (F a).1.2.2.2 (F a).2.1.2.2.1 (F a).2.1.2.2.2 (F b).1.1 (F b).2.1.1 (F b).1.2.1 (F b).2.1.2.1 (F b).1.2.2.1 (F b).1.2.2.2 (F b).2.1.2.2.1 (F b).2.1.2.2.2 (F a).2.2 (F b).2.2 135 _ Ia.1 Ia.2 Ib.1 Ib.2 SA.out SB.out (by decide)).mono ?_
          rintro e8 w8 ⟨p, ⟨lo, hi, hD, hU, rfl⟩, rfl, hb8⟩
          have K8 := K7.next hb8
          have HQ := Lib.hid (HE.out lo hi hD hU)
          generalize endsF lo hi = p at HQ ⊢
          obtain ⟨p0, p1, p2⟩ := p
          clear hD hU hb8 K7 Ia Ib HE
          obtain ⟨qa8r, qb8r, qc8r, qd8r, qe8r⟩ := (K8.blk (g := w.heap.size + 1 + 1) (vs := [.float .f64 0, .float .f64 0]) (by simp)).two
          go_wp2_with fail
          have hbw := below_result (g := w.heap.size + 1 + 1) K8.1 (by omega) (.float .f64 p0) (.float .f64 p1)
          exact bodyPost_ret (v := .tuple #[.agg #[.float .f64 p0, .float .f64 p1], .int .i64 p2]) (by simp [results, Try.results5, go_sem, qa8r, qb8r]) rfl ⟨(p0, p1, p2), HQ.out, rfl, hbw⟩
set_option maxRecDepth 100000 in
set_option maxHeartbeats 12800000 in
theorem ref5_do_1 (la ha lb hb : Nat) (b1 : la < 2 ^ 64) (b2 : ha < 2 ^ 64) (b3 : lb < 2 ^ 64) (b4 : hb < 2 ^ 64) (ha' : okS la ha = true) (hb' : okS lb hb = true) (w : World) :
    Calls Try.prog 5 #[.int .i64 1, .agg #[.float .f64 la, .float .f64 ha], .agg #[.float .f64 lb, .float .f64 hb]] w (RetSp w (DoE 1 la ha lb hb)) := by
  have K0 := ((((Mm.nil w).var (g := w.heap.size) rfl [.float .f64 la, .float .f64 ha] 24).var (g := w.heap.size + 1) (by simp) [.float .f64 lb, .float .f64 hb] 24).var (g := w.heap.size + 1 + 1) (by simp) [.float .f64 0, .float .f64 0] 24)
  have HA : Hid (okI la ha = 0) := Lib.hid (by unfold okI; rw [ha']; rfl)
  have HB : Hid (okI lb hb = 0) := Lib.hid (by unfold okI; rw [hb']; rfl)
  have HF : Hid (∀ X Y : Nat → FrE, (X 0).2.2 = fr la → (X 1).2.2 = fr ha → (Y 0).2.2 = fr lb → (Y 1).2.2 = fr hb → ∀ i k, i < 2 → k < 2 → Sz (X i).2.2 67 ∧ Sz (Y k).2.2 67 ∧ True ∧ opR 1 (X i).2.2 (Y k).2.2 = corR 1 la ha lb hb (2 * i + k)) := Lib.hid (fun X Y x0 x1 y0 y1 i j hi hj => ⟨(fr_szs ha' hb' X Y x0 x1 y0 y1 i j hi hj).1, (fr_szs ha' hb' X Y x0 x1 y0 y1 i j hi hj).2, True.intro, cor_at 1 X Y x0 x1 y0 y1 i j hi hj⟩)
  have HS : Hid (∀ j, Sz (corR 1 la ha lb hb j) 135) := Lib.hid (cor_sz 1 ha' hb' (by omega))

  obtain ⟨xla, hxla⟩ : ∃ x, fr la = x := ⟨_, rfl⟩
  rw [hxla] at HF
  have HXla := Lib.hid hxla
  clear hxla
  obtain ⟨xha, hxha⟩ : ∃ x, fr ha = x := ⟨_, rfl⟩
  rw [hxha] at HF
  have HXha := Lib.hid hxha
  clear hxha
  obtain ⟨xlb, hxlb⟩ : ∃ x, fr lb = x := ⟨_, rfl⟩
  rw [hxlb] at HF
  have HXlb := Lib.hid hxlb
  clear hxlb
  obtain ⟨xhb, hxhb⟩ : ∃ x, fr hb = x := ⟨_, rfl⟩
  rw [hxhb] at HF
  have HXhb := Lib.hid hxhb
  clear hxhb
  clear ha' hb'
  go_enter Try.func5, Try.ntmps5
  go_wp2_with fail
  generalize ((w.alloc (.cells #[.float .f64 la, .float .f64 ha] 24)).alloc (.cells #[.float .f64 lb, .float .f64 hb] 24)).alloc (.cells #[.float .f64 0, .float .f64 0] 24) = w0 at K0 ⊢
  obtain ⟨qa0x, qb0x, qc0x, qd0x, qe0x⟩ := (K0.blk (g := w.heap.size) (vs := [.float .f64 la, .float .f64 ha]) (by simp)).two
  obtain ⟨qa0y, qb0y, qc0y, qd0y, qe0y⟩ := (K0.blk (g := w.heap.size + 1) (vs := [.float .f64 lb, .float .f64 hb]) (by simp)).two
  obtain ⟨qa0r, qb0r, qc0r, qd0r, qe0r⟩ := (K0.blk (g := w.heap.size + 1 + 1) (vs := [.float .f64 0, .float .f64 0]) (by simp)).two
  go_wp2_with fail
  refine (ref_check_any la ha _).mono ?_
  rintro e1 w1 ⟨rfl, hb1⟩
  rw [HA.out]
  have K1 := K0.next hb1
  clear hb1 K0
  obtain ⟨qa1x, qb1x, qc1x, qd1x, qe1x⟩ := (K1.blk (g := w.heap.size) (vs := [.float .f64 la, .float .f64 ha]) (by simp)).two
  obtain ⟨qa1y, qb1y, qc1y, qd1y, qe1y⟩ := (K1.blk (g := w.heap.size + 1) (vs := [.float .f64 lb, .float .f64 hb]) (by simp)).two
  obtain ⟨qa1r, qb1r, qc1r, qd1r, qe1r⟩ := (K1.blk (g := w.heap.size + 1 + 1) (vs := [.float .f64 0, .float .f64 0]) (by simp)).two
  go_wp2_with fail
  refine (ref_check_any lb hb _).mono ?_
  rintro e2 w2 ⟨rfl, hb2⟩
  rw [HB.out]
  have K2 := K1.next hb2
  clear hb2 K1
  obtain ⟨qa2x, qb2x, qc2x, qd2x, qe2x⟩ := (K2.blk (g := w.heap.size) (vs := [.float .f64 la, .float .f64 ha]) (by simp)).two
  obtain ⟨qa2y, qb2y, qc2y, qd2y, qe2y⟩ := (K2.blk (g := w.heap.size + 1) (vs := [.float .f64 lb, .float .f64 hb]) (by simp)).two
  obtain ⟨qa2r, qb2r, qc2r, qd2r, qe2r⟩ := (K2.blk (g := w.heap.size + 1 + 1) (vs := [.float .f64 0, .float .f64 0]) (by simp)).two
  go_upto_region 5 with (fail)
  go_cut [8] from 35 to 41 (fun s8 wx => ∃ (gx : Nat) (X : Nat → FrE), s8 = .slice (some ⟨gx, 0, none⟩) 2 2 ∧ Hid ((X 0).2.2 = xla ∧ (X 1).2.2 = xha) ∧ Frs wx gx 2 X ∧ Mm w [(w.heap.size, [.float .f64 la, .float .f64 ha]), (w.heap.size + 1, [.float .f64 lb, .float .f64 hb]), (w.heap.size + 1 + 1, [.float .f64 0, .float .f64 0])] [] wx)
  case first =>
    go_region_held3 (fun w' => w'.cell? ⟨w.heap.size, 0, none⟩ = some (.float .f64 la) ∧ w'.cell? ⟨w.heap.size, 1, none⟩ = some (.float .f64 ha))
      (go_keep)
      (first
        | (go_at_call 14; (with_reducible refine (ref2_float_any la b1 _).mono ?_); rintro e3 w3 ⟨neg3, A3, n3, c3, ne3, B3, m3, d3, rfl, I3, J3, hb3⟩; rw [HXla.out] at I3 J3; (first | (with_reducible have K3 := ((K2.next hb3).int J3).int I3) | (with_reducible have K3 := ((K2.drew.next hb3).int J3).int I3) | (with_reducible have K3 := (((K2.drewN _).next hb3).int J3).int I3)); have Q3x := (K3.blk (g := w.heap.size) (vs := [.float .f64 la, .float .f64 ha]) (by simp)).two; obtain ⟨qa3x, qb3x, qc3x, qd3x, qe3x⟩ := Q3x; have Q3y := (K3.blk (g := w.heap.size + 1) (vs := [.float .f64 lb, .float .f64 hb]) (by simp)).two; obtain ⟨qa3y, qb3y, qc3y, qd3y, qe3y⟩ := Q3y; clear I3 J3 hb3)
        | (go_at_call 14; (with_reducible refine (ref2_float_any ha b2 _).mono ?_); rintro e4 w4 ⟨neg4, A4, n4, c4, ne4, B4, m4, d4, rfl, I4, J4, hb4⟩; rw [HXha.out] at I4 J4; (first | (with_reducible have K4 := ((K3.next hb4).int J4).int I4) | (with_reducible have K4 := ((K3.drew.next hb4).int J4).int I4) | (with_reducible have K4 := (((K3.drewN _).next hb4).int J4).int I4)); have Q4x := (K4.blk (g := w.heap.size) (vs := [.float .f64 la, .float .f64 ha]) (by simp)).two; obtain ⟨qa4x, qb4x, qc4x, qd4x, qe4x⟩ := Q4x; have Q4y := (K4.blk (g := w.heap.size + 1) (vs := [.float .f64 lb, .float .f64 hb]) (by simp)).two; obtain ⟨qa4y, qb4y, qc4y, qd4y, qe4y⟩ := Q4y; clear I4 J4 hb4))
    all_goals (go_wp2_with fail)
    all_goals go_meet
    all_goals first
      | exact ⟨w4.heap.size, two2 ((neg3, A3, n3, c3), (ne3, B3, m3, d3), xla) ((neg4, A4, n4, c4), (ne4, B4, m4, d4), xha), rfl, Lib.hid ⟨two2_l rfl, two2_r rfl⟩, frs_two w4 rfl ((neg3, A3, n3, c3), (ne3, B3, m3, d3), xla) ((neg4, A4, n4, c4), (ne4, B4, m4, d4), xha) ⟨K4.at_ (by simp), K4.at_ (by simp)⟩ ⟨K4.at_ (by simp), K4.at_ (by simp)⟩ _, (K4.box _).pick (by simp) (by simp)⟩
      | exact ⟨w4.heap.size, two2 ((neg3, A3, n3, c3), (ne3, B3, m3, d3), xla) ((neg4, A4, n4, c4), (ne4, B4, m4, d4), xha), rfl, Lib.hid ⟨two2_l rfl, two2_r rfl⟩, (frs_two w4 rfl ((neg3, A3, n3, c3), (ne3, B3, m3, d3), xla) ((neg4, A4, n4, c4), (ne4, B4, m4, d4), xha) ⟨K4.at_ (by simp), K4.at_ (by simp)⟩ ⟨K4.at_ (by simp), K4.at_ (by simp)⟩ _).next ⟨rfl, rfl, rfl, Nat.le_refl _, fun _ _ => rfl⟩, ((K4.box _).drew).pick (by simp) (by simp)⟩
  case rest =>
    obtain ⟨gx, X, rfl, HX, FX, K3⟩ := hcut
    clear K2 qa0x qb0x qc0x qd0x qe0x qa0y qb0y qc0y qd0y qe0y qa0r qb0r qc0r qd0r qe0r qa1x qb1x qc1x qd1x qe1x qa1y qb1y qc1y qd1y qe1y qa1r qb1r qc1r qd1r qe1r qa2x qb2x qc2x qd2x qe2x qa2y qb2y qc2y qd2y qe2y qa2r qb2r qc2r qd2r qe2r
    obtain ⟨qa2y, qb2y, qc2y, qd2y, qe2y⟩ := (K3.blk (g := w.heap.size + 1) (vs := [.float .f64 lb, .float .f64 hb]) (by simp)).two
    go_upto_region 6 with (fail)
    go_cut [9] from 42 to 48 (fun s9 wx => ∃ (gy : Nat) (Y : Nat → FrE), s9 = .slice (some ⟨gy, 0, none⟩) 2 2 ∧ Hid ((Y 0).2.2 = xlb ∧ (Y 1).2.2 = xhb) ∧ Frs wx gx 2 X ∧ Frs wx gy 2 Y ∧ Mm w [(w.heap.size, [.float .f64 la, .float .f64 ha]), (w.heap.size + 1, [.float .f64 lb, .float .f64 hb]), (w.heap.size + 1 + 1, [.float .f64 0, .float .f64 0])] [] wx)
    case first =>
      go_region_held3 (fun w' => w'.cell? ⟨w.heap.size + 1, 0, none⟩ = some (.float .f64 lb) ∧ w'.cell? ⟨w.heap.size + 1, 1, none⟩ = some (.float .f64 hb))
        (go_keep)
        (first
          | (go_at_call 14; (with_reducible refine (ref2_float_any lb b3 _).mono ?_); rintro e4 w4 ⟨neg4, A4, n4, c4, ne4, B4, m4, d4, rfl, I4, J4, hb4⟩; rw [HXlb.out] at I4 J4; (first | (with_reducible have K4 := ((K3.next hb4).int J4).int I4) | (with_reducible have K4 := ((K3.drew.next hb4).int J4).int I4) | (with_reducible have K4 := (((K3.drewN _).next hb4).int J4).int I4)); have Q4x := (K4.blk (g := w.heap.size) (vs := [.float .f64 la, .float .f64 ha]) (by simp)).two; obtain ⟨qa4x, qb4x, qc4x, qd4x, qe4x⟩ := Q4x; have Q4y := (K4.blk (g := w.heap.size + 1) (vs := [.float .f64 lb, .float .f64 hb]) (by simp)).two; obtain ⟨qa4y, qb4y, qc4y, qd4y, qe4y⟩ := Q4y; have FX4 := FX.next (by first | exact hb4 | exact below_of_drew hb4 | exact below_of_drewN hb4); clear I4 J4 hb4)
          | (go_at_call 14; (with_reducible refine (ref2_float_any hb b4 _).mono ?_); rintro e5 w5 ⟨neg5, A5, n5, c5, ne5, B5, m5, d5, rfl, I5, J5, hb5⟩; rw [HXhb.out] at I5 J5; (first | (with_reducible have K5 := ((K4.next hb5).int J5).int I5) | (with_reducible have K5 := ((K4.drew.next hb5).int J5).int I5) | (with_reducible have K5 := (((K4.drewN _).next hb5).int J5).int I5)); have Q5x := (K5.blk (g := w.heap.size) (vs := [.float .f64 la, .float .f64 ha]) (by simp)).two; obtain ⟨qa5x, qb5x, qc5x, qd5x, qe5x⟩ := Q5x; have Q5y := (K5.blk (g := w.heap.size + 1) (vs := [.float .f64 lb, .float .f64 hb]) (by simp)).two; obtain ⟨qa5y, qb5y, qc5y, qd5y, qe5y⟩ := Q5y; have FX5 := FX4.next (by first | exact hb5 | exact below_of_drew hb5 | exact below_of_drewN hb5); clear I5 J5 hb5))
      all_goals (go_wp2_with fail)
      all_goals go_meet
      all_goals first
        | exact ⟨w5.heap.size, two2 ((neg4, A4, n4, c4), (ne4, B4, m4, d4), xlb) ((neg5, A5, n5, c5), (ne5, B5, m5, d5), xhb), rfl, Lib.hid ⟨two2_l rfl, two2_r rfl⟩, FX5.next ((Below.refl _ _).alloc (Nat.le_refl _) _), frs_two w5 rfl ((neg4, A4, n4, c4), (ne4, B4, m4, d4), xlb) ((neg5, A5, n5, c5), (ne5, B5, m5, d5), xhb) ⟨K5.at_ (by simp), K5.at_ (by simp)⟩ ⟨K5.at_ (by simp), K5.at_ (by simp)⟩ _, (K5.box _).pick (by simp) (by simp)⟩
        | exact ⟨w5.heap.size, two2 ((neg4, A4, n4, c4), (ne4, B4, m4, d4), xlb) ((neg5, A5, n5, c5), (ne5, B5, m5, d5), xhb), rfl, Lib.hid ⟨two2_l rfl, two2_r rfl⟩, (FX5.next ((Below.refl _ _).alloc (Nat.le_refl _) _)).next ⟨rfl, rfl, rfl, Nat.le_refl _, fun _ _ => rfl⟩, (frs_two w5 rfl ((neg4, A4, n4, c4), (ne4, B4, m4, d4), xlb) ((neg5, A5, n5, c5), (ne5, B5, m5, d5), xhb) ⟨K5.at_ (by simp), K5.at_ (by simp)⟩ ⟨K5.at_ (by simp), K5.at_ (by simp)⟩ _).next ⟨rfl, rfl, rfl, Nat.le_refl _, fun _ _ => rfl⟩, ((K5.box _).drew).pick (by simp) (by simp)⟩
    case rest =>
      obtain ⟨gy, Y, rfl, HY, FX2, FY, K4⟩ := hcut
      clear FX K3 qa2y qb2y qc2y qd2y qe2y
      have HH : Hid (∀ i k, i < 2 → k < 2 → Sz (X i).2.2 67 ∧ Sz (Y k).2.2 67 ∧ True ∧ opR 1 (X i).2.2 (Y k).2.2 = corR 1 la ha lb hb (2 * i + k)) := Lib.hid (HF.out X Y HX.out.1 HX.out.2 HY.out.1 HY.out.2)
      have D0 := dom_nil K4 FX2 FY (corR 1 la ha lb hb)
      obtain ⟨B, hB⟩ : ∃ B, wc.heap.size = B := ⟨_, rfl⟩
      rw [hB] at D0
      clear hB
      clear HX HY HF FX2 FY K4
      go_wp2_with fail
      go_loopw [10, 11] (fun av iv wr => ∃ i : Nat, iv = .int .i64 (i : Int) ∧ i ≤ 2 ∧ DoM w [(w.heap.size, [.float .f64 la, .float .f64 ha]), (w.heap.size + 1, [.float .f64 lb, .float .f64 hb]), (w.heap.size + 1 + 1, [.float .f64 0, .float .f64 0])] gx gy B X Y av (2 * i) (corR 1 la ha lb hb) wr) (fun _ i _ => 2 - (intOf i).toNat)
      case atStart => exact ⟨0, rfl, by decide, D0⟩
      case round =>
        obtain ⟨i, rfl, hi2, DM⟩ := hrel
        clear D0
        by_cases hlt : i < 2
        · have hlt' : (i : Int) < 2 := by omega
          go_wp2_with fail
          go_loopw [10, 12] (fun av kv wr => ∃ k : Nat, kv = .int .i64 (k : Int) ∧ k ≤ 2 ∧ DoM w [(w.heap.size, [.float .f64 la, .float .f64 ha]), (w.heap.size + 1, [.float .f64 lb, .float .f64 hb]), (w.heap.size + 1 + 1, [.float .f64 0, .float .f64 0])] gx gy B X Y av (2 * i + k) (corR 1 la ha lb hb) wr) (fun _ k _ => 2 - (intOf k).toNat)
          case atStart => exact ⟨0, rfl, by decide, DM⟩
          case round =>
            obtain ⟨k, rfl, hk2, DI⟩ := hrel
            clear DM
            by_cases hlk : k < 2
            · have hlk' : (k : Int) < 2 := by omega
              obtain ⟨⟨c0, c1, c2, c3⟩, ci⟩ := DI.2.1.2 i hlt
              obtain ⟨⟨d0, d1, d2, d3⟩, di⟩ := DI.2.2.1.2 k hlk
              obtain ⟨s1, s2, s3, s4⟩ := HH.out i k hlt hlk
              obtain ⟨fi, hfi⟩ : ∃ f, X i = f := ⟨_, rfl⟩
              obtain ⟨fk, hfk⟩ : ∃ f, Y k = f := ⟨_, rfl⟩
              obtain ⟨r, hr⟩ : ∃ r, corR 1 la ha lb hb (2 * i + k) = r := ⟨_, rfl⟩
              rw [hfi] at c0 c1 c2 c3 ci s1 s4
              rw [hfk] at d0 d1 d2 d3 di s2 s4
              rw [hr] at s4
              obtain ⟨⟨i1, I1, t1, v1⟩, ⟨i2, I2, t2, v2⟩, xi⟩ := fi
              obtain ⟨⟨j1, J1, p1, q1⟩, ⟨j2, J2, p2, q2⟩, yk⟩ := fk
              have S1 := Lib.hid s1
              have S2 := Lib.hid s2
              have S3 := Lib.hid s3
              have S4 : Hid (xi - yk = r) := Lib.hid s4
              have HR := Lib.hid hr
              have HFI := Lib.hid hfi
              have HFK := Lib.hid hfk
              have KI := (((DI.1.int ci.1).int ci.2).int di.1).int di.2
              have gxl := DI.2.1.1
              have gyl := DI.2.2.1.1
              have hi0 : (0 : Int) ≤ (i : Int) := Int.natCast_nonneg _
              have hk0 : (0 : Int) ≤ (k : Int) := Int.natCast_nonneg _
              have h67 : 67 + 67 < 1000000 := by decide
              have hNN : 2 * i + k ≤ 1000 := by omega
              clear s1 s2 s3 s4 hr hfi hfk ci di
              go_wp2_with fail
              go_region_held3 (fun w' => w'.cell? ⟨gx, i * 4, none⟩ = some (.bool i1) ∧ w'.cell? ⟨gx, i * 4 + 1, none⟩ = some (.slice I1 t1 v1) ∧ w'.cell? ⟨gx, i * 4 + 2, none⟩ = some (.bool i2) ∧ w'.cell? ⟨gx, i * 4 + 3, none⟩ = some (.slice I2 t2 v2) ∧ w'.cell? ⟨gy, k * 4, none⟩ = some (.bool j1) ∧ w'.cell? ⟨gy, k * 4 + 1, none⟩ = some (.slice J1 p1 q1) ∧ w'.cell? ⟨gy, k * 4 + 2, none⟩ = some (.bool j2) ∧ w'.cell? ⟨gy, k * 4 + 3, none⟩ = some (.slice J2 p2 q2))
                (go_keep)
                (first
                  | (go_at_call 16; (with_reducible refine (ref2_minus_any i1 i2 I1 I2 t1 v1 t2 v2 j1 j2 J1 J2 p1 q1 p2 q2 xi yk r 67 67 _ ?_ ?_ ?_ ?_ S1.out S2.out h67 S4).mono ?_); (first | (with_reducible exact KI.at_ (by simp)) | (with_reducible exact KI.drew.at_ (by simp)) | (with_reducible exact (KI.drewN _).at_ (by simp))); (first | (with_reducible exact KI.at_ (by simp)) | (with_reducible exact KI.drew.at_ (by simp)) | (with_reducible exact (KI.drewN _).at_ (by simp))); (first | (with_reducible exact KI.at_ (by simp)) | (with_reducible exact KI.drew.at_ (by simp)) | (with_reducible exact (KI.drewN _).at_ (by simp))); (first | (with_reducible exact KI.at_ (by simp)) | (with_reducible exact KI.drew.at_ (by simp)) | (with_reducible exact (KI.drewN _).at_ (by simp))); rintro e5 w5 ⟨neg5, A5, n5, c5, ne5, B5, m5, d5, rfl, I5, J5, hb5⟩; (first | (with_reducible have D5 := DI.next hb5) | (with_reducible have D5 := DI.drew.next hb5) | (with_reducible have D5 := (DI.drewN _).next hb5)); have O5x := (D5.2.1.2 i hlt).1; rw [HFI.out] at O5x; obtain ⟨xa5, xb5, xc5, xd5⟩ := O5x; have O5y := (D5.2.2.1.2 k hlk).1; rw [HFK.out] at O5y; obtain ⟨ya5, yb5, yc5, yd5⟩ := O5y; have xl5 := D5.2.1.1; have yl5 := D5.2.2.1.1; have E5 : FrE.at_ w5 ((neg5, A5, n5, c5), (ne5, B5, m5, d5), r) := ⟨I5, J5⟩)
                  | (refine step_all (by rfl) _ _ (by rfl) ((neg5, A5, n5, c5), (ne5, B5, m5, d5), r) w5.heap.size 1 (D5.next ((Below.refl _ _).alloc (Nat.le_refl _) _)) (vs_new w5 _ _) (at_alloc E5 _) HR.out.symm hNN (by rfl) (by rfl) ?_; intro g6 cap6 w6 D6; have O6x := (D6.2.1.2 i hlt).1; rw [HFI.out] at O6x; obtain ⟨xa6, xb6, xc6, xd6⟩ := O6x; have O6y := (D6.2.2.1.2 k hlk).1; rw [HFK.out] at O6y; obtain ⟨ya6, yb6, yc6, yd6⟩ := O6y; have xl6 := D6.2.1.1; have yl6 := D6.2.2.1.1))
              all_goals go_wp2_with fail
              go_roundw
              case rel => exact ⟨k + 1, by go_num, by omega, D6⟩
              case measure => simp [intOf]; omega
            · obtain rfl : k = 2 := by omega
              go_wp2_with fail
              go_roundw
              case rel => exact ⟨i + 1, by go_num, by omega, DI⟩
              case measure => simp [intOf]; omega
        · obtain rfl : i = 2 := by omega
          have DM4 : DoM w [(w.heap.size, [.float .f64 la, .float .f64 ha]), (w.heap.size + 1, [.float .f64 lb, .float .f64 hb]), (w.heap.size + 1 + 1, [.float .f64 0, .float .f64 0])] gx gy B X Y u10 4 (corR 1 la ha lb hb) wr := DM
          obtain ⟨g, cap, rfl, hcap⟩ := DM4.row (by decide)
          obtain ⟨F, FR, HV⟩ := DM4.2.2.2.2.frs
          have HSz : Hid (∀ i, i < 4 → Sz (F i).2.2 135) := Lib.hid (fun i hi => by rw [HV i hi]; exact HS.out i)
          have HVV := Lib.hid HV
          have KF := DM4.1
          clear DM DM4 HV HS
          go_wp2_with fail
          refine (ref5_few_any g 4 cap 135 F _ FR (by decide) (by decide) hcap HSz (by decide)).mono ?_
          rintro e7 w7 ⟨a, b, hia, hib, rfl, hall, Ia, Ib, hb7⟩
          have K7 := KF.next hb7
          have HE : Hid (∀ lo hi, DownR (F a).2.2 lo → UpR (F b).2.2 hi → DoE 1 la ha lb hb (endsF lo hi)) := Lib.hid (fun lo hi hD hU => ⟨a, b, lo, hi, hia, hib, fun j hj => by
            rw [← HVV.out a hia, ← HVV.out b hib, ← HVV.out j hj]; exact hall j hj, by rw [← HVV.out a hia]; exact hD, by rw [← HVV.out b hib]; exact hU, rfl⟩)
          have SA := Lib.hid (HSz.out a hia)
          have SB := Lib.hid (HSz.out b hib)
          clear hb7 hall hia hib HVV HSz KF FR
          go_wp2_with fail
          refine (ref5_least_any (F a).1.1 (F a).2.1.1 (F a).1.2.1 (F a).2.1.2.1 (F a).1.2.2.1 (F a).1.2.2.2 (F a).2.1.2.2.1 (F a).2.1.2.2.2 (F b).1.1 (F b).2.1.1 (F b).1.2.1 (F b).2.1.2.1 (F b).1.2.2.1 (F b).1.2.2.2 (F b).2.1.2.2.1 (F b).2.1.2.2.2 (F a).2.2 (F b).2.2 135 _ Ia.1 Ia.2 Ib.1 Ib.2 SA.out SB.out (by decide)).mono ?_
          rintro e8 w8 ⟨p, ⟨lo, hi, hD, hU, rfl⟩, rfl, hb8⟩
          have K8 := K7.next hb8
          have HQ := Lib.hid (HE.out lo hi hD hU)
          generalize endsF lo hi = p at HQ ⊢
          obtain ⟨p0, p1, p2⟩ := p
          clear hD hU hb8 K7 Ia Ib HE
          obtain ⟨qa8r, qb8r, qc8r, qd8r, qe8r⟩ := (K8.blk (g := w.heap.size + 1 + 1) (vs := [.float .f64 0, .float .f64 0]) (by simp)).two
          go_wp2_with fail
          have hbw := below_result (g := w.heap.size + 1 + 1) K8.1 (by omega) (.float .f64 p0) (.float .f64 p1)
          exact bodyPost_ret (v := .tuple #[.agg #[.float .f64 p0, .float .f64 p1], .int .i64 p2]) (by simp [results, Try.results5, go_sem, qa8r, qb8r]) rfl ⟨(p0, p1, p2), HQ.out, rfl, hbw⟩
set_option maxRecDepth 100000 in
set_option maxHeartbeats 12800000 in
theorem ref5_do_2 (la ha lb hb : Nat) (b1 : la < 2 ^ 64) (b2 : ha < 2 ^ 64) (b3 : lb < 2 ^ 64) (b4 : hb < 2 ^ 64) (ha' : okS la ha = true) (hb' : okS lb hb = true) (w : World) :
    Calls Try.prog 5 #[.int .i64 2, .agg #[.float .f64 la, .float .f64 ha], .agg #[.float .f64 lb, .float .f64 hb]] w (RetSp w (DoE 2 la ha lb hb)) := by
  have K0 := ((((Mm.nil w).var (g := w.heap.size) rfl [.float .f64 la, .float .f64 ha] 24).var (g := w.heap.size + 1) (by simp) [.float .f64 lb, .float .f64 hb] 24).var (g := w.heap.size + 1 + 1) (by simp) [.float .f64 0, .float .f64 0] 24)
  have HA : Hid (okI la ha = 0) := Lib.hid (by unfold okI; rw [ha']; rfl)
  have HB : Hid (okI lb hb = 0) := Lib.hid (by unfold okI; rw [hb']; rfl)
  have HF : Hid (∀ X Y : Nat → FrE, (X 0).2.2 = fr la → (X 1).2.2 = fr ha → (Y 0).2.2 = fr lb → (Y 1).2.2 = fr hb → ∀ i k, i < 2 → k < 2 → Sz (X i).2.2 67 ∧ Sz (Y k).2.2 67 ∧ True ∧ opR 2 (X i).2.2 (Y k).2.2 = corR 2 la ha lb hb (2 * i + k)) := Lib.hid (fun X Y x0 x1 y0 y1 i j hi hj => ⟨(fr_szs ha' hb' X Y x0 x1 y0 y1 i j hi hj).1, (fr_szs ha' hb' X Y x0 x1 y0 y1 i j hi hj).2, True.intro, cor_at 2 X Y x0 x1 y0 y1 i j hi hj⟩)
  have HS : Hid (∀ j, Sz (corR 2 la ha lb hb j) 135) := Lib.hid (cor_sz 2 ha' hb' (by omega))

  obtain ⟨xla, hxla⟩ : ∃ x, fr la = x := ⟨_, rfl⟩
  rw [hxla] at HF
  have HXla := Lib.hid hxla
  clear hxla
  obtain ⟨xha, hxha⟩ : ∃ x, fr ha = x := ⟨_, rfl⟩
  rw [hxha] at HF
  have HXha := Lib.hid hxha
  clear hxha
  obtain ⟨xlb, hxlb⟩ : ∃ x, fr lb = x := ⟨_, rfl⟩
  rw [hxlb] at HF
  have HXlb := Lib.hid hxlb
  clear hxlb
  obtain ⟨xhb, hxhb⟩ : ∃ x, fr hb = x := ⟨_, rfl⟩
  rw [hxhb] at HF
  have HXhb := Lib.hid hxhb
  clear hxhb
  clear ha' hb'
  go_enter Try.func5, Try.ntmps5
  go_wp2_with fail
  generalize ((w.alloc (.cells #[.float .f64 la, .float .f64 ha] 24)).alloc (.cells #[.float .f64 lb, .float .f64 hb] 24)).alloc (.cells #[.float .f64 0, .float .f64 0] 24) = w0 at K0 ⊢
  obtain ⟨qa0x, qb0x, qc0x, qd0x, qe0x⟩ := (K0.blk (g := w.heap.size) (vs := [.float .f64 la, .float .f64 ha]) (by simp)).two
  obtain ⟨qa0y, qb0y, qc0y, qd0y, qe0y⟩ := (K0.blk (g := w.heap.size + 1) (vs := [.float .f64 lb, .float .f64 hb]) (by simp)).two
  obtain ⟨qa0r, qb0r, qc0r, qd0r, qe0r⟩ := (K0.blk (g := w.heap.size + 1 + 1) (vs := [.float .f64 0, .float .f64 0]) (by simp)).two
  go_wp2_with fail
  refine (ref_check_any la ha _).mono ?_
  rintro e1 w1 ⟨rfl, hb1⟩
  rw [HA.out]
  have K1 := K0.next hb1
  clear hb1 K0
  obtain ⟨qa1x, qb1x, qc1x, qd1x, qe1x⟩ := (K1.blk (g := w.heap.size) (vs := [.float .f64 la, .float .f64 ha]) (by simp)).two
  obtain ⟨qa1y, qb1y, qc1y, qd1y, qe1y⟩ := (K1.blk (g := w.heap.size + 1) (vs := [.float .f64 lb, .float .f64 hb]) (by simp)).two
  obtain ⟨qa1r, qb1r, qc1r, qd1r, qe1r⟩ := (K1.blk (g := w.heap.size + 1 + 1) (vs := [.float .f64 0, .float .f64 0]) (by simp)).two
  go_wp2_with fail
  refine (ref_check_any lb hb _).mono ?_
  rintro e2 w2 ⟨rfl, hb2⟩
  rw [HB.out]
  have K2 := K1.next hb2
  clear hb2 K1
  obtain ⟨qa2x, qb2x, qc2x, qd2x, qe2x⟩ := (K2.blk (g := w.heap.size) (vs := [.float .f64 la, .float .f64 ha]) (by simp)).two
  obtain ⟨qa2y, qb2y, qc2y, qd2y, qe2y⟩ := (K2.blk (g := w.heap.size + 1) (vs := [.float .f64 lb, .float .f64 hb]) (by simp)).two
  obtain ⟨qa2r, qb2r, qc2r, qd2r, qe2r⟩ := (K2.blk (g := w.heap.size + 1 + 1) (vs := [.float .f64 0, .float .f64 0]) (by simp)).two
  go_upto_region 5 with (fail)
  go_cut [8] from 35 to 41 (fun s8 wx => ∃ (gx : Nat) (X : Nat → FrE), s8 = .slice (some ⟨gx, 0, none⟩) 2 2 ∧ Hid ((X 0).2.2 = xla ∧ (X 1).2.2 = xha) ∧ Frs wx gx 2 X ∧ Mm w [(w.heap.size, [.float .f64 la, .float .f64 ha]), (w.heap.size + 1, [.float .f64 lb, .float .f64 hb]), (w.heap.size + 1 + 1, [.float .f64 0, .float .f64 0])] [] wx)
  case first =>
    go_region_held3 (fun w' => w'.cell? ⟨w.heap.size, 0, none⟩ = some (.float .f64 la) ∧ w'.cell? ⟨w.heap.size, 1, none⟩ = some (.float .f64 ha))
      (go_keep)
      (first
        | (go_at_call 14; (with_reducible refine (ref2_float_any la b1 _).mono ?_); rintro e3 w3 ⟨neg3, A3, n3, c3, ne3, B3, m3, d3, rfl, I3, J3, hb3⟩; rw [HXla.out] at I3 J3; (first | (with_reducible have K3 := ((K2.next hb3).int J3).int I3) | (with_reducible have K3 := ((K2.drew.next hb3).int J3).int I3) | (with_reducible have K3 := (((K2.drewN _).next hb3).int J3).int I3)); have Q3x := (K3.blk (g := w.heap.size) (vs := [.float .f64 la, .float .f64 ha]) (by simp)).two; obtain ⟨qa3x, qb3x, qc3x, qd3x, qe3x⟩ := Q3x; have Q3y := (K3.blk (g := w.heap.size + 1) (vs := [.float .f64 lb, .float .f64 hb]) (by simp)).two; obtain ⟨qa3y, qb3y, qc3y, qd3y, qe3y⟩ := Q3y; clear I3 J3 hb3)
        | (go_at_call 14; (with_reducible refine (ref2_float_any ha b2 _).mono ?_); rintro e4 w4 ⟨neg4, A4, n4, c4, ne4, B4, m4, d4, rfl, I4, J4, hb4⟩; rw [HXha.out] at I4 J4; (first | (with_reducible have K4 := ((K3.next hb4).int J4).int I4) | (with_reducible have K4 := ((K3.drew.next hb4).int J4).int I4) | (with_reducible have K4 := (((K3.drewN _).next hb4).int J4).int I4)); have Q4x := (K4.blk (g := w.heap.size) (vs := [.float .f64 la, .float .f64 ha]) (by simp)).two; obtain ⟨qa4x, qb4x, qc4x, qd4x, qe4x⟩ := Q4x; have Q4y := (K4.blk (g := w.heap.size + 1) (vs := [.float .f64 lb, .float .f64 hb]) (by simp)).two; obtain ⟨qa4y, qb4y, qc4y, qd4y, qe4y⟩ := Q4y; clear I4 J4 hb4))
    all_goals (go_wp2_with fail)
    all_goals go_meet
    all_goals first
      | exact ⟨w4.heap.size, two2 ((neg3, A3, n3, c3), (ne3, B3, m3, d3), xla) ((neg4, A4, n4, c4), (ne4, B4, m4, d4), xha), rfl, Lib.hid ⟨two2_l rfl, two2_r rfl⟩, frs_two w4 rfl ((neg3, A3, n3, c3), (ne3, B3, m3, d3), xla) ((neg4, A4, n4, c4), (ne4, B4, m4, d4), xha) ⟨K4.at_ (by simp), K4.at_ (by simp)⟩ ⟨K4.at_ (by simp), K4.at_ (by simp)⟩ _, (K4.box _).pick (by simp) (by simp)⟩
      | exact ⟨w4.heap.size, two2 ((neg3, A3, n3, c3), (ne3, B3, m3, d3), xla) ((neg4, A4, n4, c4), (ne4, B4, m4, d4), xha), rfl, Lib.hid ⟨two2_l rfl, two2_r rfl⟩, (frs_two w4 rfl ((neg3, A3, n3, c3), (ne3, B3, m3, d3), xla) ((neg4, A4, n4, c4), (ne4, B4, m4, d4), xha) ⟨K4.at_ (by simp), K4.at_ (by simp)⟩ ⟨K4.at_ (by simp), K4.at_ (by simp)⟩ _).next ⟨rfl, rfl, rfl, Nat.le_refl _, fun _ _ => rfl⟩, ((K4.box _).drew).pick (by simp) (by simp)⟩
  case rest =>
    obtain ⟨gx, X, rfl, HX, FX, K3⟩ := hcut
    clear K2 qa0x qb0x qc0x qd0x qe0x qa0y qb0y qc0y qd0y qe0y qa0r qb0r qc0r qd0r qe0r qa1x qb1x qc1x qd1x qe1x qa1y qb1y qc1y qd1y qe1y qa1r qb1r qc1r qd1r qe1r qa2x qb2x qc2x qd2x qe2x qa2y qb2y qc2y qd2y qe2y qa2r qb2r qc2r qd2r qe2r
    obtain ⟨qa2y, qb2y, qc2y, qd2y, qe2y⟩ := (K3.blk (g := w.heap.size + 1) (vs := [.float .f64 lb, .float .f64 hb]) (by simp)).two
    go_upto_region 6 with (fail)
    go_cut [9] from 42 to 48 (fun s9 wx => ∃ (gy : Nat) (Y : Nat → FrE), s9 = .slice (some ⟨gy, 0, none⟩) 2 2 ∧ Hid ((Y 0).2.2 = xlb ∧ (Y 1).2.2 = xhb) ∧ Frs wx gx 2 X ∧ Frs wx gy 2 Y ∧ Mm w [(w.heap.size, [.float .f64 la, .float .f64 ha]), (w.heap.size + 1, [.float .f64 lb, .float .f64 hb]), (w.heap.size + 1 + 1, [.float .f64 0, .float .f64 0])] [] wx)
    case first =>
      go_region_held3 (fun w' => w'.cell? ⟨w.heap.size + 1, 0, none⟩ = some (.float .f64 lb) ∧ w'.cell? ⟨w.heap.size + 1, 1, none⟩ = some (.float .f64 hb))
        (go_keep)
        (first
          | (go_at_call 14; (with_reducible refine (ref2_float_any lb b3 _).mono ?_); rintro e4 w4 ⟨neg4, A4, n4, c4, ne4, B4, m4, d4, rfl, I4, J4, hb4⟩; rw [HXlb.out] at I4 J4; (first | (with_reducible have K4 := ((K3.next hb4).int J4).int I4) | (with_reducible have K4 := ((K3.drew.next hb4).int J4).int I4) | (with_reducible have K4 := (((K3.drewN _).next hb4).int J4).int I4)); have Q4x := (K4.blk (g := w.heap.size) (vs := [.float .f64 la, .float .f64 ha]) (by simp)).two; obtain ⟨qa4x, qb4x, qc4x, qd4x, qe4x⟩ := Q4x; have Q4y := (K4.blk (g := w.heap.size + 1) (vs := [.float .f64 lb, .float .f64 hb]) (by simp)).two; obtain ⟨qa4y, qb4y, qc4y, qd4y, qe4y⟩ := Q4y; have FX4 := FX.next (by first | exact hb4 | exact below_of_drew hb4 | exact below_of_drewN hb4); clear I4 J4 hb4)
          | (go_at_call 14; (with_reducible refine (ref2_float_any hb b4 _).mono ?_); rintro e5 w5 ⟨neg5, A5, n5, c5, ne5, B5, m5, d5, rfl, I5, J5, hb5⟩; rw [HXhb.out] at I5 J5; (first | (with_reducible have K5 := ((K4.next hb5).int J5).int I5) | (with_reducible have K5 := ((K4.drew.next hb5).int J5).int I5) | (with_reducible have K5 := (((K4.drewN _).next hb5).int J5).int I5)); have Q5x := (K5.blk (g := w.heap.size) (vs := [.float .f64 la, .float .f64 ha]) (by simp)).two; obtain ⟨qa5x, qb5x, qc5x, qd5x, qe5x⟩ := Q5x; have Q5y := (K5.blk (g := w.heap.size + 1) (vs := [.float .f64 lb, .float .f64 hb]) (by simp)).two; obtain ⟨qa5y, qb5y, qc5y, qd5y, qe5y⟩ := Q5y; have FX5 := FX4.next (by first | exact hb5 | exact below_of_drew hb5 | exact below_of_drewN hb5); clear I5 J5 hb5))
      all_goals (go_wp2_with fail)
      all_goals go_meet
      all_goals first
        | exact ⟨w5.heap.size, two2 ((neg4, A4, n4, c4), (ne4, B4, m4, d4), xlb) ((neg5, A5, n5, c5), (ne5, B5, m5, d5), xhb), rfl, Lib.hid ⟨two2_l rfl, two2_r rfl⟩, FX5.next ((Below.refl _ _).alloc (Nat.le_refl _) _), frs_two w5 rfl ((neg4, A4, n4, c4), (ne4, B4, m4, d4), xlb) ((neg5, A5, n5, c5), (ne5, B5, m5, d5), xhb) ⟨K5.at_ (by simp), K5.at_ (by simp)⟩ ⟨K5.at_ (by simp), K5.at_ (by simp)⟩ _, (K5.box _).pick (by simp) (by simp)⟩
        | exact ⟨w5.heap.size, two2 ((neg4, A4, n4, c4), (ne4, B4, m4, d4), xlb) ((neg5, A5, n5, c5), (ne5, B5, m5, d5), xhb), rfl, Lib.hid ⟨two2_l rfl, two2_r rfl⟩, (FX5.next ((Below.refl _ _).alloc (Nat.le_refl _) _)).next ⟨rfl, rfl, rfl, Nat.le_refl _, fun _ _ => rfl⟩, (frs_two w5 rfl ((neg4, A4, n4, c4), (ne4, B4, m4, d4), xlb) ((neg5, A5, n5, c5), (ne5, B5, m5, d5), xhb) ⟨K5.at_ (by simp), K5.at_ (by simp)⟩ ⟨K5.at_ (by simp), K5.at_ (by simp)⟩ _).next ⟨rfl, rfl, rfl, Nat.le_refl _, fun _ _ => rfl⟩, ((K5.box _).drew).pick (by simp) (by simp)⟩
    case rest =>
      obtain ⟨gy, Y, rfl, HY, FX2, FY, K4⟩ := hcut
      clear FX K3 qa2y qb2y qc2y qd2y qe2y
      have HH : Hid (∀ i k, i < 2 → k < 2 → Sz (X i).2.2 67 ∧ Sz (Y k).2.2 67 ∧ True ∧ opR 2 (X i).2.2 (Y k).2.2 = corR 2 la ha lb hb (2 * i + k)) := Lib.hid (HF.out X Y HX.out.1 HX.out.2 HY.out.1 HY.out.2)
      have D0 := dom_nil K4 FX2 FY (corR 2 la ha lb hb)
      obtain ⟨B, hB⟩ : ∃ B, wc.heap.size = B := ⟨_, rfl⟩
      rw [hB] at D0
      clear hB
      clear HX HY HF FX2 FY K4
      go_wp2_with fail
      go_loopw [10, 11] (fun av iv wr => ∃ i : Nat, iv = .int .i64 (i : Int) ∧ i ≤ 2 ∧ DoM w [(w.heap.size, [.float .f64 la, .float .f64 ha]), (w.heap.size + 1, [.float .f64 lb, .float .f64 hb]), (w.heap.size + 1 + 1, [.float .f64 0, .float .f64 0])] gx gy B X Y av (2 * i) (corR 2 la ha lb hb) wr) (fun _ i _ => 2 - (intOf i).toNat)
      case atStart => exact ⟨0, rfl, by decide, D0⟩
      case round =>
        obtain ⟨i, rfl, hi2, DM⟩ := hrel
        clear D0
        by_cases hlt : i < 2
        · have hlt' : (i : Int) < 2 := by omega
          go_wp2_with fail
          go_loopw [10, 12] (fun av kv wr => ∃ k : Nat, kv = .int .i64 (k : Int) ∧ k ≤ 2 ∧ DoM w [(w.heap.size, [.float .f64 la, .float .f64 ha]), (w.heap.size + 1, [.float .f64 lb, .float .f64 hb]), (w.heap.size + 1 + 1, [.float .f64 0, .float .f64 0])] gx gy B X Y av (2 * i + k) (corR 2 la ha lb hb) wr) (fun _ k _ => 2 - (intOf k).toNat)
          case atStart => exact ⟨0, rfl, by decide, DM⟩
          case round =>
            obtain ⟨k, rfl, hk2, DI⟩ := hrel
            clear DM
            by_cases hlk : k < 2
            · have hlk' : (k : Int) < 2 := by omega
              obtain ⟨⟨c0, c1, c2, c3⟩, ci⟩ := DI.2.1.2 i hlt
              obtain ⟨⟨d0, d1, d2, d3⟩, di⟩ := DI.2.2.1.2 k hlk
              obtain ⟨s1, s2, s3, s4⟩ := HH.out i k hlt hlk
              obtain ⟨fi, hfi⟩ : ∃ f, X i = f := ⟨_, rfl⟩
              obtain ⟨fk, hfk⟩ : ∃ f, Y k = f := ⟨_, rfl⟩
              obtain ⟨r, hr⟩ : ∃ r, corR 2 la ha lb hb (2 * i + k) = r := ⟨_, rfl⟩
              rw [hfi] at c0 c1 c2 c3 ci s1 s4
              rw [hfk] at d0 d1 d2 d3 di s2 s4
              rw [hr] at s4
              obtain ⟨⟨i1, I1, t1, v1⟩, ⟨i2, I2, t2, v2⟩, xi⟩ := fi
              obtain ⟨⟨j1, J1, p1, q1⟩, ⟨j2, J2, p2, q2⟩, yk⟩ := fk
              have S1 := Lib.hid s1
              have S2 := Lib.hid s2
              have S3 := Lib.hid s3
              have S4 : Hid (xi * yk = r) := Lib.hid s4
              have HR := Lib.hid hr
              have HFI := Lib.hid hfi
              have HFK := Lib.hid hfk
              have KI := (((DI.1.int ci.1).int ci.2).int di.1).int di.2
              have gxl := DI.2.1.1
              have gyl := DI.2.2.1.1
              have hi0 : (0 : Int) ≤ (i : Int) := Int.natCast_nonneg _
              have hk0 : (0 : Int) ≤ (k : Int) := Int.natCast_nonneg _
              have h67 : 67 + 67 < 1000000 := by decide
              have hNN : 2 * i + k ≤ 1000 := by omega
              clear s1 s2 s3 s4 hr hfi hfk ci di
              go_wp2_with fail
              go_region_held3 (fun w' => w'.cell? ⟨gx, i * 4, none⟩ = some (.bool i1) ∧ w'.cell? ⟨gx, i * 4 + 1, none⟩ = some (.slice I1 t1 v1) ∧ w'.cell? ⟨gx, i * 4 + 2, none⟩ = some (.bool i2) ∧ w'.cell? ⟨gx, i * 4 + 3, none⟩ = some (.slice I2 t2 v2) ∧ w'.cell? ⟨gy, k * 4, none⟩ = some (.bool j1) ∧ w'.cell? ⟨gy, k * 4 + 1, none⟩ = some (.slice J1 p1 q1) ∧ w'.cell? ⟨gy, k * 4 + 2, none⟩ = some (.bool j2) ∧ w'.cell? ⟨gy, k * 4 + 3, none⟩ = some (.slice J2 p2 q2))
                (go_keep)
                (first
                  | (go_at_call 17; (with_reducible refine (ref2_times_any i1 i2 I1 I2 t1 v1 t2 v2 j1 j2 J1 J2 p1 q1 p2 q2 xi yk r 67 67 _ ?_ ?_ ?_ ?_ S1.out S2.out h67 S4).mono ?_); (first | (with_reducible exact KI.at_ (by simp)) | (with_reducible exact KI.drew.at_ (by simp)) | (with_reducible exact (KI.drewN _).at_ (by simp))); (first | (with_reducible exact KI.at_ (by simp)) | (with_reducible exact KI.drew.at_ (by simp)) | (with_reducible exact (KI.drewN _).at_ (by simp))); (first | (with_reducible exact KI.at_ (by simp)) | (with_reducible exact KI.drew.at_ (by simp)) | (with_reducible exact (KI.drewN _).at_ (by simp))); (first | (with_reducible exact KI.at_ (by simp)) | (with_reducible exact KI.drew.at_ (by simp)) | (with_reducible exact (KI.drewN _).at_ (by simp))); rintro e5 w5 ⟨neg5, A5, n5, c5, ne5, B5, m5, d5, rfl, I5, J5, hb5⟩; (first | (with_reducible have D5 := DI.next hb5) | (with_reducible have D5 := DI.drew.next hb5) | (with_reducible have D5 := (DI.drewN _).next hb5)); have O5x := (D5.2.1.2 i hlt).1; rw [HFI.out] at O5x; obtain ⟨xa5, xb5, xc5, xd5⟩ := O5x; have O5y := (D5.2.2.1.2 k hlk).1; rw [HFK.out] at O5y; obtain ⟨ya5, yb5, yc5, yd5⟩ := O5y; have xl5 := D5.2.1.1; have yl5 := D5.2.2.1.1; have E5 : FrE.at_ w5 ((neg5, A5, n5, c5), (ne5, B5, m5, d5), r) := ⟨I5, J5⟩)
                  | (refine step_all (by rfl) _ _ (by rfl) ((neg5, A5, n5, c5), (ne5, B5, m5, d5), r) w5.heap.size 1 (D5.next ((Below.refl _ _).alloc (Nat.le_refl _) _)) (vs_new w5 _ _) (at_alloc E5 _) HR.out.symm hNN (by rfl) (by rfl) ?_; intro g6 cap6 w6 D6; have O6x := (D6.2.1.2 i hlt).1; rw [HFI.out] at O6x; obtain ⟨xa6, xb6, xc6, xd6⟩ := O6x; have O6y := (D6.2.2.1.2 k hlk).1; rw [HFK.out] at O6y; obtain ⟨ya6, yb6, yc6, yd6⟩ := O6y; have xl6 := D6.2.1.1; have yl6 := D6.2.2.1.1))
              all_goals go_wp2_with fail
              go_roundw
              case rel => exact ⟨k + 1, by go_num, by omega, D6⟩
              case measure => simp [intOf]; omega
            · obtain rfl : k = 2 := by omega
              go_wp2_with fail
              go_roundw
              case rel => exact ⟨i + 1, by go_num, by omega, DI⟩
              case measure => simp [intOf]; omega
        · obtain rfl : i = 2 := by omega
          have DM4 : DoM w [(w.heap.size, [.float .f64 la, .float .f64 ha]), (w.heap.size + 1, [.float .f64 lb, .float .f64 hb]), (w.heap.size + 1 + 1, [.float .f64 0, .float .f64 0])] gx gy B X Y u10 4 (corR 2 la ha lb hb) wr := DM
          obtain ⟨g, cap, rfl, hcap⟩ := DM4.row (by decide)
          obtain ⟨F, FR, HV⟩ := DM4.2.2.2.2.frs
          have HSz : Hid (∀ i, i < 4 → Sz (F i).2.2 135) := Lib.hid (fun i hi => by rw [HV i hi]; exact HS.out i)
          have HVV := Lib.hid HV
          have KF := DM4.1
          clear DM DM4 HV HS
          go_wp2_with fail
          refine (ref5_few_any g 4 cap 135 F _ FR (by decide) (by decide) hcap HSz (by decide)).mono ?_
          rintro e7 w7 ⟨a, b, hia, hib, rfl, hall, Ia, Ib, hb7⟩
          have K7 := KF.next hb7
          have HE : Hid (∀ lo hi, DownR (F a).2.2 lo → UpR (F b).2.2 hi → DoE 2 la ha lb hb (endsF lo hi)) := Lib.hid (fun lo hi hD hU => ⟨a, b, lo, hi, hia, hib, fun j hj => by
            rw [← HVV.out a hia, ← HVV.out b hib, ← HVV.out j hj]; exact hall j hj, by rw [← HVV.out a hia]; exact hD, by rw [← HVV.out b hib]; exact hU, rfl⟩)
          have SA := Lib.hid (HSz.out a hia)
          have SB := Lib.hid (HSz.out b hib)
          clear hb7 hall hia hib HVV HSz KF FR
          go_wp2_with fail
          refine (ref5_least_any (F a).1.1 (F a).2.1.1 (F a).1.2.1 (F a).2.1.2.1 (F a).1.2.2.1 (F a).1.2.2.2 (F a).2.1.2.2.1 (F a).2.1.2.2.2 (F b).1.1 (F b).2.1.1 (F b).1.2.1 (F b).2.1.2.1 (F b).1.2.2.1 (F b).1.2.2.2 (F b).2.1.2.2.1 (F b).2.1.2.2.2 (F a).2.2 (F b).2.2 135 _ Ia.1 Ia.2 Ib.1 Ib.2 SA.out SB.out (by decide)).mono ?_
          rintro e8 w8 ⟨p, ⟨lo, hi, hD, hU, rfl⟩, rfl, hb8⟩
          have K8 := K7.next hb8
          have HQ := Lib.hid (HE.out lo hi hD hU)
          generalize endsF lo hi = p at HQ ⊢
          obtain ⟨p0, p1, p2⟩ := p
          clear hD hU hb8 K7 Ia Ib HE
          obtain ⟨qa8r, qb8r, qc8r, qd8r, qe8r⟩ := (K8.blk (g := w.heap.size + 1 + 1) (vs := [.float .f64 0, .float .f64 0]) (by simp)).two
          go_wp2_with fail
          have hbw := below_result (g := w.heap.size + 1 + 1) K8.1 (by omega) (.float .f64 p0) (.float .f64 p1)
          exact bodyPost_ret (v := .tuple #[.agg #[.float .f64 p0, .float .f64 p1], .int .i64 p2]) (by simp [results, Try.results5, go_sem, qa8r, qb8r]) rfl ⟨(p0, p1, p2), HQ.out, rfl, hbw⟩
set_option maxRecDepth 100000 in
set_option maxHeartbeats 12800000 in
theorem ref5_do_3a (la ha lb hb : Nat) (b1 : la < 2 ^ 64) (b2 : ha < 2 ^ 64) (b3 : lb < 2 ^ 64) (b4 : hb < 2 ^ 64) (ha' : okS la ha = true) (hb' : okS lb hb = true) (hz : zB lb hb = false) (o2 : (Ieee.double.order lb 0 == some .lt || Ieee.double.order lb 0 == some .eq) = false) (w : World) :
    Calls Try.prog 5 #[.int .i64 3, .agg #[.float .f64 la, .float .f64 ha], .agg #[.float .f64 lb, .float .f64 hb]] w (RetSp w (DoE 3 la ha lb hb)) := by
  have K0 := ((((Mm.nil w).var (g := w.heap.size) rfl [.float .f64 la, .float .f64 ha] 24).var (g := w.heap.size + 1) (by simp) [.float .f64 lb, .float .f64 hb] 24).var (g := w.heap.size + 1 + 1) (by simp) [.float .f64 0, .float .f64 0] 24)
  have HA : Hid (okI la ha = 0) := Lib.hid (by unfold okI; rw [ha']; rfl)
  have HB : Hid (okI lb hb = 0) := Lib.hid (by unfold okI; rw [hb']; rfl)
  have HF : Hid (∀ X Y : Nat → FrE, (X 0).2.2 = fr la → (X 1).2.2 = fr ha → (Y 0).2.2 = fr lb → (Y 1).2.2 = fr hb → ∀ i k, i < 2 → k < 2 → Sz (X i).2.2 67 ∧ Sz (Y k).2.2 67 ∧ (Y k).2.2 ≠ 0 ∧ opR 3 (X i).2.2 (Y k).2.2 = corR 3 la ha lb hb (2 * i + k)) := Lib.hid (fun X Y x0 x1 y0 y1 i j hi hj => ⟨(fr_szs ha' hb' X Y x0 x1 y0 y1 i j hi hj).1, (fr_szs ha' hb' X Y x0 x1 y0 y1 i j hi hj).2, fr_nes hb' hz Y y0 y1 j hj, cor_at 3 X Y x0 x1 y0 y1 i j hi hj⟩)
  have HS : Hid (∀ j, Sz (corR 3 la ha lb hb j) 135) := Lib.hid (cor_sz 3 ha' hb' (fun _ => hz))

  clear hz

  obtain ⟨xla, hxla⟩ : ∃ x, fr la = x := ⟨_, rfl⟩
  rw [hxla] at HF
  have HXla := Lib.hid hxla
  clear hxla
  obtain ⟨xha, hxha⟩ : ∃ x, fr ha = x := ⟨_, rfl⟩
  rw [hxha] at HF
  have HXha := Lib.hid hxha
  clear hxha
  obtain ⟨xlb, hxlb⟩ : ∃ x, fr lb = x := ⟨_, rfl⟩
  rw [hxlb] at HF
  have HXlb := Lib.hid hxlb
  clear hxlb
  obtain ⟨xhb, hxhb⟩ : ∃ x, fr hb = x := ⟨_, rfl⟩
  rw [hxhb] at HF
  have HXhb := Lib.hid hxhb
  clear hxhb
  clear ha' hb'
  go_enter Try.func5, Try.ntmps5
  go_wp2_with fail
  generalize ((w.alloc (.cells #[.float .f64 la, .float .f64 ha] 24)).alloc (.cells #[.float .f64 lb, .float .f64 hb] 24)).alloc (.cells #[.float .f64 0, .float .f64 0] 24) = w0 at K0 ⊢
  obtain ⟨qa0x, qb0x, qc0x, qd0x, qe0x⟩ := (K0.blk (g := w.heap.size) (vs := [.float .f64 la, .float .f64 ha]) (by simp)).two
  obtain ⟨qa0y, qb0y, qc0y, qd0y, qe0y⟩ := (K0.blk (g := w.heap.size + 1) (vs := [.float .f64 lb, .float .f64 hb]) (by simp)).two
  obtain ⟨qa0r, qb0r, qc0r, qd0r, qe0r⟩ := (K0.blk (g := w.heap.size + 1 + 1) (vs := [.float .f64 0, .float .f64 0]) (by simp)).two
  go_wp2_with fail
  refine (ref_check_any la ha _).mono ?_
  rintro e1 w1 ⟨rfl, hb1⟩
  rw [HA.out]
  have K1 := K0.next hb1
  clear hb1 K0
  obtain ⟨qa1x, qb1x, qc1x, qd1x, qe1x⟩ := (K1.blk (g := w.heap.size) (vs := [.float .f64 la, .float .f64 ha]) (by simp)).two
  obtain ⟨qa1y, qb1y, qc1y, qd1y, qe1y⟩ := (K1.blk (g := w.heap.size + 1) (vs := [.float .f64 lb, .float .f64 hb]) (by simp)).two
  obtain ⟨qa1r, qb1r, qc1r, qd1r, qe1r⟩ := (K1.blk (g := w.heap.size + 1 + 1) (vs := [.float .f64 0, .float .f64 0]) (by simp)).two
  go_wp2_with fail
  refine (ref_check_any lb hb _).mono ?_
  rintro e2 w2 ⟨rfl, hb2⟩
  rw [HB.out]
  have K2 := K1.next hb2
  clear hb2 K1
  obtain ⟨qa2x, qb2x, qc2x, qd2x, qe2x⟩ := (K2.blk (g := w.heap.size) (vs := [.float .f64 la, .float .f64 ha]) (by simp)).two
  obtain ⟨qa2y, qb2y, qc2y, qd2y, qe2y⟩ := (K2.blk (g := w.heap.size + 1) (vs := [.float .f64 lb, .float .f64 hb]) (by simp)).two
  obtain ⟨qa2r, qb2r, qc2r, qd2r, qe2r⟩ := (K2.blk (g := w.heap.size + 1 + 1) (vs := [.float .f64 0, .float .f64 0]) (by simp)).two
  go_upto_region 5 with (fail)
  go_cut [8] from 35 to 41 (fun s8 wx => ∃ (gx : Nat) (X : Nat → FrE), s8 = .slice (some ⟨gx, 0, none⟩) 2 2 ∧ Hid ((X 0).2.2 = xla ∧ (X 1).2.2 = xha) ∧ Frs wx gx 2 X ∧ Mm w [(w.heap.size, [.float .f64 la, .float .f64 ha]), (w.heap.size + 1, [.float .f64 lb, .float .f64 hb]), (w.heap.size + 1 + 1, [.float .f64 0, .float .f64 0])] [] wx)
  case first =>
    go_region_held3 (fun w' => w'.cell? ⟨w.heap.size, 0, none⟩ = some (.float .f64 la) ∧ w'.cell? ⟨w.heap.size, 1, none⟩ = some (.float .f64 ha))
      (go_keep)
      (first
        | (go_at_call 14; (with_reducible refine (ref2_float_any la b1 _).mono ?_); rintro e3 w3 ⟨neg3, A3, n3, c3, ne3, B3, m3, d3, rfl, I3, J3, hb3⟩; rw [HXla.out] at I3 J3; (first | (with_reducible have K3 := ((K2.next hb3).int J3).int I3) | (with_reducible have K3 := ((K2.drew.next hb3).int J3).int I3) | (with_reducible have K3 := (((K2.drewN _).next hb3).int J3).int I3)); have Q3x := (K3.blk (g := w.heap.size) (vs := [.float .f64 la, .float .f64 ha]) (by simp)).two; obtain ⟨qa3x, qb3x, qc3x, qd3x, qe3x⟩ := Q3x; have Q3y := (K3.blk (g := w.heap.size + 1) (vs := [.float .f64 lb, .float .f64 hb]) (by simp)).two; obtain ⟨qa3y, qb3y, qc3y, qd3y, qe3y⟩ := Q3y; clear I3 J3 hb3)
        | (go_at_call 14; (with_reducible refine (ref2_float_any ha b2 _).mono ?_); rintro e4 w4 ⟨neg4, A4, n4, c4, ne4, B4, m4, d4, rfl, I4, J4, hb4⟩; rw [HXha.out] at I4 J4; (first | (with_reducible have K4 := ((K3.next hb4).int J4).int I4) | (with_reducible have K4 := ((K3.drew.next hb4).int J4).int I4) | (with_reducible have K4 := (((K3.drewN _).next hb4).int J4).int I4)); have Q4x := (K4.blk (g := w.heap.size) (vs := [.float .f64 la, .float .f64 ha]) (by simp)).two; obtain ⟨qa4x, qb4x, qc4x, qd4x, qe4x⟩ := Q4x; have Q4y := (K4.blk (g := w.heap.size + 1) (vs := [.float .f64 lb, .float .f64 hb]) (by simp)).two; obtain ⟨qa4y, qb4y, qc4y, qd4y, qe4y⟩ := Q4y; clear I4 J4 hb4))
    all_goals (go_wp2_with fail)
    all_goals go_meet
    all_goals first
      | exact ⟨w4.heap.size, two2 ((neg3, A3, n3, c3), (ne3, B3, m3, d3), xla) ((neg4, A4, n4, c4), (ne4, B4, m4, d4), xha), rfl, Lib.hid ⟨two2_l rfl, two2_r rfl⟩, frs_two w4 rfl ((neg3, A3, n3, c3), (ne3, B3, m3, d3), xla) ((neg4, A4, n4, c4), (ne4, B4, m4, d4), xha) ⟨K4.at_ (by simp), K4.at_ (by simp)⟩ ⟨K4.at_ (by simp), K4.at_ (by simp)⟩ _, (K4.box _).pick (by simp) (by simp)⟩
      | exact ⟨w4.heap.size, two2 ((neg3, A3, n3, c3), (ne3, B3, m3, d3), xla) ((neg4, A4, n4, c4), (ne4, B4, m4, d4), xha), rfl, Lib.hid ⟨two2_l rfl, two2_r rfl⟩, (frs_two w4 rfl ((neg3, A3, n3, c3), (ne3, B3, m3, d3), xla) ((neg4, A4, n4, c4), (ne4, B4, m4, d4), xha) ⟨K4.at_ (by simp), K4.at_ (by simp)⟩ ⟨K4.at_ (by simp), K4.at_ (by simp)⟩ _).next ⟨rfl, rfl, rfl, Nat.le_refl _, fun _ _ => rfl⟩, ((K4.box _).drew).pick (by simp) (by simp)⟩
  case rest =>
    obtain ⟨gx, X, rfl, HX, FX, K3⟩ := hcut
    clear K2 qa0x qb0x qc0x qd0x qe0x qa0y qb0y qc0y qd0y qe0y qa0r qb0r qc0r qd0r qe0r qa1x qb1x qc1x qd1x qe1x qa1y qb1y qc1y qd1y qe1y qa1r qb1r qc1r qd1r qe1r qa2x qb2x qc2x qd2x qe2x qa2y qb2y qc2y qd2y qe2y qa2r qb2r qc2r qd2r qe2r
    obtain ⟨qa2y, qb2y, qc2y, qd2y, qe2y⟩ := (K3.blk (g := w.heap.size + 1) (vs := [.float .f64 lb, .float .f64 hb]) (by simp)).two
    go_upto_region 6 with (fail)
    go_cut [9] from 42 to 48 (fun s9 wx => ∃ (gy : Nat) (Y : Nat → FrE), s9 = .slice (some ⟨gy, 0, none⟩) 2 2 ∧ Hid ((Y 0).2.2 = xlb ∧ (Y 1).2.2 = xhb) ∧ Frs wx gx 2 X ∧ Frs wx gy 2 Y ∧ Mm w [(w.heap.size, [.float .f64 la, .float .f64 ha]), (w.heap.size + 1, [.float .f64 lb, .float .f64 hb]), (w.heap.size + 1 + 1, [.float .f64 0, .float .f64 0])] [] wx)
    case first =>
      go_region_held3 (fun w' => w'.cell? ⟨w.heap.size + 1, 0, none⟩ = some (.float .f64 lb) ∧ w'.cell? ⟨w.heap.size + 1, 1, none⟩ = some (.float .f64 hb))
        (go_keep)
        (first
          | (go_at_call 14; (with_reducible refine (ref2_float_any lb b3 _).mono ?_); rintro e4 w4 ⟨neg4, A4, n4, c4, ne4, B4, m4, d4, rfl, I4, J4, hb4⟩; rw [HXlb.out] at I4 J4; (first | (with_reducible have K4 := ((K3.next hb4).int J4).int I4) | (with_reducible have K4 := ((K3.drew.next hb4).int J4).int I4) | (with_reducible have K4 := (((K3.drewN _).next hb4).int J4).int I4)); have Q4x := (K4.blk (g := w.heap.size) (vs := [.float .f64 la, .float .f64 ha]) (by simp)).two; obtain ⟨qa4x, qb4x, qc4x, qd4x, qe4x⟩ := Q4x; have Q4y := (K4.blk (g := w.heap.size + 1) (vs := [.float .f64 lb, .float .f64 hb]) (by simp)).two; obtain ⟨qa4y, qb4y, qc4y, qd4y, qe4y⟩ := Q4y; have FX4 := FX.next (by first | exact hb4 | exact below_of_drew hb4 | exact below_of_drewN hb4); clear I4 J4 hb4)
          | (go_at_call 14; (with_reducible refine (ref2_float_any hb b4 _).mono ?_); rintro e5 w5 ⟨neg5, A5, n5, c5, ne5, B5, m5, d5, rfl, I5, J5, hb5⟩; rw [HXhb.out] at I5 J5; (first | (with_reducible have K5 := ((K4.next hb5).int J5).int I5) | (with_reducible have K5 := ((K4.drew.next hb5).int J5).int I5) | (with_reducible have K5 := (((K4.drewN _).next hb5).int J5).int I5)); have Q5x := (K5.blk (g := w.heap.size) (vs := [.float .f64 la, .float .f64 ha]) (by simp)).two; obtain ⟨qa5x, qb5x, qc5x, qd5x, qe5x⟩ := Q5x; have Q5y := (K5.blk (g := w.heap.size + 1) (vs := [.float .f64 lb, .float .f64 hb]) (by simp)).two; obtain ⟨qa5y, qb5y, qc5y, qd5y, qe5y⟩ := Q5y; have FX5 := FX4.next (by first | exact hb5 | exact below_of_drew hb5 | exact below_of_drewN hb5); clear I5 J5 hb5))
      all_goals (go_wp2_with fail)
      all_goals go_meet
      all_goals first
        | exact ⟨w5.heap.size, two2 ((neg4, A4, n4, c4), (ne4, B4, m4, d4), xlb) ((neg5, A5, n5, c5), (ne5, B5, m5, d5), xhb), rfl, Lib.hid ⟨two2_l rfl, two2_r rfl⟩, FX5.next ((Below.refl _ _).alloc (Nat.le_refl _) _), frs_two w5 rfl ((neg4, A4, n4, c4), (ne4, B4, m4, d4), xlb) ((neg5, A5, n5, c5), (ne5, B5, m5, d5), xhb) ⟨K5.at_ (by simp), K5.at_ (by simp)⟩ ⟨K5.at_ (by simp), K5.at_ (by simp)⟩ _, (K5.box _).pick (by simp) (by simp)⟩
        | exact ⟨w5.heap.size, two2 ((neg4, A4, n4, c4), (ne4, B4, m4, d4), xlb) ((neg5, A5, n5, c5), (ne5, B5, m5, d5), xhb), rfl, Lib.hid ⟨two2_l rfl, two2_r rfl⟩, (FX5.next ((Below.refl _ _).alloc (Nat.le_refl _) _)).next ⟨rfl, rfl, rfl, Nat.le_refl _, fun _ _ => rfl⟩, (frs_two w5 rfl ((neg4, A4, n4, c4), (ne4, B4, m4, d4), xlb) ((neg5, A5, n5, c5), (ne5, B5, m5, d5), xhb) ⟨K5.at_ (by simp), K5.at_ (by simp)⟩ ⟨K5.at_ (by simp), K5.at_ (by simp)⟩ _).next ⟨rfl, rfl, rfl, Nat.le_refl _, fun _ _ => rfl⟩, ((K5.box _).drew).pick (by simp) (by simp)⟩
    case rest =>
      obtain ⟨gy, Y, rfl, HY, FX2, FY, K4⟩ := hcut
      clear FX K3 qa2y qb2y qc2y qd2y qe2y
      have HH : Hid (∀ i k, i < 2 → k < 2 → Sz (X i).2.2 67 ∧ Sz (Y k).2.2 67 ∧ (Y k).2.2 ≠ 0 ∧ opR 3 (X i).2.2 (Y k).2.2 = corR 3 la ha lb hb (2 * i + k)) := Lib.hid (HF.out X Y HX.out.1 HX.out.2 HY.out.1 HY.out.2)
      have D0 := dom_nil K4 FX2 FY (corR 3 la ha lb hb)
      obtain ⟨B, hB⟩ : ∃ B, wc.heap.size = B := ⟨_, rfl⟩
      rw [hB] at D0
      clear hB
      clear HX HY HF FX2 FY K4
      go_wp2_with fail
      go_loopw [10, 11] (fun av iv wr => ∃ i : Nat, iv = .int .i64 (i : Int) ∧ i ≤ 2 ∧ DoM w [(w.heap.size, [.float .f64 la, .float .f64 ha]), (w.heap.size + 1, [.float .f64 lb, .float .f64 hb]), (w.heap.size + 1 + 1, [.float .f64 0, .float .f64 0])] gx gy B X Y av (2 * i) (corR 3 la ha lb hb) wr) (fun _ i _ => 2 - (intOf i).toNat)
      case atStart => exact ⟨0, rfl, by decide, D0⟩
      case round =>
        obtain ⟨i, rfl, hi2, DM⟩ := hrel
        clear D0
        by_cases hlt : i < 2
        · have hlt' : (i : Int) < 2 := by omega
          go_wp2_with fail
          go_loopw [10, 12] (fun av kv wr => ∃ k : Nat, kv = .int .i64 (k : Int) ∧ k ≤ 2 ∧ DoM w [(w.heap.size, [.float .f64 la, .float .f64 ha]), (w.heap.size + 1, [.float .f64 lb, .float .f64 hb]), (w.heap.size + 1 + 1, [.float .f64 0, .float .f64 0])] gx gy B X Y av (2 * i + k) (corR 3 la ha lb hb) wr) (fun _ k _ => 2 - (intOf k).toNat)
          case atStart => exact ⟨0, rfl, by decide, DM⟩
          case round =>
            obtain ⟨k, rfl, hk2, DI⟩ := hrel
            clear DM
            by_cases hlk : k < 2
            · have hlk' : (k : Int) < 2 := by omega
              obtain ⟨⟨c0, c1, c2, c3⟩, ci⟩ := DI.2.1.2 i hlt
              obtain ⟨⟨d0, d1, d2, d3⟩, di⟩ := DI.2.2.1.2 k hlk
              obtain ⟨s1, s2, s3, s4⟩ := HH.out i k hlt hlk
              obtain ⟨fi, hfi⟩ : ∃ f, X i = f := ⟨_, rfl⟩
              obtain ⟨fk, hfk⟩ : ∃ f, Y k = f := ⟨_, rfl⟩
              obtain ⟨r, hr⟩ : ∃ r, corR 3 la ha lb hb (2 * i + k) = r := ⟨_, rfl⟩
              rw [hfi] at c0 c1 c2 c3 ci s1 s4
              rw [hfk] at d0 d1 d2 d3 di s2 s3 s4
              rw [hr] at s4
              obtain ⟨⟨i1, I1, t1, v1⟩, ⟨i2, I2, t2, v2⟩, xi⟩ := fi
              obtain ⟨⟨j1, J1, p1, q1⟩, ⟨j2, J2, p2, q2⟩, yk⟩ := fk
              have S1 := Lib.hid s1
              have S2 := Lib.hid s2
              have S3 := Lib.hid s3
              have S4 : Hid (xi / yk = r) := Lib.hid s4
              have HR := Lib.hid hr
              have HFI := Lib.hid hfi
              have HFK := Lib.hid hfk
              have KI := (((DI.1.int ci.1).int ci.2).int di.1).int di.2
              have gxl := DI.2.1.1
              have gyl := DI.2.2.1.1
              have hi0 : (0 : Int) ≤ (i : Int) := Int.natCast_nonneg _
              have hk0 : (0 : Int) ≤ (k : Int) := Int.natCast_nonneg _
              have h67 : 67 + 67 < 1000000 := by decide
              have hNN : 2 * i + k ≤ 1000 := by omega
              clear s1 s2 s3 s4 hr hfi hfk ci di
              go_wp2_with fail
              go_region_held3 (fun w' => w'.cell? ⟨gx, i * 4, none⟩ = some (.bool i1) ∧ w'.cell? ⟨gx, i * 4 + 1, none⟩ = some (.slice I1 t1 v1) ∧ w'.cell? ⟨gx, i * 4 + 2, none⟩ = some (.bool i2) ∧ w'.cell? ⟨gx, i * 4 + 3, none⟩ = some (.slice I2 t2 v2) ∧ w'.cell? ⟨gy, k * 4, none⟩ = some (.bool j1) ∧ w'.cell? ⟨gy, k * 4 + 1, none⟩ = some (.slice J1 p1 q1) ∧ w'.cell? ⟨gy, k * 4 + 2, none⟩ = some (.bool j2) ∧ w'.cell? ⟨gy, k * 4 + 3, none⟩ = some (.slice J2 p2 q2))
                (go_keep)
                (first
                  | (go_at_call 18; (with_reducible refine (ref2_over_any i1 i2 I1 I2 t1 v1 t2 v2 j1 j2 J1 J2 p1 q1 p2 q2 xi yk r 67 67 _ ?_ ?_ ?_ ?_ S1.out S2.out h67 S3.out S4).mono ?_); (first | (with_reducible exact KI.at_ (by simp)) | (with_reducible exact KI.drew.at_ (by simp)) | (with_reducible exact (KI.drewN _).at_ (by simp))); (first | (with_reducible exact KI.at_ (by simp)) | (with_reducible exact KI.drew.at_ (by simp)) | (with_reducible exact (KI.drewN _).at_ (by simp))); (first | (with_reducible exact KI.at_ (by simp)) | (with_reducible exact KI.drew.at_ (by simp)) | (with_reducible exact (KI.drewN _).at_ (by simp))); (first | (with_reducible exact KI.at_ (by simp)) | (with_reducible exact KI.drew.at_ (by simp)) | (with_reducible exact (KI.drewN _).at_ (by simp))); rintro e5 w5 ⟨neg5, A5, n5, c5, ne5, B5, m5, d5, rfl, I5, J5, hb5⟩; (first | (with_reducible have D5 := DI.next hb5) | (with_reducible have D5 := DI.drew.next hb5) | (with_reducible have D5 := (DI.drewN _).next hb5)); have O5x := (D5.2.1.2 i hlt).1; rw [HFI.out] at O5x; obtain ⟨xa5, xb5, xc5, xd5⟩ := O5x; have O5y := (D5.2.2.1.2 k hlk).1; rw [HFK.out] at O5y; obtain ⟨ya5, yb5, yc5, yd5⟩ := O5y; have xl5 := D5.2.1.1; have yl5 := D5.2.2.1.1; have E5 : FrE.at_ w5 ((neg5, A5, n5, c5), (ne5, B5, m5, d5), r) := ⟨I5, J5⟩)
                  | (refine step_all (by rfl) _ _ (by rfl) ((neg5, A5, n5, c5), (ne5, B5, m5, d5), r) w5.heap.size 1 (D5.next ((Below.refl _ _).alloc (Nat.le_refl _) _)) (vs_new w5 _ _) (at_alloc E5 _) HR.out.symm hNN (by rfl) (by rfl) ?_; intro g6 cap6 w6 D6; have O6x := (D6.2.1.2 i hlt).1; rw [HFI.out] at O6x; obtain ⟨xa6, xb6, xc6, xd6⟩ := O6x; have O6y := (D6.2.2.1.2 k hlk).1; rw [HFK.out] at O6y; obtain ⟨ya6, yb6, yc6, yd6⟩ := O6y; have xl6 := D6.2.1.1; have yl6 := D6.2.2.1.1))
              all_goals go_wp2_with fail
              go_roundw
              case rel => exact ⟨k + 1, by go_num, by omega, D6⟩
              case measure => simp [intOf]; omega
            · obtain rfl : k = 2 := by omega
              go_wp2_with fail
              go_roundw
              case rel => exact ⟨i + 1, by go_num, by omega, DI⟩
              case measure => simp [intOf]; omega
        · obtain rfl : i = 2 := by omega
          have DM4 : DoM w [(w.heap.size, [.float .f64 la, .float .f64 ha]), (w.heap.size + 1, [.float .f64 lb, .float .f64 hb]), (w.heap.size + 1 + 1, [.float .f64 0, .float .f64 0])] gx gy B X Y u10 4 (corR 3 la ha lb hb) wr := DM
          obtain ⟨g, cap, rfl, hcap⟩ := DM4.row (by decide)
          obtain ⟨F, FR, HV⟩ := DM4.2.2.2.2.frs
          have HSz : Hid (∀ i, i < 4 → Sz (F i).2.2 135) := Lib.hid (fun i hi => by rw [HV i hi]; exact HS.out i)
          have HVV := Lib.hid HV
          have KF := DM4.1
          clear DM DM4 HV HS
          go_wp2_with fail
          refine (ref5_few_any g 4 cap 135 F _ FR (by decide) (by decide) hcap HSz (by decide)).mono ?_
          rintro e7 w7 ⟨a, b, hia, hib, rfl, hall, Ia, Ib, hb7⟩
          have K7 := KF.next hb7
          have HE : Hid (∀ lo hi, DownR (F a).2.2 lo → UpR (F b).2.2 hi → DoE 3 la ha lb hb (endsF lo hi)) := Lib.hid (fun lo hi hD hU => ⟨a, b, lo, hi, hia, hib, fun j hj => by
            rw [← HVV.out a hia, ← HVV.out b hib, ← HVV.out j hj]; exact hall j hj, by rw [← HVV.out a hia]; exact hD, by rw [← HVV.out b hib]; exact hU, rfl⟩)
          have SA := Lib.hid (HSz.out a hia)
          have SB := Lib.hid (HSz.out b hib)
          clear hb7 hall hia hib HVV HSz KF FR
          go_wp2_with fail
          refine (ref5_least_any (F a).1.1 (F a).2.1.1 (F a).1.2.1 (F a).2.1.2.1 (F a).1.2.2.1 (F a).1.2.2.2 (F a).2.1.2.2.1 (F a).2.1.2.2.2 (F b).1.1 (F b).2.1.1 (F b).1.2.1 (F b).2.1.2.1 (F b).1.2.2.1 (F b).1.2.2.2 (F b).2.1.2.2.1 (F b).2.1.2.2.2 (F a).2.2 (F b).2.2 135 _ Ia.1 Ia.2 Ib.1 Ib.2 SA.out SB.out (by decide)).mono ?_
          rintro e8 w8 ⟨p, ⟨lo, hi, hD, hU, rfl⟩, rfl, hb8⟩
          have K8 := K7.next hb8
          have HQ := Lib.hid (HE.out lo hi hD hU)
          generalize endsF lo hi = p at HQ ⊢
          obtain ⟨p0, p1, p2⟩ := p
          clear hD hU hb8 K7 Ia Ib HE
          obtain ⟨qa8r, qb8r, qc8r, qd8r, qe8r⟩ := (K8.blk (g := w.heap.size + 1 + 1) (vs := [.float .f64 0, .float .f64 0]) (by simp)).two
          go_wp2_with fail
          have hbw := below_result (g := w.heap.size + 1 + 1) K8.1 (by omega) (.float .f64 p0) (.float .f64 p1)
          exact bodyPost_ret (v := .tuple #[.agg #[.float .f64 p0, .float .f64 p1], .int .i64 p2]) (by simp [results, Try.results5, go_sem, qa8r, qb8r]) rfl ⟨(p0, p1, p2), HQ.out, rfl, hbw⟩
set_option maxRecDepth 100000 in
set_option maxHeartbeats 12800000 in
theorem ref5_do_3b (la ha lb hb : Nat) (b1 : la < 2 ^ 64) (b2 : ha < 2 ^ 64) (b3 : lb < 2 ^ 64) (b4 : hb < 2 ^ 64) (ha' : okS la ha = true) (hb' : okS lb hb = true) (hz : zB lb hb = false) (o2 : (Ieee.double.order lb 0 == some .lt || Ieee.double.order lb 0 == some .eq) = true) (o3 : (Ieee.double.order hb 0 == some .gt || Ieee.double.order hb 0 == some .eq) = false) (w : World) :
    Calls Try.prog 5 #[.int .i64 3, .agg #[.float .f64 la, .float .f64 ha], .agg #[.float .f64 lb, .float .f64 hb]] w (RetSp w (DoE 3 la ha lb hb)) := by
  have K0 := ((((Mm.nil w).var (g := w.heap.size) rfl [.float .f64 la, .float .f64 ha] 24).var (g := w.heap.size + 1) (by simp) [.float .f64 lb, .float .f64 hb] 24).var (g := w.heap.size + 1 + 1) (by simp) [.float .f64 0, .float .f64 0] 24)
  have HA : Hid (okI la ha = 0) := Lib.hid (by unfold okI; rw [ha']; rfl)
  have HB : Hid (okI lb hb = 0) := Lib.hid (by unfold okI; rw [hb']; rfl)
  have HF : Hid (∀ X Y : Nat → FrE, (X 0).2.2 = fr la → (X 1).2.2 = fr ha → (Y 0).2.2 = fr lb → (Y 1).2.2 = fr hb → ∀ i k, i < 2 → k < 2 → Sz (X i).2.2 67 ∧ Sz (Y k).2.2 67 ∧ (Y k).2.2 ≠ 0 ∧ opR 3 (X i).2.2 (Y k).2.2 = corR 3 la ha lb hb (2 * i + k)) := Lib.hid (fun X Y x0 x1 y0 y1 i j hi hj => ⟨(fr_szs ha' hb' X Y x0 x1 y0 y1 i j hi hj).1, (fr_szs ha' hb' X Y x0 x1 y0 y1 i j hi hj).2, fr_nes hb' hz Y y0 y1 j hj, cor_at 3 X Y x0 x1 y0 y1 i j hi hj⟩)
  have HS : Hid (∀ j, Sz (corR 3 la ha lb hb j) 135) := Lib.hid (cor_sz 3 ha' hb' (fun _ => hz))

  clear hz

  obtain ⟨xla, hxla⟩ : ∃ x, fr la = x := ⟨_, rfl⟩
  rw [hxla] at HF
  have HXla := Lib.hid hxla
  clear hxla
  obtain ⟨xha, hxha⟩ : ∃ x, fr ha = x := ⟨_, rfl⟩
  rw [hxha] at HF
  have HXha := Lib.hid hxha
  clear hxha
  obtain ⟨xlb, hxlb⟩ : ∃ x, fr lb = x := ⟨_, rfl⟩
  rw [hxlb] at HF
  have HXlb := Lib.hid hxlb
  clear hxlb
  obtain ⟨xhb, hxhb⟩ : ∃ x, fr hb = x := ⟨_, rfl⟩
  rw [hxhb] at HF
  have HXhb := Lib.hid hxhb
  clear hxhb
  clear ha' hb'
  go_enter Try.func5, Try.ntmps5
  go_wp2_with fail
  generalize ((w.alloc (.cells #[.float .f64 la, .float .f64 ha] 24)).alloc (.cells #[.float .f64 lb, .float .f64 hb] 24)).alloc (.cells #[.float .f64 0, .float .f64 0] 24) = w0 at K0 ⊢
  obtain ⟨qa0x, qb0x, qc0x, qd0x, qe0x⟩ := (K0.blk (g := w.heap.size) (vs := [.float .f64 la, .float .f64 ha]) (by simp)).two
  obtain ⟨qa0y, qb0y, qc0y, qd0y, qe0y⟩ := (K0.blk (g := w.heap.size + 1) (vs := [.float .f64 lb, .float .f64 hb]) (by simp)).two
  obtain ⟨qa0r, qb0r, qc0r, qd0r, qe0r⟩ := (K0.blk (g := w.heap.size + 1 + 1) (vs := [.float .f64 0, .float .f64 0]) (by simp)).two
  go_wp2_with fail
  refine (ref_check_any la ha _).mono ?_
  rintro e1 w1 ⟨rfl, hb1⟩
  rw [HA.out]
  have K1 := K0.next hb1
  clear hb1 K0
  obtain ⟨qa1x, qb1x, qc1x, qd1x, qe1x⟩ := (K1.blk (g := w.heap.size) (vs := [.float .f64 la, .float .f64 ha]) (by simp)).two
  obtain ⟨qa1y, qb1y, qc1y, qd1y, qe1y⟩ := (K1.blk (g := w.heap.size + 1) (vs := [.float .f64 lb, .float .f64 hb]) (by simp)).two
  obtain ⟨qa1r, qb1r, qc1r, qd1r, qe1r⟩ := (K1.blk (g := w.heap.size + 1 + 1) (vs := [.float .f64 0, .float .f64 0]) (by simp)).two
  go_wp2_with fail
  refine (ref_check_any lb hb _).mono ?_
  rintro e2 w2 ⟨rfl, hb2⟩
  rw [HB.out]
  have K2 := K1.next hb2
  clear hb2 K1
  obtain ⟨qa2x, qb2x, qc2x, qd2x, qe2x⟩ := (K2.blk (g := w.heap.size) (vs := [.float .f64 la, .float .f64 ha]) (by simp)).two
  obtain ⟨qa2y, qb2y, qc2y, qd2y, qe2y⟩ := (K2.blk (g := w.heap.size + 1) (vs := [.float .f64 lb, .float .f64 hb]) (by simp)).two
  obtain ⟨qa2r, qb2r, qc2r, qd2r, qe2r⟩ := (K2.blk (g := w.heap.size + 1 + 1) (vs := [.float .f64 0, .float .f64 0]) (by simp)).two
  go_upto_region 5 with (fail)
  go_cut [8] from 35 to 41 (fun s8 wx => ∃ (gx : Nat) (X : Nat → FrE), s8 = .slice (some ⟨gx, 0, none⟩) 2 2 ∧ Hid ((X 0).2.2 = xla ∧ (X 1).2.2 = xha) ∧ Frs wx gx 2 X ∧ Mm w [(w.heap.size, [.float .f64 la, .float .f64 ha]), (w.heap.size + 1, [.float .f64 lb, .float .f64 hb]), (w.heap.size + 1 + 1, [.float .f64 0, .float .f64 0])] [] wx)
  case first =>
    go_region_held3 (fun w' => w'.cell? ⟨w.heap.size, 0, none⟩ = some (.float .f64 la) ∧ w'.cell? ⟨w.heap.size, 1, none⟩ = some (.float .f64 ha))
      (go_keep)
      (first
        | (go_at_call 14; (with_reducible refine (ref2_float_any la b1 _).mono ?_); rintro e3 w3 ⟨neg3, A3, n3, c3, ne3, B3, m3, d3, rfl, I3, J3, hb3⟩; rw [HXla.out] at I3 J3; (first | (with_reducible have K3 := ((K2.next hb3).int J3).int I3) | (with_reducible have K3 := ((K2.drew.next hb3).int J3).int I3) | (with_reducible have K3 := (((K2.drewN _).next hb3).int J3).int I3)); have Q3x := (K3.blk (g := w.heap.size) (vs := [.float .f64 la, .float .f64 ha]) (by simp)).two; obtain ⟨qa3x, qb3x, qc3x, qd3x, qe3x⟩ := Q3x; have Q3y := (K3.blk (g := w.heap.size + 1) (vs := [.float .f64 lb, .float .f64 hb]) (by simp)).two; obtain ⟨qa3y, qb3y, qc3y, qd3y, qe3y⟩ := Q3y; clear I3 J3 hb3)
        | (go_at_call 14; (with_reducible refine (ref2_float_any ha b2 _).mono ?_); rintro e4 w4 ⟨neg4, A4, n4, c4, ne4, B4, m4, d4, rfl, I4, J4, hb4⟩; rw [HXha.out] at I4 J4; (first | (with_reducible have K4 := ((K3.next hb4).int J4).int I4) | (with_reducible have K4 := ((K3.drew.next hb4).int J4).int I4) | (with_reducible have K4 := (((K3.drewN _).next hb4).int J4).int I4)); have Q4x := (K4.blk (g := w.heap.size) (vs := [.float .f64 la, .float .f64 ha]) (by simp)).two; obtain ⟨qa4x, qb4x, qc4x, qd4x, qe4x⟩ := Q4x; have Q4y := (K4.blk (g := w.heap.size + 1) (vs := [.float .f64 lb, .float .f64 hb]) (by simp)).two; obtain ⟨qa4y, qb4y, qc4y, qd4y, qe4y⟩ := Q4y; clear I4 J4 hb4))
    all_goals (go_wp2_with fail)
    all_goals go_meet
    all_goals first
      | exact ⟨w4.heap.size, two2 ((neg3, A3, n3, c3), (ne3, B3, m3, d3), xla) ((neg4, A4, n4, c4), (ne4, B4, m4, d4), xha), rfl, Lib.hid ⟨two2_l rfl, two2_r rfl⟩, frs_two w4 rfl ((neg3, A3, n3, c3), (ne3, B3, m3, d3), xla) ((neg4, A4, n4, c4), (ne4, B4, m4, d4), xha) ⟨K4.at_ (by simp), K4.at_ (by simp)⟩ ⟨K4.at_ (by simp), K4.at_ (by simp)⟩ _, (K4.box _).pick (by simp) (by simp)⟩
      | exact ⟨w4.heap.size, two2 ((neg3, A3, n3, c3), (ne3, B3, m3, d3), xla) ((neg4, A4, n4, c4), (ne4, B4, m4, d4), xha), rfl, Lib.hid ⟨two2_l rfl, two2_r rfl⟩, (frs_two w4 rfl ((neg3, A3, n3, c3), (ne3, B3, m3, d3), xla) ((neg4, A4, n4, c4), (ne4, B4, m4, d4), xha) ⟨K4.at_ (by simp), K4.at_ (by simp)⟩ ⟨K4.at_ (by simp), K4.at_ (by simp)⟩ _).next ⟨rfl, rfl, rfl, Nat.le_refl _, fun _ _ => rfl⟩, ((K4.box _).drew).pick (by simp) (by simp)⟩
  case rest =>
    obtain ⟨gx, X, rfl, HX, FX, K3⟩ := hcut
    clear K2 qa0x qb0x qc0x qd0x qe0x qa0y qb0y qc0y qd0y qe0y qa0r qb0r qc0r qd0r qe0r qa1x qb1x qc1x qd1x qe1x qa1y qb1y qc1y qd1y qe1y qa1r qb1r qc1r qd1r qe1r qa2x qb2x qc2x qd2x qe2x qa2y qb2y qc2y qd2y qe2y qa2r qb2r qc2r qd2r qe2r
    obtain ⟨qa2y, qb2y, qc2y, qd2y, qe2y⟩ := (K3.blk (g := w.heap.size + 1) (vs := [.float .f64 lb, .float .f64 hb]) (by simp)).two
    go_upto_region 6 with (fail)
    go_cut [9] from 42 to 48 (fun s9 wx => ∃ (gy : Nat) (Y : Nat → FrE), s9 = .slice (some ⟨gy, 0, none⟩) 2 2 ∧ Hid ((Y 0).2.2 = xlb ∧ (Y 1).2.2 = xhb) ∧ Frs wx gx 2 X ∧ Frs wx gy 2 Y ∧ Mm w [(w.heap.size, [.float .f64 la, .float .f64 ha]), (w.heap.size + 1, [.float .f64 lb, .float .f64 hb]), (w.heap.size + 1 + 1, [.float .f64 0, .float .f64 0])] [] wx)
    case first =>
      go_region_held3 (fun w' => w'.cell? ⟨w.heap.size + 1, 0, none⟩ = some (.float .f64 lb) ∧ w'.cell? ⟨w.heap.size + 1, 1, none⟩ = some (.float .f64 hb))
        (go_keep)
        (first
          | (go_at_call 14; (with_reducible refine (ref2_float_any lb b3 _).mono ?_); rintro e4 w4 ⟨neg4, A4, n4, c4, ne4, B4, m4, d4, rfl, I4, J4, hb4⟩; rw [HXlb.out] at I4 J4; (first | (with_reducible have K4 := ((K3.next hb4).int J4).int I4) | (with_reducible have K4 := ((K3.drew.next hb4).int J4).int I4) | (with_reducible have K4 := (((K3.drewN _).next hb4).int J4).int I4)); have Q4x := (K4.blk (g := w.heap.size) (vs := [.float .f64 la, .float .f64 ha]) (by simp)).two; obtain ⟨qa4x, qb4x, qc4x, qd4x, qe4x⟩ := Q4x; have Q4y := (K4.blk (g := w.heap.size + 1) (vs := [.float .f64 lb, .float .f64 hb]) (by simp)).two; obtain ⟨qa4y, qb4y, qc4y, qd4y, qe4y⟩ := Q4y; have FX4 := FX.next (by first | exact hb4 | exact below_of_drew hb4 | exact below_of_drewN hb4); clear I4 J4 hb4)
          | (go_at_call 14; (with_reducible refine (ref2_float_any hb b4 _).mono ?_); rintro e5 w5 ⟨neg5, A5, n5, c5, ne5, B5, m5, d5, rfl, I5, J5, hb5⟩; rw [HXhb.out] at I5 J5; (first | (with_reducible have K5 := ((K4.next hb5).int J5).int I5) | (with_reducible have K5 := ((K4.drew.next hb5).int J5).int I5) | (with_reducible have K5 := (((K4.drewN _).next hb5).int J5).int I5)); have Q5x := (K5.blk (g := w.heap.size) (vs := [.float .f64 la, .float .f64 ha]) (by simp)).two; obtain ⟨qa5x, qb5x, qc5x, qd5x, qe5x⟩ := Q5x; have Q5y := (K5.blk (g := w.heap.size + 1) (vs := [.float .f64 lb, .float .f64 hb]) (by simp)).two; obtain ⟨qa5y, qb5y, qc5y, qd5y, qe5y⟩ := Q5y; have FX5 := FX4.next (by first | exact hb5 | exact below_of_drew hb5 | exact below_of_drewN hb5); clear I5 J5 hb5))
      all_goals (go_wp2_with fail)
      all_goals go_meet
      all_goals first
        | exact ⟨w5.heap.size, two2 ((neg4, A4, n4, c4), (ne4, B4, m4, d4), xlb) ((neg5, A5, n5, c5), (ne5, B5, m5, d5), xhb), rfl, Lib.hid ⟨two2_l rfl, two2_r rfl⟩, FX5.next ((Below.refl _ _).alloc (Nat.le_refl _) _), frs_two w5 rfl ((neg4, A4, n4, c4), (ne4, B4, m4, d4), xlb) ((neg5, A5, n5, c5), (ne5, B5, m5, d5), xhb) ⟨K5.at_ (by simp), K5.at_ (by simp)⟩ ⟨K5.at_ (by simp), K5.at_ (by simp)⟩ _, (K5.box _).pick (by simp) (by simp)⟩
        | exact ⟨w5.heap.size, two2 ((neg4, A4, n4, c4), (ne4, B4, m4, d4), xlb) ((neg5, A5, n5, c5), (ne5, B5, m5, d5), xhb), rfl, Lib.hid ⟨two2_l rfl, two2_r rfl⟩, (FX5.next ((Below.refl _ _).alloc (Nat.le_refl _) _)).next ⟨rfl, rfl, rfl, Nat.le_refl _, fun _ _ => rfl⟩, (frs_two w5 rfl ((neg4, A4, n4, c4), (ne4, B4, m4, d4), xlb) ((neg5, A5, n5, c5), (ne5, B5, m5, d5), xhb) ⟨K5.at_ (by simp), K5.at_ (by simp)⟩ ⟨K5.at_ (by simp), K5.at_ (by simp)⟩ _).next ⟨rfl, rfl, rfl, Nat.le_refl _, fun _ _ => rfl⟩, ((K5.box _).drew).pick (by simp) (by simp)⟩
    case rest =>
      obtain ⟨gy, Y, rfl, HY, FX2, FY, K4⟩ := hcut
      clear FX K3 qa2y qb2y qc2y qd2y qe2y
      have HH : Hid (∀ i k, i < 2 → k < 2 → Sz (X i).2.2 67 ∧ Sz (Y k).2.2 67 ∧ (Y k).2.2 ≠ 0 ∧ opR 3 (X i).2.2 (Y k).2.2 = corR 3 la ha lb hb (2 * i + k)) := Lib.hid (HF.out X Y HX.out.1 HX.out.2 HY.out.1 HY.out.2)
      have D0 := dom_nil K4 FX2 FY (corR 3 la ha lb hb)
      obtain ⟨B, hB⟩ : ∃ B, wc.heap.size = B := ⟨_, rfl⟩
      rw [hB] at D0
      clear hB
      clear HX HY HF FX2 FY K4
      go_wp2_with fail
      go_loopw [10, 11] (fun av iv wr => ∃ i : Nat, iv = .int .i64 (i : Int) ∧ i ≤ 2 ∧ DoM w [(w.heap.size, [.float .f64 la, .float .f64 ha]), (w.heap.size + 1, [.float .f64 lb, .float .f64 hb]), (w.heap.size + 1 + 1, [.float .f64 0, .float .f64 0])] gx gy B X Y av (2 * i) (corR 3 la ha lb hb) wr) (fun _ i _ => 2 - (intOf i).toNat)
      case atStart => exact ⟨0, rfl, by decide, D0⟩
      case round =>
        obtain ⟨i, rfl, hi2, DM⟩ := hrel
        clear D0
        by_cases hlt : i < 2
        · have hlt' : (i : Int) < 2 := by omega
          go_wp2_with fail
          go_loopw [10, 12] (fun av kv wr => ∃ k : Nat, kv = .int .i64 (k : Int) ∧ k ≤ 2 ∧ DoM w [(w.heap.size, [.float .f64 la, .float .f64 ha]), (w.heap.size + 1, [.float .f64 lb, .float .f64 hb]), (w.heap.size + 1 + 1, [.float .f64 0, .float .f64 0])] gx gy B X Y av (2 * i + k) (corR 3 la ha lb hb) wr) (fun _ k _ => 2 - (intOf k).toNat)
          case atStart => exact ⟨0, rfl, by decide, DM⟩
          case round =>
            obtain ⟨k, rfl, hk2, DI⟩ := hrel
            clear DM
            by_cases hlk : k < 2
            · have hlk' : (k : Int) < 2 := by omega
              obtain ⟨⟨c0, c1, c2, c3⟩, ci⟩ := DI.2.1.2 i hlt
              obtain ⟨⟨d0, d1, d2, d3⟩, di⟩ := DI.2.2.1.2 k hlk
              obtain ⟨s1, s2, s3, s4⟩ := HH.out i k hlt hlk
              obtain ⟨fi, hfi⟩ : ∃ f, X i = f := ⟨_, rfl⟩
              obtain ⟨fk, hfk⟩ : ∃ f, Y k = f := ⟨_, rfl⟩
              obtain ⟨r, hr⟩ : ∃ r, corR 3 la ha lb hb (2 * i + k) = r := ⟨_, rfl⟩
              rw [hfi] at c0 c1 c2 c3 ci s1 s4
              rw [hfk] at d0 d1 d2 d3 di s2 s3 s4
              rw [hr] at s4
              obtain ⟨⟨i1, I1, t1, v1⟩, ⟨i2, I2, t2, v2⟩, xi⟩ := fi
              obtain ⟨⟨j1, J1, p1, q1⟩, ⟨j2, J2, p2, q2⟩, yk⟩ := fk
              have S1 := Lib.hid s1
              have S2 := Lib.hid s2
              have S3 := Lib.hid s3
              have S4 : Hid (xi / yk = r) := Lib.hid s4
              have HR := Lib.hid hr
              have HFI := Lib.hid hfi
              have HFK := Lib.hid hfk
              have KI := (((DI.1.int ci.1).int ci.2).int di.1).int di.2
              have gxl := DI.2.1.1
              have gyl := DI.2.2.1.1
              have hi0 : (0 : Int) ≤ (i : Int) := Int.natCast_nonneg _
              have hk0 : (0 : Int) ≤ (k : Int) := Int.natCast_nonneg _
              have h67 : 67 + 67 < 1000000 := by decide
              have hNN : 2 * i + k ≤ 1000 := by omega
              clear s1 s2 s3 s4 hr hfi hfk ci di
              go_wp2_with fail
              go_region_held3 (fun w' => w'.cell? ⟨gx, i * 4, none⟩ = some (.bool i1) ∧ w'.cell? ⟨gx, i * 4 + 1, none⟩ = some (.slice I1 t1 v1) ∧ w'.cell? ⟨gx, i * 4 + 2, none⟩ = some (.bool i2) ∧ w'.cell? ⟨gx, i * 4 + 3, none⟩ = some (.slice I2 t2 v2) ∧ w'.cell? ⟨gy, k * 4, none⟩ = some (.bool j1) ∧ w'.cell? ⟨gy, k * 4 + 1, none⟩ = some (.slice J1 p1 q1) ∧ w'.cell? ⟨gy, k * 4 + 2, none⟩ = some (.bool j2) ∧ w'.cell? ⟨gy, k * 4 + 3, none⟩ = some (.slice J2 p2 q2))
                (go_keep)
                (first
                  | (go_at_call 18; (with_reducible refine (ref2_over_any i1 i2 I1 I2 t1 v1 t2 v2 j1 j2 J1 J2 p1 q1 p2 q2 xi yk r 67 67 _ ?_ ?_ ?_ ?_ S1.out S2.out h67 S3.out S4).mono ?_); (first | (with_reducible exact KI.at_ (by simp)) | (with_reducible exact KI.drew.at_ (by simp)) | (with_reducible exact (KI.drewN _).at_ (by simp))); (first | (with_reducible exact KI.at_ (by simp)) | (with_reducible exact KI.drew.at_ (by simp)) | (with_reducible exact (KI.drewN _).at_ (by simp))); (first | (with_reducible exact KI.at_ (by simp)) | (with_reducible exact KI.drew.at_ (by simp)) | (with_reducible exact (KI.drewN _).at_ (by simp))); (first | (with_reducible exact KI.at_ (by simp)) | (with_reducible exact KI.drew.at_ (by simp)) | (with_reducible exact (KI.drewN _).at_ (by simp))); rintro e5 w5 ⟨neg5, A5, n5, c5, ne5, B5, m5, d5, rfl, I5, J5, hb5⟩; (first | (with_reducible have D5 := DI.next hb5) | (with_reducible have D5 := DI.drew.next hb5) | (with_reducible have D5 := (DI.drewN _).next hb5)); have O5x := (D5.2.1.2 i hlt).1; rw [HFI.out] at O5x; obtain ⟨xa5, xb5, xc5, xd5⟩ := O5x; have O5y := (D5.2.2.1.2 k hlk).1; rw [HFK.out] at O5y; obtain ⟨ya5, yb5, yc5, yd5⟩ := O5y; have xl5 := D5.2.1.1; have yl5 := D5.2.2.1.1; have E5 : FrE.at_ w5 ((neg5, A5, n5, c5), (ne5, B5, m5, d5), r) := ⟨I5, J5⟩)
                  | (refine step_all (by rfl) _ _ (by rfl) ((neg5, A5, n5, c5), (ne5, B5, m5, d5), r) w5.heap.size 1 (D5.next ((Below.refl _ _).alloc (Nat.le_refl _) _)) (vs_new w5 _ _) (at_alloc E5 _) HR.out.symm hNN (by rfl) (by rfl) ?_; intro g6 cap6 w6 D6; have O6x := (D6.2.1.2 i hlt).1; rw [HFI.out] at O6x; obtain ⟨xa6, xb6, xc6, xd6⟩ := O6x; have O6y := (D6.2.2.1.2 k hlk).1; rw [HFK.out] at O6y; obtain ⟨ya6, yb6, yc6, yd6⟩ := O6y; have xl6 := D6.2.1.1; have yl6 := D6.2.2.1.1))
              all_goals go_wp2_with fail
              go_roundw
              case rel => exact ⟨k + 1, by go_num, by omega, D6⟩
              case measure => simp [intOf]; omega
            · obtain rfl : k = 2 := by omega
              go_wp2_with fail
              go_roundw
              case rel => exact ⟨i + 1, by go_num, by omega, DI⟩
              case measure => simp [intOf]; omega
        · obtain rfl : i = 2 := by omega
          have DM4 : DoM w [(w.heap.size, [.float .f64 la, .float .f64 ha]), (w.heap.size + 1, [.float .f64 lb, .float .f64 hb]), (w.heap.size + 1 + 1, [.float .f64 0, .float .f64 0])] gx gy B X Y u10 4 (corR 3 la ha lb hb) wr := DM
          obtain ⟨g, cap, rfl, hcap⟩ := DM4.row (by decide)
          obtain ⟨F, FR, HV⟩ := DM4.2.2.2.2.frs
          have HSz : Hid (∀ i, i < 4 → Sz (F i).2.2 135) := Lib.hid (fun i hi => by rw [HV i hi]; exact HS.out i)
          have HVV := Lib.hid HV
          have KF := DM4.1
          clear DM DM4 HV HS
          go_wp2_with fail
          refine (ref5_few_any g 4 cap 135 F _ FR (by decide) (by decide) hcap HSz (by decide)).mono ?_
          rintro e7 w7 ⟨a, b, hia, hib, rfl, hall, Ia, Ib, hb7⟩
          have K7 := KF.next hb7
          have HE : Hid (∀ lo hi, DownR (F a).2.2 lo → UpR (F b).2.2 hi → DoE 3 la ha lb hb (endsF lo hi)) := Lib.hid (fun lo hi hD hU => ⟨a, b, lo, hi, hia, hib, fun j hj => by
            rw [← HVV.out a hia, ← HVV.out b hib, ← HVV.out j hj]; exact hall j hj, by rw [← HVV.out a hia]; exact hD, by rw [← HVV.out b hib]; exact hU, rfl⟩)
          have SA := Lib.hid (HSz.out a hia)
          have SB := Lib.hid (HSz.out b hib)
          clear hb7 hall hia hib HVV HSz KF FR
          go_wp2_with fail
          refine (ref5_least_any (F a).1.1 (F a).2.1.1 (F a).1.2.1 (F a).2.1.2.1 (F a).1.2.2.1 (F a).1.2.2.2 (F a).2.1.2.2.1 (F a).2.1.2.2.2 (F b).1.1 (F b).2.1.1 (F b).1.2.1 (F b).2.1.2.1 (F b).1.2.2.1 (F b).1.2.2.2 (F b).2.1.2.2.1 (F b).2.1.2.2.2 (F a).2.2 (F b).2.2 135 _ Ia.1 Ia.2 Ib.1 Ib.2 SA.out SB.out (by decide)).mono ?_
          rintro e8 w8 ⟨p, ⟨lo, hi, hD, hU, rfl⟩, rfl, hb8⟩
          have K8 := K7.next hb8
          have HQ := Lib.hid (HE.out lo hi hD hU)
          generalize endsF lo hi = p at HQ ⊢
          obtain ⟨p0, p1, p2⟩ := p
          clear hD hU hb8 K7 Ia Ib HE
          obtain ⟨qa8r, qb8r, qc8r, qd8r, qe8r⟩ := (K8.blk (g := w.heap.size + 1 + 1) (vs := [.float .f64 0, .float .f64 0]) (by simp)).two
          go_wp2_with fail
          have hbw := below_result (g := w.heap.size + 1 + 1) K8.1 (by omega) (.float .f64 p0) (.float .f64 p1)
          exact bodyPost_ret (v := .tuple #[.agg #[.float .f64 p0, .float .f64 p1], .int .i64 p2]) (by simp [results, Try.results5, go_sem, qa8r, qb8r]) rfl ⟨(p0, p1, p2), HQ.out, rfl, hbw⟩
set_option maxRecDepth 100000 in
set_option maxHeartbeats 3200000 in
theorem ref5_do_no (k la ha lb hb : Nat) (h : okS la ha = false ∨ (okS la ha = true ∧ okS lb hb = false)) (w : World) :
    Calls Try.prog 5 #[.int .i64 (k : Int), .agg #[.float .f64 la, .float .f64 ha], .agg #[.float .f64 lb, .float .f64 hb]] w (RetSpan w 0 0 (.int .i64 1)) := by
  have K0 := ((((Mm.nil w).var (g := w.heap.size) rfl [.float .f64 la, .float .f64 ha] 24).var (g := w.heap.size + 1) (by simp) [.float .f64 lb, .float .f64 hb] 24).var (g := w.heap.size + 1 + 1) (by simp) [.float .f64 0, .float .f64 0] 24)
  rcases h with h | ⟨h, h'⟩
  · have HA : Hid (okI la ha = 1) := Lib.hid (by unfold okI; rw [h]; rfl)
    clear h
    go_enter Try.func5, Try.ntmps5
    go_wp2_with fail
    generalize ((w.alloc (.cells #[.float .f64 la, .float .f64 ha] 24)).alloc (.cells #[.float .f64 lb, .float .f64 hb] 24)).alloc (.cells #[.float .f64 0, .float .f64 0] 24) = w0 at K0 ⊢
    obtain ⟨qa0x, qb0x, qc0x, qd0x, qe0x⟩ := (K0.blk (g := w.heap.size) (vs := [.float .f64 la, .float .f64 ha]) (by simp)).two
    obtain ⟨qa0y, qb0y, qc0y, qd0y, qe0y⟩ := (K0.blk (g := w.heap.size + 1) (vs := [.float .f64 lb, .float .f64 hb]) (by simp)).two
    obtain ⟨qa0r, qb0r, qc0r, qd0r, qe0r⟩ := (K0.blk (g := w.heap.size + 1 + 1) (vs := [.float .f64 0, .float .f64 0]) (by simp)).two
    go_wp2_with fail
    refine (ref_check_any la ha _).mono ?_
    rintro e1 w1 ⟨rfl, hb1⟩
    rw [HA.out]
    have K1 := K0.next hb1
    clear hb1 K0
    obtain ⟨qa1x, qb1x, qc1x, qd1x, qe1x⟩ := (K1.blk (g := w.heap.size) (vs := [.float .f64 la, .float .f64 ha]) (by simp)).two
    obtain ⟨qa1y, qb1y, qc1y, qd1y, qe1y⟩ := (K1.blk (g := w.heap.size + 1) (vs := [.float .f64 lb, .float .f64 hb]) (by simp)).two
    obtain ⟨qa1r, qb1r, qc1r, qd1r, qe1r⟩ := (K1.blk (g := w.heap.size + 1 + 1) (vs := [.float .f64 0, .float .f64 0]) (by simp)).two
    go_wp2_with fail
    have hbw := below_result (g := w.heap.size + 1 + 1) K1.1 (by omega) (.float .f64 0) (.float .f64 0)
    exact bodyPost_ret (v := .tuple #[.agg #[.float .f64 0, .float .f64 0], .int .i64 1]) (by simp [results, Try.results5, go_sem, qa1r, qb1r]) rfl ⟨rfl, hbw⟩
  · have HA : Hid (okI la ha = 0) := Lib.hid (by unfold okI; rw [h]; rfl)
    have HB : Hid (okI lb hb = 1) := Lib.hid (by unfold okI; rw [h']; rfl)
    clear h h'
    go_enter Try.func5, Try.ntmps5
    go_wp2_with fail
    generalize ((w.alloc (.cells #[.float .f64 la, .float .f64 ha] 24)).alloc (.cells #[.float .f64 lb, .float .f64 hb] 24)).alloc (.cells #[.float .f64 0, .float .f64 0] 24) = w0 at K0 ⊢
    obtain ⟨qa0x, qb0x, qc0x, qd0x, qe0x⟩ := (K0.blk (g := w.heap.size) (vs := [.float .f64 la, .float .f64 ha]) (by simp)).two
    obtain ⟨qa0y, qb0y, qc0y, qd0y, qe0y⟩ := (K0.blk (g := w.heap.size + 1) (vs := [.float .f64 lb, .float .f64 hb]) (by simp)).two
    obtain ⟨qa0r, qb0r, qc0r, qd0r, qe0r⟩ := (K0.blk (g := w.heap.size + 1 + 1) (vs := [.float .f64 0, .float .f64 0]) (by simp)).two
    go_wp2_with fail
    refine (ref_check_any la ha _).mono ?_
    rintro e1 w1 ⟨rfl, hb1⟩
    rw [HA.out]
    have K1 := K0.next hb1
    clear hb1 K0
    obtain ⟨qa1x, qb1x, qc1x, qd1x, qe1x⟩ := (K1.blk (g := w.heap.size) (vs := [.float .f64 la, .float .f64 ha]) (by simp)).two
    obtain ⟨qa1y, qb1y, qc1y, qd1y, qe1y⟩ := (K1.blk (g := w.heap.size + 1) (vs := [.float .f64 lb, .float .f64 hb]) (by simp)).two
    obtain ⟨qa1r, qb1r, qc1r, qd1r, qe1r⟩ := (K1.blk (g := w.heap.size + 1 + 1) (vs := [.float .f64 0, .float .f64 0]) (by simp)).two
    go_wp2_with fail
    refine (ref_check_any lb hb _).mono ?_
    rintro e2 w2 ⟨rfl, hb2⟩
    rw [HB.out]
    have K2 := K1.next hb2
    clear hb2 K1
    obtain ⟨qa2x, qb2x, qc2x, qd2x, qe2x⟩ := (K2.blk (g := w.heap.size) (vs := [.float .f64 la, .float .f64 ha]) (by simp)).two
    obtain ⟨qa2y, qb2y, qc2y, qd2y, qe2y⟩ := (K2.blk (g := w.heap.size + 1) (vs := [.float .f64 lb, .float .f64 hb]) (by simp)).two
    obtain ⟨qa2r, qb2r, qc2r, qd2r, qe2r⟩ := (K2.blk (g := w.heap.size + 1 + 1) (vs := [.float .f64 0, .float .f64 0]) (by simp)).two
    go_wp2_with fail
    have hbw := below_result (g := w.heap.size + 1 + 1) K2.1 (by omega) (.float .f64 0) (.float .f64 0)
    exact bodyPost_ret (v := .tuple #[.agg #[.float .f64 0, .float .f64 0], .int .i64 1]) (by simp [results, Try.results5, go_sem, qa2r, qb2r]) rfl ⟨rfl, hbw⟩
set_option maxRecDepth 100000 in
set_option maxHeartbeats 3200000 in
theorem ref5_do_zero (la ha lb hb : Nat) (h : okS la ha = true) (h' : okS lb hb = true) (o2 : (Ieee.double.order lb 0 == some .lt || Ieee.double.order lb 0 == some .eq) = true) (o3 : (Ieee.double.order hb 0 == some .gt || Ieee.double.order hb 0 == some .eq) = true) (w : World) :
    Calls Try.prog 5 #[.int .i64 3, .agg #[.float .f64 la, .float .f64 ha], .agg #[.float .f64 lb, .float .f64 hb]] w (RetSpan w 0 0 (.int .i64 3)) := by
  have K0 := ((((Mm.nil w).var (g := w.heap.size) rfl [.float .f64 la, .float .f64 ha] 24).var (g := w.heap.size + 1) (by simp) [.float .f64 lb, .float .f64 hb] 24).var (g := w.heap.size + 1 + 1) (by simp) [.float .f64 0, .float .f64 0] 24)
  have HA : Hid (okI la ha = 0) := Lib.hid (by unfold okI; rw [h]; rfl)
  have HB : Hid (okI lb hb = 0) := Lib.hid (by unfold okI; rw [h']; rfl)
  clear h h'
  go_enter Try.func5, Try.ntmps5
  go_wp2_with fail
  generalize ((w.alloc (.cells #[.float .f64 la, .float .f64 ha] 24)).alloc (.cells #[.float .f64 lb, .float .f64 hb] 24)).alloc (.cells #[.float .f64 0, .float .f64 0] 24) = w0 at K0 ⊢
  obtain ⟨qa0x, qb0x, qc0x, qd0x, qe0x⟩ := (K0.blk (g := w.heap.size) (vs := [.float .f64 la, .float .f64 ha]) (by simp)).two
  obtain ⟨qa0y, qb0y, qc0y, qd0y, qe0y⟩ := (K0.blk (g := w.heap.size + 1) (vs := [.float .f64 lb, .float .f64 hb]) (by simp)).two
  obtain ⟨qa0r, qb0r, qc0r, qd0r, qe0r⟩ := (K0.blk (g := w.heap.size + 1 + 1) (vs := [.float .f64 0, .float .f64 0]) (by simp)).two
  go_wp2_with fail
  refine (ref_check_any la ha _).mono ?_
  rintro e1 w1 ⟨rfl, hb1⟩
  rw [HA.out]
  have K1 := K0.next hb1
  clear hb1 K0
  obtain ⟨qa1x, qb1x, qc1x, qd1x, qe1x⟩ := (K1.blk (g := w.heap.size) (vs := [.float .f64 la, .float .f64 ha]) (by simp)).two
  obtain ⟨qa1y, qb1y, qc1y, qd1y, qe1y⟩ := (K1.blk (g := w.heap.size + 1) (vs := [.float .f64 lb, .float .f64 hb]) (by simp)).two
  obtain ⟨qa1r, qb1r, qc1r, qd1r, qe1r⟩ := (K1.blk (g := w.heap.size + 1 + 1) (vs := [.float .f64 0, .float .f64 0]) (by simp)).two
  go_wp2_with fail
  refine (ref_check_any lb hb _).mono ?_
  rintro e2 w2 ⟨rfl, hb2⟩
  rw [HB.out]
  have K2 := K1.next hb2
  clear hb2 K1
  obtain ⟨qa2x, qb2x, qc2x, qd2x, qe2x⟩ := (K2.blk (g := w.heap.size) (vs := [.float .f64 la, .float .f64 ha]) (by simp)).two
  obtain ⟨qa2y, qb2y, qc2y, qd2y, qe2y⟩ := (K2.blk (g := w.heap.size + 1) (vs := [.float .f64 lb, .float .f64 hb]) (by simp)).two
  obtain ⟨qa2r, qb2r, qc2r, qd2r, qe2r⟩ := (K2.blk (g := w.heap.size + 1 + 1) (vs := [.float .f64 0, .float .f64 0]) (by simp)).two
  go_wp2_with fail
  have hbw := below_result (g := w.heap.size + 1 + 1) K2.1 (by omega) (.float .f64 0) (.float .f64 0)
  exact bodyPost_ret (v := .tuple #[.agg #[.float .f64 0, .float .f64 0], .int .i64 3]) (by simp [results, Try.results5, go_sem, qa2r, qb2r]) rfl ⟨rfl, hbw⟩

end Go.Proofs.Ytcjpocepgkfkaaa
