/-
  append onto a slice of the call's own, and what no cell of its row is (the kit's law run_append_own_at, turned: one limb more).
-/
import Derived.Test.YtjcjphgpmpjmbaaDoorMem
import Derived.Deep.AppendLies
namespace Go.Proofs.YtjcjphgpmpjmbaaDoor
open Go.RowKit

/-- No cell of the block is a limb. -/
def NoLimb (w : World) (g : Nat) : Prop := ∃ cs t fr, w.heap[g]? = some (.cells cs t fr) ∧ ∀ u ∈ cs.toList, ∀ x, u ≠ .int .u32 x
theorem NoLimb.below {w w' : World} {g : Nat} (h : NoLimb w g) (hg : g < w.heap.size) (hb : Below w.heap.size w w') : NoLimb w' g := by
  obtain ⟨cs, t, fr, h1, h2⟩ := h
  exact ⟨cs, t, fr, (hb.block g hg).trans h1, h2⟩
theorem noLimb_cells {w : World} {g : Nat} {cs : Array Value} {t : TypeId} {fr : Nat × Nat} (hg : w.heap[g]? = some (.cells cs t fr)) (h : ∀ u ∈ cs.toList, ∀ x, u ≠ .int .u32 x) : NoLimb w g := ⟨cs, t, fr, hg, h⟩
theorem cells_of_noLimb {w : World} {g : Nat} {cs : Array Value} {t : TypeId} {fr : Nat × Nat} (hg : w.heap[g]? = some (.cells cs t fr)) (h : NoLimb w g) : ∀ u ∈ cs.toList, ∀ x, u ≠ .int .u32 x := by
  obtain ⟨cs', t', fr', h1, h2⟩ := h
  rw [hg] at h1
  injection h1 with h1
  injection h1 with h1
  subst h1
  exact h2
theorem NoLimb.no {w : World} {g : Nat} (h : NoLimb w g) (a : Addr) (ha : a.block = g) (x : Int) : w.cell? a ≠ some (.int .u32 x) := by
  obtain ⟨cs, t, fr, h1, h2⟩ := h
  subst ha
  unfold World.cell?
  rw [h1]
  intro e
  have e' : (if a.spot.isSome then none else cs[a.off]?) = some (.int .u32 x) := e
  split at e'
  · cases e'
  · refine h2 (.int .u32 x) ?_ x rfl
    rw [← Array.getElem?_toList] at e'
    exact List.mem_of_getElem? e'
section
variable {P : Program} (w : World)
theorem run_append_limbs (t ty : TypeId) (base : Nat) (e : TypeId) (i : TypeInfo) (z : Value) (size bytes : Nat) (ht : P.underlying t = some (.slice e)) (hi : P.info? e = some i) (hz : i.zero = some z)
    (hsize : i.size = size) (hby : i.bytes = bytes) (hzs : z.cells.size = size) (hsz : 0 < size)
    (v : Value) (n : Nat) (xs : List Value) (hown : w.ownsRow base e size v n xs)
    (a : Addr) (m c : Nat) (news : List Value) (hl : news.length = m * size) (hnews : ∀ j u, news[j]? = some u → w.cell? (a.add j) = some u) (h1 : ∀ u ∈ news, u.oneCell' = true)
    (hm : 0 < m) (h63 : n + m ≤ maxLen) (hbytes : (n + m) * bytes ≤ 140737488355328) (hbase : base ≤ w.heap.size)
    (hq : ∀ g, v.ownBlock = some g → NoLimb w g) (hqn : ∀ u ∈ news, ∀ x, u ≠ .int .u32 x) (hqx : ∀ u ∈ xs, ∀ x, u ≠ .int .u32 x) (hqz : ∀ k, ∀ u ∈ (Builtin.zeroCells z.cells k).toList, ∀ x, u ≠ .int .u32 x) :
    ∃ g cap w', (Builtin.append_ #[t, t] ty #[v, .slice (some a) m c]).run P w = .ok (.slice (some ⟨g, 0, none⟩) (n + m) cap) w' ∧ w'.ownsRow base e size (.slice (some ⟨g, 0, none⟩) (n + m) cap) (n + m) (xs ++ news) ∧ w.grownBy w' v.ownBlock ∧
      (v.ownBlock = some g ∨ g = w.heap.size) ∧ g < w'.heap.size ∧ NoLimb w' g := by
  subst hsize
  subst hby
  have hsmall : n + m ≤ 9223372036854775807 := by simp only [maxLen] at h63; omega
  have hlen : (xs ++ news).length = (n + m) * i.size := by rw [List.length_append, hown.1, hl, Nat.add_mul]
  have grown : ∀ (old : Nat), old < n + m → ∀ (row : Option Nat),
      (w.drew.alloc (.cells (xs.toArray ++ news.toArray ++ Builtin.zeroCells z.cells (grownCap w (n + m) old e - (n + m))) e)).ownsRow base e i.size
        (.slice (some ⟨w.heap.size, 0, none⟩) (n + m) (grownCap w (n + m) old e)) (n + m) (xs ++ news) ∧
      w.grownBy (w.drew.alloc (.cells (xs.toArray ++ news.toArray ++ Builtin.zeroCells z.cells (grownCap w (n + m) old e - (n + m))) e)) row ∧
      NoLimb (w.drew.alloc (.cells (xs.toArray ++ news.toArray ++ Builtin.zeroCells z.cells (grownCap w (n + m) old e - (n + m))) e)) w.heap.size := by
    intro old ho row
    have hge := grownCap_ge w (n + m) old e
    have hcm : grownCap w (n + m) old e ≤ maxLen := grownCap_le_maxLen w (n + m) old e h63
    refine ⟨⟨hlen, .inr ⟨w.heap.size, _, _, rfl, hbase, heap_alloc_new w.drew _, hge, hcm, ?_, ?_⟩⟩, ⟨rfl, rfl, rfl, by simp, fun k hk _ => heap_alloc_old w.drew _ hk⟩, ?_⟩
    · simp only [Array.size_append, List.size_toArray, size_zeroCells, hzs, hown.1, hl, ← Nat.add_mul]
      congr 1
      omega
    · simp only [Array.toList_append, List.append_assoc]
      rw [← List.append_assoc, ← hlen]
      exact List.take_left
    · refine noLimb_cells (heap_alloc_new w.drew _) (fun u hu => ?_)
      simp only [Array.toList_append, List.mem_append] at hu
      rcases hu with (hu | hu) | hu
      · exact hqx u hu
      · exact hqn u hu
      · exact hqz _ u hu
  rcases hown.2 with ⟨rfl, rfl⟩ | ⟨g, cap, cur, rfl, hbg, hg, hnc, hcm, hcs, htake⟩
  · have hx : xs = [] := List.eq_nil_of_length_eq_zero (by simpa using hown.1)
    subst hx
    have hr := run_append_nil (P := P) w t ty e i z ht hi hz a m c news hl hnews (by omega) (by omega) (by have hb := hbytes; simp only [Nat.zero_add] at hb; omega)
    have hgr := grown 0 (by omega) (Value.ownBlock (.slice none 0 0))
    simp only [Nat.zero_add, List.nil_append, Array.empty_append] at hgr ⊢
    exact ⟨_, _, _, hr, hgr.1, hgr.2.1, .inr rfl, by simp, hgr.2.2⟩
  · have hNL := hq g rfl
    by_cases hroom : n + m ≤ cap
    · have hfit : n * i.size + news.length ≤ cur.size := by rw [hl, hcs, ← Nat.add_mul]; exact Nat.mul_le_mul_right _ hroom
      have hr := run_append_room (P := P) w t ty e i ht hi g n cap cur hg a m c news hl hnews h1 hroom hfit
      refine ⟨_, _, _, hr, ⟨hlen, .inr ⟨g, cap, _, rfl, hbg, setRow_heap w g cur _ e _ hg, hroom, hcm, ?_, ?_⟩⟩, ⟨rfl, rfl, rfl, by simp, fun k _ hk => setRow_other w g k _ (fun e => hk (by simp [Value.ownBlock, e]))⟩, .inl rfl, ?_, ?_⟩
      · simp only [List.size_toArray, List.length_append, List.length_take, List.length_drop, Array.length_toList]
        omega
      · rw [htake, ← hlen]
        exact List.take_left
      · exact (Array.getElem?_eq_some_iff.1 (setRow_heap w g cur _ e _ hg)).1
      · refine noLimb_cells (setRow_heap w g cur _ e _ hg) (fun u hu => ?_)
        have hold := cells_of_noLimb hg hNL
        simp only [List.mem_append] at hu
        rcases hu with (hu | hu) | hu
        · exact hold u (List.mem_of_mem_take hu)
        · exact hqn u hu
        · exact hold u (List.mem_of_mem_drop hu)
    · have holds : ∀ j u, xs[j]? = some u → w.cell? ((⟨g, 0, none⟩ : Addr).add j) = some u := hown.cells (g := g) rfl
      have hr := run_append_grow (P := P) w t ty e i z ht hi hz ⟨g, 0, none⟩ n cap xs hown.1 holds a m c news hl hnews (by omega) (by omega) (growslice_fits (by omega) hbytes)
      have hgr := grown cap (by omega) (Value.ownBlock (.slice (some ⟨g, 0, none⟩) n cap))
      exact ⟨_, _, _, hr, hgr.1, hgr.2.1, .inr rfl, by simp, hgr.2.2⟩
end
/-- A whole number stays through an append onto a row without limbs. -/
theorem IsInt.grown {w w' : World} {row : Option Nat} {neg : Bool} {A : Option Addr} {n c : Nat} {z : Int} (h : IsInt w neg A n c z) (hg : w.grownBy w' row) (hq : ∀ g, row = some g → NoLimb w g) : IsInt w' neg A n c z := by
  obtain ⟨l, ⟨⟨hl, hr⟩, h2⟩, h3⟩ := h
  refine ⟨l, ⟨⟨hl, fun h0 => ?_⟩, h2⟩, h3⟩
  obtain ⟨ad, e, hb, hc⟩ := hr h0
  refine ⟨ad, e, Nat.lt_of_lt_of_le hb hg.size, fun j u hu => ?_⟩
  have hcu := hc j u hu
  obtain ⟨_, hu2⟩ := u32s_get hu
  refine hg.cell hcu (fun e2 => ?_)
  rw [block_of_add] at e2
  have hN := hq ad.block e2.symm
  rw [hu2] at hcu
  exact hN.no (ad.add j) (block_of_add ad j) _ hcu
/-- At the operation. -/
theorem wp_append_limbs {P : Program} (w : World) {o : Oper} {a : Act} {K : Act → World → Prop} {Q : Exit → Act → World → Prop} (s x : Operand) (t : TypeId)
    (ho : o.op = .call { callee := .builtin .append, args := #[s, x], argTypes := #[t, t] })
    (base : Nat) (e : TypeId) (i : TypeInfo) (z : Value) (size bytes : Nat) (ht : P.underlying t = some (.slice e)) (hi : P.info? e = some i) (hz : i.zero = some z)
    (hsize : i.size = size) (hby : i.bytes = bytes) (hzs : z.cells.size = size) (hsz : 0 < size)
    (v : Value) (n : Nat) (xs : List Value) (hs : a.eval s = v) (hown : w.ownsRow base e size v n xs)
    (ad : Addr) (m c : Nat) (news : List Value) (hx : a.eval x = .slice (some ad) m c) (hl : news.length = m * size) (hnews : ∀ j u, news[j]? = some u → w.cell? (ad.add j) = some u) (h1 : ∀ u ∈ news, u.oneCell' = true)
    (hm : 0 < m) (h63 : n + m ≤ maxLen) (hbytes : (n + m) * bytes ≤ 140737488355328) (hbase : base ≤ w.heap.size)
    (hq : ∀ g, v.ownBlock = some g → NoLimb w g) (hqn : ∀ u ∈ news, ∀ x, u ≠ .int .u32 x) (hqx : ∀ u ∈ xs, ∀ x, u ≠ .int .u32 x) (hqz : ∀ k, ∀ u ∈ (Builtin.zeroCells z.cells k).toList, ∀ x, u ≠ .int .u32 x)
    (h : ∀ g cap w', w'.ownsRow base e size (.slice (some ⟨g, 0, none⟩) (n + m) cap) (n + m) (xs ++ news) → w.grownBy w' v.ownBlock → (v.ownBlock = some g ∨ g = w.heap.size) → g < w'.heap.size → NoLimb w' g → K (a.put o.dst (.slice (some ⟨g, 0, none⟩) (n + m) cap)) w') : o.wp P a w K Q := by
  obtain ⟨g, cap, w', hr, h2, h3, h4, h5, h6⟩ := run_append_limbs (P := P) w t o.type base e i z size bytes ht hi hz hsize hby hzs hsz v n xs hown ad m c news hl hnews h1 hm h63 hbytes hbase hq hqn hqx hqz
  unfold Oper.wp execOp
  simp only [ho, resolve, invoke, builtin, Sem.run_bind, Sem.run_pure, Result.andThen_ok, List.map_toArray, List.map_cons, List.map_nil, hs, hx, hr]
  exact h g cap w' h2 h3 h4 h5 h6
end Go.Proofs.YtjcjphgpmpjmbaaDoor
