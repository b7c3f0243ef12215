/-
  append onto a slice of the call's own, and what no cell of its row is (the kit's law run_append_own_at, turned: one limb more).
  The program's fractions (package ratio): quotients.
  All of a list written out, one by one.
-/
import Derived.Test.YtdmdaoginojalaaFrp
import Derived.Deep.AppendLies
import Derived.Test.YtdmdaoginojalaaRaL
import Derived.Test.YtdmdaoginojalaaMaP
namespace Go.Proofs.Ytdmdaoginojalaa
open Go.RowKit

/-- No cell of the block is a limb. -/
def NoLimb (w : World) (g : Nat) : Prop := ∃ cs t fr, w.heap[g]? = some (.cells cs t fr) ∧ ∀ u ∈ cs.toList, ∀ x, u ≠ .int .u32 x
theorem NoLimb.below {w w' : World} {g : Nat} (h : NoLimb w g) (hg : g < w.heap.size) (hb : Below w.heap.size w w') : NoLimb w' g := by
  obtain ⟨cs, t, fr, h1, h2⟩ := h
  exact ⟨cs, t, fr, (hb.block g hg).trans h1, h2⟩
theorem noLimb_cells {w : World} {g : Nat} {cs : Array Value} {t : TypeId} {fr : Nat × Nat} (hg : w.heap[g]? = some (.cells cs t fr)) (h : ∀ u ∈ cs.toList, ∀ x, u ≠ .int .u32 x) : NoLimb w g := ⟨cs, t, fr, hg, h⟩
theorem cells_of_noLimb {w : World} {g : Nat} {cs : Array Value} {t : TypeId} {fr : Nat × Nat} (hg : w.heap[g]? = some (.cells cs t fr)) (h : NoLimb w g) : ∀ u ∈ cs.toList, ∀ x, u ≠ .int .u32 x := by
  obtain ⟨cs', t', fr', h1, h2⟩ := h
  rw [hg] at h1
  injection h1 with h1
  injection h1 with h1
  subst h1
  exact h2
theorem NoLimb.no {w : World} {g : Nat} (h : NoLimb w g) (a : Addr) (ha : a.block = g) (x : Int) : w.cell? a ≠ some (.int .u32 x) := by
  obtain ⟨cs, t, fr, h1, h2⟩ := h
  subst ha
  unfold World.cell?
  rw [h1]
  intro e
  have e' : (if a.spot.isSome then none else cs[a.off]?) = some (.int .u32 x) := e
  split at e'
  · cases e'
  · refine h2 (.int .u32 x) ?_ x rfl
    rw [← Array.getElem?_toList] at e'
    exact List.mem_of_getElem? e'
section
variable {P : Program} (w : World)
theorem run_append_limbs (t ty : TypeId) (base : Nat) (e : TypeId) (i : TypeInfo) (z : Value) (size bytes : Nat) (ht : P.underlying t = some (.slice e)) (hi : P.info? e = some i) (hz : i.zero = some z)
    (hsize : i.size = size) (hby : i.bytes = bytes) (hzs : z.cells.size = size) (hsz : 0 < size)
    (v : Value) (n : Nat) (xs : List Value) (hown : w.ownsRow base e size v n xs)
    (a : Addr) (m c : Nat) (news : List Value) (hl : news.length = m * size) (hnews : ∀ j u, news[j]? = some u → w.cell? (a.add j) = some u) (h1 : ∀ u ∈ news, u.oneCell' = true)
    (hm : 0 < m) (h63 : n + m ≤ maxLen) (hbytes : (n + m) * bytes ≤ 140737488355328) (hbase : base ≤ w.heap.size)
    (hq : ∀ g, v.ownBlock = some g → NoLimb w g) (hqn : ∀ u ∈ news, ∀ x, u ≠ .int .u32 x) (hqx : ∀ u ∈ xs, ∀ x, u ≠ .int .u32 x) (hqz : ∀ k, ∀ u ∈ (Builtin.zeroCells z.cells k).toList, ∀ x, u ≠ .int .u32 x) :
    ∃ g cap w', (Builtin.append_ #[t, t] ty #[v, .slice (some a) m c]).run P w = .ok (.slice (some ⟨g, 0, none⟩) (n + m) cap) w' ∧ w'.ownsRow base e size (.slice (some ⟨g, 0, none⟩) (n + m) cap) (n + m) (xs ++ news) ∧ w.grownBy w' v.ownBlock ∧
      (v.ownBlock = some g ∨ g = w.heap.size) ∧ g < w'.heap.size ∧ NoLimb w' g := by
  subst hsize
  subst hby
  have hsmall : n + m ≤ 9223372036854775807 := by simp only [maxLen] at h63; omega
  have hlen : (xs ++ news).length = (n + m) * i.size := by rw [List.length_append, hown.1, hl, Nat.add_mul]
  have grown : ∀ (old : Nat), old < n + m → ∀ (row : Option Nat),
      (w.drew.alloc (.cells (xs.toArray ++ news.toArray ++ Builtin.zeroCells z.cells (grownCap w (n + m) old e - (n + m))) e)).ownsRow base e i.size
        (.slice (some ⟨w.heap.size, 0, none⟩) (n + m) (grownCap w (n + m) old e)) (n + m) (xs ++ news) ∧
      w.grownBy (w.drew.alloc (.cells (xs.toArray ++ news.toArray ++ Builtin.zeroCells z.cells (grownCap w (n + m) old e - (n + m))) e)) row ∧
      NoLimb (w.drew.alloc (.cells (xs.toArray ++ news.toArray ++ Builtin.zeroCells z.cells (grownCap w (n + m) old e - (n + m))) e)) w.heap.size := by
    intro old ho row
    have hge := grownCap_ge w (n + m) old e
    have hcm : grownCap w (n + m) old e ≤ maxLen := grownCap_le_maxLen w (n + m) old e h63
    refine ⟨⟨hlen, .inr ⟨w.heap.size, _, _, rfl, hbase, heap_alloc_new w.drew _, hge, hcm, ?_, ?_⟩⟩, ⟨rfl, rfl, rfl, by simp, fun k hk _ => heap_alloc_old w.drew _ hk⟩, ?_⟩
    · simp only [Array.size_append, List.size_toArray, size_zeroCells, hzs, hown.1, hl, ← Nat.add_mul]
      congr 1
      omega
    · simp only [Array.toList_append, List.append_assoc]
      rw [← List.append_assoc, ← hlen]
      exact List.take_left
    · refine noLimb_cells (heap_alloc_new w.drew _) (fun u hu => ?_)
      simp only [Array.toList_append, List.mem_append] at hu
      rcases hu with (hu | hu) | hu
      · exact hqx u hu
      · exact hqn u hu
      · exact hqz _ u hu
  rcases hown.2 with ⟨rfl, rfl⟩ | ⟨g, cap, cur, rfl, hbg, hg, hnc, hcm, hcs, htake⟩
  · have hx : xs = [] := List.eq_nil_of_length_eq_zero (by simpa using hown.1)
    subst hx
    have hr := run_append_nil (P := P) w t ty e i z ht hi hz a m c news hl hnews (by omega) (by omega) (by have hb := hbytes; simp only [Nat.zero_add] at hb; omega)
    have hgr := grown 0 (by omega) (Value.ownBlock (.slice none 0 0))
    simp only [Nat.zero_add, List.nil_append, Array.empty_append] at hgr ⊢
    exact ⟨_, _, _, hr, hgr.1, hgr.2.1, .inr rfl, by simp, hgr.2.2⟩
  · have hNL := hq g rfl
    by_cases hroom : n + m ≤ cap
    · have hfit : n * i.size + news.length ≤ cur.size := by rw [hl, hcs, ← Nat.add_mul]; exact Nat.mul_le_mul_right _ hroom
      have hr := run_append_room (P := P) w t ty e i ht hi g n cap cur hg a m c news hl hnews h1 hroom hfit
      refine ⟨_, _, _, hr, ⟨hlen, .inr ⟨g, cap, _, rfl, hbg, setRow_heap w g cur _ e _ hg, hroom, hcm, ?_, ?_⟩⟩, ⟨rfl, rfl, rfl, by simp, fun k _ hk => setRow_other w g k _ (fun e => hk (by simp [Value.ownBlock, e]))⟩, .inl rfl, ?_, ?_⟩
      · simp only [List.size_toArray, List.length_append, List.length_take, List.length_drop, Array.length_toList]
        omega
      · rw [htake, ← hlen]
        exact List.take_left
      · exact (Array.getElem?_eq_some_iff.1 (setRow_heap w g cur _ e _ hg)).1
      · refine noLimb_cells (setRow_heap w g cur _ e _ hg) (fun u hu => ?_)
        have hold := cells_of_noLimb hg hNL
        simp only [List.mem_append] at hu
        rcases hu with (hu | hu) | hu
        · exact hold u (List.mem_of_mem_take hu)
        · exact hqn u hu
        · exact hold u (List.mem_of_mem_drop hu)
    · have holds : ∀ j u, xs[j]? = some u → w.cell? ((⟨g, 0, none⟩ : Addr).add j) = some u := hown.cells (g := g) rfl
      have hr := run_append_grow (P := P) w t ty e i z ht hi hz ⟨g, 0, none⟩ n cap xs hown.1 holds a m c news hl hnews (by omega) (by omega) (growslice_fits (by omega) hbytes)
      have hgr := grown cap (by omega) (Value.ownBlock (.slice (some ⟨g, 0, none⟩) n cap))
      exact ⟨_, _, _, hr, hgr.1, hgr.2.1, .inr rfl, by simp, hgr.2.2⟩
end
/-- A whole number stays through an append onto a row without limbs. -/
theorem IsInt.grown {w w' : World} {row : Option Nat} {neg : Bool} {A : Option Addr} {n c : Nat} {z : Int} (h : IsInt w neg A n c z) (hg : w.grownBy w' row) (hq : ∀ g, row = some g → NoLimb w g) : IsInt w' neg A n c z := by
  obtain ⟨l, ⟨⟨hl, hr⟩, h2⟩, h3⟩ := h
  refine ⟨l, ⟨⟨hl, fun h0 => ?_⟩, h2⟩, h3⟩
  obtain ⟨ad, e, hb, hc⟩ := hr h0
  refine ⟨ad, e, Nat.lt_of_lt_of_le hb hg.size, fun j u hu => ?_⟩
  have hcu := hc j u hu
  obtain ⟨_, hu2⟩ := u32s_get hu
  refine hg.cell hcu (fun e2 => ?_)
  rw [block_of_add] at e2
  have hN := hq ad.block e2.symm
  rw [hu2] at hcu
  exact hN.no (ad.add j) (block_of_add ad j) _ hcu
/-- At the operation. -/
theorem wp_append_limbs {P : Program} (w : World) {o : Oper} {a : Act} {K : Act → World → Prop} {Q : Exit → Act → World → Prop} (s x : Operand) (t : TypeId)
    (ho : o.op = .call { callee := .builtin .append, args := #[s, x], argTypes := #[t, t] })
    (base : Nat) (e : TypeId) (i : TypeInfo) (z : Value) (size bytes : Nat) (ht : P.underlying t = some (.slice e)) (hi : P.info? e = some i) (hz : i.zero = some z)
    (hsize : i.size = size) (hby : i.bytes = bytes) (hzs : z.cells.size = size) (hsz : 0 < size)
    (v : Value) (n : Nat) (xs : List Value) (hs : a.eval s = v) (hown : w.ownsRow base e size v n xs)
    (ad : Addr) (m c : Nat) (news : List Value) (hx : a.eval x = .slice (some ad) m c) (hl : news.length = m * size) (hnews : ∀ j u, news[j]? = some u → w.cell? (ad.add j) = some u) (h1 : ∀ u ∈ news, u.oneCell' = true)
    (hm : 0 < m) (h63 : n + m ≤ maxLen) (hbytes : (n + m) * bytes ≤ 140737488355328) (hbase : base ≤ w.heap.size)
    (hq : ∀ g, v.ownBlock = some g → NoLimb w g) (hqn : ∀ u ∈ news, ∀ x, u ≠ .int .u32 x) (hqx : ∀ u ∈ xs, ∀ x, u ≠ .int .u32 x) (hqz : ∀ k, ∀ u ∈ (Builtin.zeroCells z.cells k).toList, ∀ x, u ≠ .int .u32 x)
    (h : ∀ g cap w', w'.ownsRow base e size (.slice (some ⟨g, 0, none⟩) (n + m) cap) (n + m) (xs ++ news) → w.grownBy w' v.ownBlock → (v.ownBlock = some g ∨ g = w.heap.size) → g < w'.heap.size → NoLimb w' g → K (a.put o.dst (.slice (some ⟨g, 0, none⟩) (n + m) cap)) w') : o.wp P a w K Q := by
  obtain ⟨g, cap, w', hr, h2, h3, h4, h5, h6⟩ := run_append_limbs (P := P) w t o.type base e i z size bytes ht hi hz hsize hby hzs hsz v n xs hown ad m c news hl hnews h1 hm h63 hbytes hbase hq hqn hqx hqz
  unfold Oper.wp execOp
  simp only [ho, resolve, invoke, builtin, Sem.run_bind, Sem.run_pure, Result.andThen_ok, List.map_toArray, List.map_cons, List.map_nil, hs, hx, hr]
  exact h g cap w' h2 h3 h4 h5 h6
/-- At a step of a region that draws its order. -/
theorem step_append_limbs {P : Program} (w : World) {ops : Array Oper} {o : Oper} {a : Act} {K : Act → World → Prop} {Q : Exit → Act → World → Prop} {E : Prop} (hgd : o.guard = none) (s x : Operand) (t : TypeId)
    (ho : o.op = .call { callee := .builtin .append, args := #[s, x], argTypes := #[t, t] })
    (base : Nat) (e : TypeId) (i : TypeInfo) (z : Value) (size bytes : Nat) (ht : P.underlying t = some (.slice e)) (hi : P.info? e = some i) (hz : i.zero = some z)
    (hsize : i.size = size) (hby : i.bytes = bytes) (hzs : z.cells.size = size) (hsz : 0 < size)
    (v : Value) (n : Nat) (xs : List Value) (hs : a.eval s = v) (hown : w.ownsRow base e size v n xs)
    (ad : Addr) (m c : Nat) (news : List Value) (hx : a.eval x = .slice (some ad) m c) (hl : news.length = m * size) (hnews : ∀ j u, news[j]? = some u → w.cell? (ad.add j) = some u) (h1 : ∀ u ∈ news, u.oneCell' = true)
    (hm : 0 < m) (h63 : n + m ≤ maxLen) (hbytes : (n + m) * bytes ≤ 140737488355328) (hbase : base ≤ w.heap.size)
    (hq : ∀ g, v.ownBlock = some g → NoLimb w g) (hqn : ∀ u ∈ news, ∀ x, u ≠ .int .u32 x) (hqx : ∀ u ∈ xs, ∀ x, u ≠ .int .u32 x) (hqz : ∀ k, ∀ u ∈ (Builtin.zeroCells z.cells k).toList, ∀ x, u ≠ .int .u32 x)
    (h : ∀ g cap w', w'.ownsRow base e size (.slice (some ⟨g, 0, none⟩) (n + m) cap) (n + m) (xs ++ news) → w.grownBy w' v.ownBlock → (v.ownBlock = some g ∨ g = w.heap.size) → g < w'.heap.size → NoLimb w' g → K (a.put o.dst (.slice (some ⟨g, 0, none⟩) (n + m) cap)) w') :
    if Region.wanted o (yielded ops a.tmps) = true then Oper.wp P o a w K Q else E := by
  have hw : Region.wanted o (yielded ops a.tmps) = true := by simp [Region.wanted, hgd]
  rw [if_pos hw]
  exact wp_append_limbs w s x t ho base e i z size bytes ht hi hz hsize hby hzs hsz v n xs hs hown ad m c news hx hl hnews h1 hm h63 hbytes hbase hq hqn hqx hqz h
end Go.Proofs.Ytdmdaoginojalaa

namespace Go.Proofs.Ytdmdaoginojalaa
open Go.RowKit

set_option maxRecDepth 100000 in
set_option maxHeartbeats 3200000 in
theorem rat_over_any (neg neg' : Bool) (A A' : Option Addr) (n c n' c' : Nat) (nfg nfg' : Bool) (C C' : Option Addr) (p q p' q' : Nat) (x y : Rat) (r : Rat) (m k : Nat) (w : World) (hx : IsInt w neg A n c x.num) (hx' : IsInt w neg' A' n' c' (x.den : Int)) (hy : IsInt w nfg C p q y.num) (hy' : IsInt w nfg' C' p' q' (y.den : Int)) (sx : Sz x m) (sy : Sz y k) (hm : m + k < 1000000) (h0 : y ≠ 0) (hr : Hid (x / y = r)) :
    Calls Try.prog 57 #[.agg #[.bool neg, .slice A n c, .bool neg', .slice A' n' c'], .agg #[.bool nfg, .slice C p q, .bool nfg', .slice C' p' q']] w (RetFr w r) := by
  have K0 := ((((((Mm.nil w).int hx).int hx').int hy).int hy').var (g := w.heap.size) rfl [.bool neg, .slice A n c, .bool neg', .slice A' n' c'] 26).var (g := w.heap.size + 1) (by simp) [.bool nfg, .slice C p q, .bool nfg', .slice C' p' q'] 26 |>.var (g := w.heap.size + 1 + 1) (by simp) [.bool false, .slice none 0 0, .bool false, .slice none 0 0] 26
  have hn := int_len hx sx.1
  have hn' := int_len hx' sx.2
  have hp := int_len hy sy.1
  have hp' := int_len hy' sy.2
  have HP1 : Hid ((x.num * (y.den : Int)).natAbs < 2 ^ (32 * (m + k))) := Lib.hid (by rw [Int.natAbs_mul]; exact mul_lt_pow sx.1 sy.2)
  have HP2 : Hid (((x.den : Int) * y.num).natAbs < 2 ^ (32 * (m + k))) := Lib.hid (by rw [Int.natAbs_mul]; exact mul_lt_pow sx.2 sy.1)
  have HD : Hid ((x.den : Int) * y.num ≠ 0) := Lib.hid (Int.mul_ne_zero (den_ne x) (fun h => h0 (Rat.num_eq_zero.1 h)))
  have HR : Hid (Rat.divInt (x.num * (y.den : Int)) ((x.den : Int) * y.num) = r) := Lib.hid (by rw [div_frac x y h0]; exact hr.out)
  clear hr h0
  clear hx hx' hy hy' sx sy
  go_enter Try.func57, Try.ntmps57
  go_wp2_with fail
  generalize ((w.alloc (.cells #[.bool neg, .slice A n c, .bool neg', .slice A' n' c'] 26)).alloc (.cells #[.bool nfg, .slice C p q, .bool nfg', .slice C' p' q'] 26)).alloc (.cells #[.bool false, .slice none 0 0, .bool false, .slice none 0 0] 26) = w0 at K0 ⊢
  obtain ⟨⟨qa0x, qb0x, qc0x, qd0x⟩, ⟨qe0x, qf0x, qg0x, qh0x⟩, qi0x⟩ := (K0.blk (g := w.heap.size) (vs := [.bool neg, .slice A n c, .bool neg', .slice A' n' c']) (by simp)).four
  obtain ⟨⟨qa0y, qb0y, qc0y, qd0y⟩, ⟨qe0y, qf0y, qg0y, qh0y⟩, qi0y⟩ := (K0.blk (g := w.heap.size + 1) (vs := [.bool nfg, .slice C p q, .bool nfg', .slice C' p' q']) (by simp)).four
  have e0a : ¬ w.heap.size + 1 + 1 = w.heap.size := by omega
  have e0b : ¬ w.heap.size = w.heap.size + 1 + 1 := by omega
  have e1a : ¬ w.heap.size + 1 + 1 = w.heap.size + 1 := by omega
  have e1b : ¬ w.heap.size + 1 = w.heap.size + 1 + 1 := by omega
  go_region_held3 (fun w' => w'.cell? ⟨w.heap.size, 0, none⟩ = some (.bool neg) ∧ w'.cell? ⟨w.heap.size, 1, none⟩ = some (.slice A n c) ∧ w'.cell? ⟨w.heap.size, 2, none⟩ = some (.bool neg') ∧ w'.cell? ⟨w.heap.size, 3, none⟩ = some (.slice A' n' c') ∧ w'.cell? ⟨w.heap.size + 1, 0, none⟩ = some (.bool nfg) ∧ w'.cell? ⟨w.heap.size + 1, 1, none⟩ = some (.slice C p q) ∧ w'.cell? ⟨w.heap.size + 1, 2, none⟩ = some (.bool nfg') ∧ w'.cell? ⟨w.heap.size + 1, 3, none⟩ = some (.slice C' p' q'))
    (go_keep)
    (first
      | (go_at_call 89; (with_reducible refine (ex_times_any neg nfg' A C' n c p' q' x.num (y.den : Int) _ ?_ ?_ (by omega) (by omega)).mono ?_); (first | (with_reducible exact K0.at_ (by simp)) | (with_reducible exact K0.drew.at_ (by simp)) | (with_reducible exact (K0.drewN _).at_ (by simp))); (first | (with_reducible exact K0.at_ (by simp)) | (with_reducible exact K0.drew.at_ (by simp)) | (with_reducible exact (K0.drewN _).at_ (by simp))); rintro e1 w1 ⟨neg1, A1, n1, c1, rfl, I1, hb1⟩; (first | (with_reducible have K1 := (K0.next hb1).int I1) | (with_reducible have K1 := (K0.drew.next hb1).int I1) | (with_reducible have K1 := ((K0.drewN _).next hb1).int I1)); have hn1 : n1 ≤ 1000000 := Nat.le_trans (int_len I1 HP1.out) (by omega); have Q1x := (K1.blk (g := w.heap.size) (vs := [.bool neg, .slice A n c, .bool neg', .slice A' n' c']) (by simp)).four; obtain ⟨⟨qa1x, qb1x, qc1x, qd1x⟩, ⟨qe1x, qf1x, qg1x, qh1x⟩, qi1x⟩ := Q1x; have Q1y := (K1.blk (g := w.heap.size + 1) (vs := [.bool nfg, .slice C p q, .bool nfg', .slice C' p' q']) (by simp)).four; obtain ⟨⟨qa1y, qb1y, qc1y, qd1y⟩, ⟨qe1y, qf1y, qg1y, qh1y⟩, qi1y⟩ := Q1y; have Q1r := (K1.blk (g := w.heap.size + 1 + 1) (vs := [.bool false, .slice none 0 0, .bool false, .slice none 0 0]) (by simp)).four; obtain ⟨⟨qa1r, qb1r, qc1r, qd1r⟩, ⟨qe1r, qf1r, qg1r, qh1r⟩, qi1r⟩ := Q1r; clear I1 hb1)
      | (go_at_call 89; (with_reducible refine (ex_times_any neg' nfg A' C n' c' p q (x.den : Int) y.num _ ?_ ?_ (by omega) (by omega)).mono ?_); (first | (with_reducible exact K1.at_ (by simp)) | (with_reducible exact K1.drew.at_ (by simp)) | (with_reducible exact (K1.drewN _).at_ (by simp))); (first | (with_reducible exact K1.at_ (by simp)) | (with_reducible exact K1.drew.at_ (by simp)) | (with_reducible exact (K1.drewN _).at_ (by simp))); rintro e2 w2 ⟨neg2, A2, n2, c2, rfl, I2, hb2⟩; (first | (with_reducible have K2 := (K1.next hb2).int I2) | (with_reducible have K2 := (K1.drew.next hb2).int I2) | (with_reducible have K2 := ((K1.drewN _).next hb2).int I2)); have hn2 : n2 ≤ 1000000 := Nat.le_trans (int_len I2 HP2.out) (by omega); have Q2x := (K2.blk (g := w.heap.size) (vs := [.bool neg, .slice A n c, .bool neg', .slice A' n' c']) (by simp)).four; obtain ⟨⟨qa2x, qb2x, qc2x, qd2x⟩, ⟨qe2x, qf2x, qg2x, qh2x⟩, qi2x⟩ := Q2x; have Q2y := (K2.blk (g := w.heap.size + 1) (vs := [.bool nfg, .slice C p q, .bool nfg', .slice C' p' q']) (by simp)).four; obtain ⟨⟨qa2y, qb2y, qc2y, qd2y⟩, ⟨qe2y, qf2y, qg2y, qh2y⟩, qi2y⟩ := Q2y; have Q2r := (K2.blk (g := w.heap.size + 1 + 1) (vs := [.bool false, .slice none 0 0, .bool false, .slice none 0 0]) (by simp)).four; obtain ⟨⟨qa2r, qb2r, qc2r, qd2r⟩, ⟨qe2r, qf2r, qg2r, qh2r⟩, qi2r⟩ := Q2r; clear I2 hb2)
      | (go_at_call 91; (with_reducible refine (rat_low_any neg1 neg2 A1 A2 n1 c1 n2 c2 (x.num * (y.den : Int)) ((x.den : Int) * y.num) r _ ?_ ?_ hn1 hn2 HD.out HR).mono ?_); (first | (with_reducible exact K2.at_ (by simp)) | (with_reducible exact K2.drew.at_ (by simp)) | (with_reducible exact (K2.drewN _).at_ (by simp))); (first | (with_reducible exact K2.at_ (by simp)) | (with_reducible exact K2.drew.at_ (by simp)) | (with_reducible exact (K2.drewN _).at_ (by simp))); rintro e3 w3 ⟨neg3, A3, n3, c3, ne3, B3, m3, d3, rfl, I3, J3, hb3⟩; (first | (with_reducible have K3 := ((K2.next hb3).int J3).int I3) | (with_reducible have K3 := ((K2.drew.next hb3).int J3).int I3) | (with_reducible have K3 := (((K2.drewN _).next hb3).int J3).int I3)); have Q3x := (K3.blk (g := w.heap.size) (vs := [.bool neg, .slice A n c, .bool neg', .slice A' n' c']) (by simp)).four; obtain ⟨⟨qa3x, qb3x, qc3x, qd3x⟩, ⟨qe3x, qf3x, qg3x, qh3x⟩, qi3x⟩ := Q3x; have Q3y := (K3.blk (g := w.heap.size + 1) (vs := [.bool nfg, .slice C p q, .bool nfg', .slice C' p' q']) (by simp)).four; obtain ⟨⟨qa3y, qb3y, qc3y, qd3y⟩, ⟨qe3y, qf3y, qg3y, qh3y⟩, qi3y⟩ := Q3y; have Q3r := (K3.blk (g := w.heap.size + 1 + 1) (vs := [.bool false, .slice none 0 0, .bool false, .slice none 0 0]) (by simp)).four; obtain ⟨⟨qa3r, qb3r, qc3r, qd3r⟩, ⟨qe3r, qf3r, qg3r, qh3r⟩, qi3r⟩ := Q3r; clear I3 J3 hb3))
  go_wp2_with fail
  have KE := (K3.pick (L' := [(w.heap.size + 1 + 1, [.bool false, .slice none 0 0, .bool false, .slice none 0 0])]) (l' := [(neg3, A3, n3, c3, r.num), (ne3, B3, m3, d3, (r.den : Int))]) (by simp) (by simp)).set4 (by simp <;> omega) neg3 A3 n3 c3 ne3 B3 m3 d3
  exact bodyPost_ret (v := .agg #[.bool neg3, .slice A3 n3 c3, .bool ne3, .slice B3 m3 d3]) (by simp [results, Try.results57, go_sem, qa3r, qb3r, qc3r, qd3r]) rfl ⟨_, _, _, _, _, _, _, _, rfl, KE.at_ (by simp), KE.at_ (by simp), KE.1⟩

end Go.Proofs.Ytdmdaoginojalaa

namespace Go.Proofs.Ytdmdaoginojalaa
theorem all_nil {α : Type} {p : α → Prop} : ∀ b ∈ ([] : List α), p b := fun _ h => absurd h (by simp)
theorem all_cons {α : Type} {p : α → Prop} {a : α} {l : List α} (h : p a) (k : ∀ b ∈ l, p b) : ∀ b ∈ a :: l, p b := fun b hb => by
  rcases List.mem_cons.1 hb with rfl | hb
  · exact h
  · exact k b hb
end Go.Proofs.Ytdmdaoginojalaa
