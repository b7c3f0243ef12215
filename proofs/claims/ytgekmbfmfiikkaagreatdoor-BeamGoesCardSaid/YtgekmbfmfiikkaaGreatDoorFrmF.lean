/-
  The row's last step where no more is known of the world left than that it is the old one below (a kit's small lemma, copied as its page bids).
  Arguments in memory read as they did where no more is known of the world left than that it is the old one below.
  Fractions, complex numbers and matrices that came in, opened.
-/
import Derived.Below
import Derived.ChangeSame
import Derived.Carry
import Derived.Deep.Slices
import Derived.Deep.Strs
import Derived.Test.YtgekmbfmfiikkaaGreatDoorZero
import Derived.SizedLaws
import Derived.ProofKit
set_option maxRecDepth 100000
namespace Go.Proofs.YtgekmbfmfiikkaaGreatDoor
open Go.RowKit Go.WideShapes Go.ChangeShapes
section
variable {H : Type} {enc : TypeId × Value → H} {P : Program}
theorem post_of_below {f : Func} {s : ChangeSpec} {apart fresh handsOn again : Bool} {W W' : World} {args : Array Value} {v : Value} {ds gs : List (DataW H)} {before pa pv : List MemPlace}
  (hW : DataW.Whole enc P f.params.toList s.vars apart W args.toList ds gs before)
  (hres : ∀ (b : Nat) (sp : Nat → Bool) (hd : Bool), DataW.TrodAll enc P W' b sp hd f.resultTypes.toList (v.resultList f.resultTypes.size) (s.fn H (ds ++ gs)).results [])
  (hargs : ∀ sp : Nat → Bool, (∀ p ∈ before, sp p.block = true) → DataW.TrodAll enc P W' 0 sp true f.params.toList args.toList (s.fn H (ds ++ gs)).args pa)
  (hvars : ∀ sp : Nat → Bool, (∀ p ∈ before, sp p.block = true) → DataW.TrodVars enc P W' sp s.vars (s.fn H (ds ++ gs)).vars pv)
  (hps : before = pa ++ pv) (hb : Below W.heap.size W W')
  (hok : ∀ (j : Nat) (t : TypeId) (r : Value), f.resultTypes[j]? = some t → (v.resultList f.resultTypes.size)[j]? = some r → Value.okWide P W' .any 0 t r) :
  s.post enc P f apart fresh handsOn again W args v W' := by
 have hlt : ∀ p ∈ before, p.block < W.heap.size := fun p hp => hW.lt p hp
 have hold : ∀ p ∈ before, (fun b => decide (b < W.heap.size)) p.block = true := fun p hp => by simpa using hlt p hp
 refine ⟨ds, gs, before, [], pa, pv, hW, hres _ _ _, hargs _ hold, hvars _ hold, World.keptBut_mono (fun p hp => ⟨hp, ?_⟩) (hb.frame (· ∈ before)), fun _ => ?_⟩
 ·rw [hps, List.mem_append] at hp
  exact Or.inr hp
 ·obtain ⟨_, _, _, _, _, hz, hn⟩ := hW
  refine ⟨hok, _, _, ([] ++ pa) ++ pv, ⟨[] ++ pa, pv, trodAll_append (hargs _ (fun _ _ => rfl)) (hres _ _ _), hvars _ (fun _ _ => rfl), rfl, ?_, ?_⟩, ?_⟩
  ·intro b off hp
   have hin : MemPlace.cell b off ∈ before := by rw [hps]; simpa using hp
   rw [hb.frozen (hlt _ hin)]
   exact hz b off hin
  ·intro ha
   have := hn ha
   rw [hps] at this
   simpa using this
  ·intro p hp _
   rw [hps]
   simpa using hp
end
section
variable {H : Type} {enc : TypeId × Value → H} {P : Program} {w : World} {base : Nat} {spare : Nat → Bool} {held : Bool}
end
end Go.Proofs.YtgekmbfmfiikkaaGreatDoor
namespace Go.Proofs.YtgekmbfmfiikkaaGreatDoor
open Go.RowKit Go.WideShapes Go.ChangeShapes
section
variable {H : Type} {enc : TypeId × Value → H} {P : Program}
theorem trodAll_later (hl : laidOutB P = true) {W W' : World} (hb : Below W.heap.size W W') {sp : Nat → Bool} : ∀ (ts : List TypeId) (vs : List Value) (ds : List (DataW H)) (ps : List MemPlace),
  (∀ t ∈ ts, P.readableRec t = true ∧ t < P.types.size) → DataW.TrodAll enc P W 0 (fun _ => true) true ts vs ds ps → (∀ p ∈ ps, p.block < W.heap.size) → (∀ p ∈ ps, sp p.block = true) →
  DataW.TrodAll enc P W' 0 sp true ts vs ds ps
 | [], vs, ds, ps, _, h, _, _ => by
  obtain ⟨rfl, rfl, rfl⟩ := trodAll_nil h
  exact trodAll_mk0
 | t :: ts, vs, ds, ps, ht, h, h1, h2 => by
  obtain ⟨v, vs', d, ds', p, q, rfl, rfl, rfl, hd, hr⟩ := trodAll_cons h
  obtain ⟨a, b⟩ := ht t List.mem_cons_self
  refine ⟨p, q, WideElems.Trod_stays hl a b hd (fun x hx => hb.same (h1 x (List.mem_append_left _ hx))) (fun x hx => h2 x (List.mem_append_left _ hx)), ?_, rfl⟩
  exact trodAll_later hl hb ts vs' ds' q (fun t' h' => ht t' (List.mem_cons_of_mem _ h')) hr (fun x hx => h1 x (List.mem_append_right _ hx)) (fun x hx => h2 x (List.mem_append_right _ hx))
end
end Go.Proofs.YtgekmbfmfiikkaaGreatDoor
namespace Go.Proofs.YtgekmbfmfiikkaaGreatDoor
open Go.ChangeShapes Go.WideShapes Go.ChangeAt Go.RowKit
theorem limb_cells : Tryz.prog.cellsOf 164 = 1 := by kernel_rfl
theorem limbs_cells : Tryz.prog.cellsOf 22 = 1 := by kernel_rfl
theorem truth_cells : Tryz.prog.cellsOf 4 = 1 := by kernel_rfl
theorem whole_cells : Tryz.prog.cellsOf 24 = 2 := by kernel_rfl
theorem limb_bytes : Tryz.prog.bytesOf 164 = 4 := by kernel_rfl
section
variable {H : Type} {enc : TypeId × Value → H} {W : World}
theorem open_limbs {fuel : Nat} {cs : List Value} {x : DataW H × List MemPlace} (h : DataW.trod enc Tryz.prog W 0 (fun _ => true) true fuel 22 cs = some x) :
  ∃ A n c l, cs = [.slice A n c] ∧ Sl W A n c l ∧ ((x.1.weights Tryz.prog 22).all (· ≤ reachBytes) = true → n ≤ 281474976710656) := by
 rcases open_ints Tryz.underlying22 Tryz.underlying164 limb_cells h with ⟨rfl, rfl⟩ | ⟨a, len, cap, zs, rfl, _, hl, hm, hz, rfl, hc, hw⟩
 ·exact ⟨none, 0, 0, [], rfl, ⟨Reads.nil, Nat.le_refl _, fun x hx => absurd hx (by simp)⟩, fun _ => by omega⟩
 ·rw [if_pos rfl] at hz
  have hlt : (zs.take len).length = len := by rw [List.length_take]; omega
  have hval : ∀ z ∈ zs, (0 : Int) ≤ z ∧ z < 4294967296 := by
   intro z hzz
   have h := hw z hzz
   have h1 : IntKind.min .u32 = 0 := rfl
   have h2 : IntKind.max .u32 = 4294967295 := rfl
   simp only [Lit.wf, h1, h2, Bool.and_eq_true, decide_eq_true_eq] at h
   omega
  refine ⟨some a, len, cap, (zs.take len).map Int.toNat, rfl, ⟨⟨by unfold u32s; simpa using hlt, fun h0 => ⟨a, rfl, ?_, fun j u hu => ?_⟩⟩, hl, ?_⟩, fun hs => ?_⟩
  ·have := hc 0 (by omega)
   exact World.block_lt_of_cell? _ _ this
  ·unfold u32s at hu
   rw [List.map_map, List.getElem?_map] at hu
   rcases Nat.lt_or_ge j len with hj | hj
   ·rw [List.getElem?_eq_getElem (by omega)] at hu
    simp only [Option.map_some, Option.some.injEq, Function.comp] at hu
    subst hu
    have h1 := hc j (by omega)
    have h2 : zs.getD j 0 = zs[j]'(by omega) := by simp [List.getD, show j < zs.length by omega]
    have h3 : (zs.take len)[j]'(by omega) = zs[j]'(by omega) := List.getElem_take ..
    have h4 := hval _ (List.getElem_mem (l := zs) (n := j) (by omega))
    rw [h1, h2, h3, Int.toNat_of_nonneg h4.1]
   ·rw [List.getElem?_eq_none (by omega)] at hu
    cases hu
  ·intro y hy
   obtain ⟨z, hz1, rfl⟩ := List.mem_map.1 hy
   have := hval z (List.mem_of_mem_take hz1)
   show Int.toNat z < 4294967296
   omega
  ·have hk := List.all_eq_true.1 hs (((lits (H := H) .u32 (zs.take len)).length + (lits (H := H) .u32 (zs.drop len)).length) * Tryz.prog.bytesOf 164) (by simp [DataW.weights, Tryz.underlying22])
   rw [limb_bytes] at hk
   simp only [lits, List.length_map, List.length_take, List.length_drop, reachBytes, decide_eq_true_eq] at hk
   omega
theorem open_whole {fuel : Nat} {cs : List Value} {x : DataW H × List MemPlace} (h : DataW.trod enc Tryz.prog W 0 (fun _ => true) true fuel 24 cs = some x) :
  ∃ neg A n c l, cs = [.bool neg, .slice A n c] ∧ Sl W A n c l ∧ ((x.1.weights Tryz.prog 24).all (· ≤ reachBytes) = true → n ≤ 281474976710656) := by
 obtain ⟨y0, y1, k, rfl, hlen, g0, g1⟩ := trod_struct2 Tryz.underlying24 h
 rw [whole_cells] at hlen
 match cs, hlen with
 | [v0, v1], _ =>
  simp [truth_cells, limbs_cells] at g0 g1
  obtain ⟨b, e0, _⟩ := DataW.trod_bool Tryz.underlying4 g0
  obtain ⟨A, n, c, l, e1, hS, hn⟩ := open_limbs g1
  simp at e0 e1
  subst e0 e1
  refine ⟨b, A, n, c, l, rfl, hS, fun hs => hn ?_⟩
  simp [DataW.weights, DataW.weightsEach, Tryz.underlying24] at hs
  simpa using hs.2
theorem frac_cells : Tryz.prog.cellsOf 26 = 4 := by kernel_rfl
theorem open_frac_cells {fuel : Nat} {cs : List Value} {x : DataW H × List MemPlace} (h : DataW.trod enc Tryz.prog W 0 (fun _ => true) true fuel 26 cs = some x) :
  ∃ sa Aa na ca la za Ba ma da ka, cs = [.bool sa, .slice Aa na ca, .bool za, .slice Ba ma da] ∧ Sl W Aa na ca la ∧ Sl W Ba ma da ka ∧ ((x.1.weights Tryz.prog 26).all (· ≤ reachBytes) = true → na ≤ 281474976710656 ∧ ma ≤ 281474976710656) := by
 obtain ⟨y0, y1, k, hx, hlen, g0, g1⟩ := trod_struct2 Tryz.underlying26 h
 rw [frac_cells] at hlen
 subst hx
 match cs, hlen with
 | [v0, v1, v2, v3], _ =>
  simp [whole_cells] at g0 g1
  obtain ⟨neg, A, n, c, l, e0, hS, hn⟩ := open_whole g0
  obtain ⟨neg', A', n', c', l', e1, hS', hn'⟩ := open_whole g1
  simp at e0 e1
  obtain ⟨rfl, rfl⟩ := e0
  obtain ⟨rfl, rfl⟩ := e1
  refine ⟨neg, A, n, c, l, neg', A', n', c', l', rfl, hS, hS', fun hs => ?_⟩
  simp only [DataW.weights, DataW.weightsEach, Tryz.underlying26, List.map_cons, List.map_nil, List.append_nil, List.all_append, Bool.and_eq_true] at hs
  exact ⟨hn hs.1, hn' hs.2⟩
theorem gauss_cells : Tryz.prog.cellsOf 30 = 8 := by kernel_rfl
theorem matrix_cells : Tryz.prog.cellsOf 28 = 16 := by kernel_rfl
theorem open_gauss {v : Value} {d : DataW H} {ps : List MemPlace} (h : DataW.Trod enc Tryz.prog W 0 (fun _ => true) true 30 v d ps) (hv : ∃ cs, v = .agg cs) :
  ∃ sa Aa na ca la za Ba ma da ka sb Ab nb cb lb zb Bb mb db kb, v = .agg #[.bool sa, .slice Aa na ca, .bool za, .slice Ba ma da, .bool sb, .slice Ab nb cb, .bool zb, .slice Bb mb db] ∧ Sl W Aa na ca la ∧ Sl W Ba ma da ka ∧ Sl W Ab nb cb lb ∧ Sl W Bb mb db kb ∧ ((d.weights Tryz.prog 30).all (· ≤ reachBytes) = true → na ≤ 281474976710656 ∧ ma ≤ 281474976710656 ∧ nb ≤ 281474976710656 ∧ mb ≤ 281474976710656) := by
 obtain ⟨cs, rfl⟩ := hv
 obtain ⟨fuel, hf⟩ := h
 obtain ⟨y0, y1, k, hx, hlen, g0, g1⟩ := trod_struct2 Tryz.underlying30 hf
 simp only [Value.cells] at hlen g0 g1
 rw [gauss_cells] at hlen
 injection hx with hx1 hx2
 subst hx1
 obtain ⟨cs⟩ := cs
 match cs, hlen with
 | [v0, v1, v2, v3, v4, v5, v6, v7], _ =>
  simp [frac_cells] at g0 g1
  obtain ⟨sa, Aa, na, ca, la, za, Ba, ma, da, ka, e0, ha, ia, ba⟩ := open_frac_cells g0
  obtain ⟨sb, Ab, nb, cb, lb, zb, Bb, mb, db, kb, e1, hb, ib, bb⟩ := open_frac_cells g1
  simp at e0 e1
  obtain ⟨rfl, rfl, rfl, rfl⟩ := e0
  obtain ⟨rfl, rfl, rfl, rfl⟩ := e1
  refine ⟨sa, Aa, na, ca, la, za, Ba, ma, da, ka, sb, Ab, nb, cb, lb, zb, Bb, mb, db, kb, rfl, ha, ia, hb, ib, fun hs => ?_⟩
  simp only [DataW.weights, DataW.weightsEach, Tryz.underlying30, List.map_cons, List.map_nil, List.append_nil, List.all_append, Bool.and_eq_true] at hs
  exact ⟨(ba hs.1).1, (ba hs.1).2, bb hs.2⟩
theorem trod_four {t : TypeId} {f0 f1 f2 f3 : Field} {fuel : Nat} {cs : List Value} {x : DataW H × List MemPlace} {P : Program} {w : World} {base : Nat} {spare : Nat → Bool} {held : Bool} (ht : P.underlying t = some (.struct #[f0, f1, f2, f3])) (h : DataW.trod enc P w base spare held fuel t cs = some x) :
  ∃ y0 y1 y2 y3 n, x.1 = .agg [y0.1, y1.1, y2.1, y3.1] ∧ cs.length = P.cellsOf t ∧ DataW.trod enc P w base spare held n f0.type ((cs.drop f0.offset).take (P.cellsOf f0.type)) = some y0 ∧
   DataW.trod enc P w base spare held n f1.type ((cs.drop f1.offset).take (P.cellsOf f1.type)) = some y1 ∧ DataW.trod enc P w base spare held n f2.type ((cs.drop f2.offset).take (P.cellsOf f2.type)) = some y2 ∧
   DataW.trod enc P w base spare held n f3.type ((cs.drop f3.offset).take (P.cellsOf f3.type)) = some y3 := by
 obtain ⟨xs, n, _, rfl, hl, hlen, hf⟩ := DataW.trod_struct ht h
 match xs, hlen with
 | [y0, y1, y2, y3], _ => exact ⟨y0, y1, y2, y3, n, by simp, hl, by simpa using hf 0 f0 rfl, by simpa using hf 1 f1 rfl, by simpa using hf 2 f2 rfl, by simpa using hf 3 f3 rfl⟩
theorem open_matrix {v : Value} {d : DataW H} {ps : List MemPlace} (h : DataW.Trod enc Tryz.prog W 0 (fun _ => true) true 28 v d ps) (hv : ∃ cs, v = .agg cs) :
  ∃ sa Aa na ca la za Ba ma da ka sb Ab nb cb lb zb Bb mb db kb sc Ac nc cc lc zc Bc mc dc kc sd Ad nd cd ld zd Bd md dd kd, v = .agg #[.bool sa, .slice Aa na ca, .bool za, .slice Ba ma da, .bool sb, .slice Ab nb cb, .bool zb, .slice Bb mb db, .bool sc, .slice Ac nc cc, .bool zc, .slice Bc mc dc, .bool sd, .slice Ad nd cd, .bool zd, .slice Bd md dd] ∧ Sl W Aa na ca la ∧ Sl W Ba ma da ka ∧ Sl W Ab nb cb lb ∧ Sl W Bb mb db kb ∧ Sl W Ac nc cc lc ∧ Sl W Bc mc dc kc ∧ Sl W Ad nd cd ld ∧ Sl W Bd md dd kd ∧ ((d.weights Tryz.prog 28).all (· ≤ reachBytes) = true → na ≤ 281474976710656 ∧ ma ≤ 281474976710656 ∧ nb ≤ 281474976710656 ∧ mb ≤ 281474976710656 ∧ nc ≤ 281474976710656 ∧ mc ≤ 281474976710656 ∧ nd ≤ 281474976710656 ∧ md ≤ 281474976710656) := by
 obtain ⟨cs, rfl⟩ := hv
 obtain ⟨fuel, hf⟩ := h
 obtain ⟨y0, y1, y2, y3, k, hx, hlen, g0, g1, g2, g3⟩ := trod_four Tryz.underlying28 hf
 simp only [Value.cells] at hlen g0 g1 g2 g3
 rw [matrix_cells] at hlen
 simp only at hx
 subst hx
 obtain ⟨cs⟩ := cs
 match cs, hlen with
 | [v0, v1, v2, v3, v4, v5, v6, v7, v8, v9, v10, v11, v12, v13, v14, v15], _ =>
  simp [frac_cells] at g0 g1 g2 g3
  obtain ⟨sa, Aa, na, ca, la, za, Ba, ma, da, ka, e0, ha, ia, ba⟩ := open_frac_cells g0
  obtain ⟨sb, Ab, nb, cb, lb, zb, Bb, mb, db, kb, e1, hb, ib, bb⟩ := open_frac_cells g1
  obtain ⟨sc, Ac, nc, cc, lc, zc, Bc, mc, dc, kc, e2, hc, ic, bc⟩ := open_frac_cells g2
  obtain ⟨sd, Ad, nd, cd, ld, zd, Bd, md, dd, kd, e3, hd, id, bd⟩ := open_frac_cells g3
  simp at e0 e1 e2 e3
  obtain ⟨rfl, rfl, rfl, rfl⟩ := e0
  obtain ⟨rfl, rfl, rfl, rfl⟩ := e1
  obtain ⟨rfl, rfl, rfl, rfl⟩ := e2
  obtain ⟨rfl, rfl, rfl, rfl⟩ := e3
  refine ⟨sa, Aa, na, ca, la, za, Ba, ma, da, ka, sb, Ab, nb, cb, lb, zb, Bb, mb, db, kb, sc, Ac, nc, cc, lc, zc, Bc, mc, dc, kc, sd, Ad, nd, cd, ld, zd, Bd, md, dd, kd, rfl, ha, ia, hb, ib, hc, ic, hd, id, fun hs => ?_⟩
  simp only [DataW.weights, DataW.weightsEach, Tryz.underlying28, List.map_cons, List.map_nil, List.append_nil, List.all_append, Bool.and_eq_true] at hs
  exact ⟨(ba hs.1).1, (ba hs.1).2, (bb hs.2.1).1, (bb hs.2.1).2, (bc hs.2.2.1).1, (bc hs.2.2.1).2, bd hs.2.2.2⟩
end
end Go.Proofs.YtgekmbfmfiikkaaGreatDoor
