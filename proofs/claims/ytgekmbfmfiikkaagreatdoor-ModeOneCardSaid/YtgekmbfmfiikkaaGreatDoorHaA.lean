/-
  The row's last step where no more is known of the world left than that it is the old one below (a kit's small lemma, copied as its page bids).
  Arguments in memory read as they did where no more is known of the world left than that it is the old one below.
  Fractions, complex numbers and matrices that came in, opened.
  Which beam does a cavity keep? (plain)
  What becomes of any complex number behind any matrix, by both sides.
  A whole number from 0 on, halved (exact.Halved by one).
-/
import Derived.Below
import Derived.ChangeSame
import Derived.Carry
import Derived.Deep.Slices
import Derived.Deep.Strs
import Derived.Test.YtgekmbfmfiikkaaGreatDoorZero
import Derived.SizedLaws
import Derived.ProofKit
import Derived.Test.YtgekmbfmfiikkaaGreatDoorBey
import Derived.Test.YtgekmbfmfiikkaaGreatDoorOwN
import Derived.Test.YtgekmbfmfiikkaaGreatDoorEyB
import Derived.Test.YtgekmbfmfiikkaaGreatDoorMeg
import Derived.Test.YtgekmbfmfiikkaaGreatDoorLst
import Derived.Test.YtgekmbfmfiikkaaGreatDoorLnB
import Derived.Test.YtgekmbfmfiikkaaGreatDoorRefW
import Derived.Test.YtgekmbfmfiikkaaGreatDoorExG
import Derived.Test.YtgekmbfmfiikkaaGreatDoorRaL
set_option maxRecDepth 100000
namespace Go.Proofs.YtgekmbfmfiikkaaGreatDoor
open Go.RowKit Go.WideShapes Go.ChangeShapes
section
variable {H : Type} {enc : TypeId × Value → H} {P : Program}
theorem post_of_below {f : Func} {s : ChangeSpec} {apart fresh handsOn again : Bool} {W W' : World} {args : Array Value} {v : Value} {ds gs : List (DataW H)} {before pa pv : List MemPlace}
  (hW : DataW.Whole enc P f.params.toList s.vars apart W args.toList ds gs before)
  (hres : ∀ (b : Nat) (sp : Nat → Bool) (hd : Bool), DataW.TrodAll enc P W' b sp hd f.resultTypes.toList (v.resultList f.resultTypes.size) (s.fn H (ds ++ gs)).results [])
  (hargs : ∀ sp : Nat → Bool, (∀ p ∈ before, sp p.block = true) → DataW.TrodAll enc P W' 0 sp true f.params.toList args.toList (s.fn H (ds ++ gs)).args pa)
  (hvars : ∀ sp : Nat → Bool, (∀ p ∈ before, sp p.block = true) → DataW.TrodVars enc P W' sp s.vars (s.fn H (ds ++ gs)).vars pv)
  (hps : before = pa ++ pv) (hb : Below W.heap.size W W')
  (hok : ∀ (j : Nat) (t : TypeId) (r : Value), f.resultTypes[j]? = some t → (v.resultList f.resultTypes.size)[j]? = some r → Value.okWide P W' .any 0 t r) :
  s.post enc P f apart fresh handsOn again W args v W' := by
 have hlt : ∀ p ∈ before, p.block < W.heap.size := fun p hp => hW.lt p hp
 have hold : ∀ p ∈ before, (fun b => decide (b < W.heap.size)) p.block = true := fun p hp => by simpa using hlt p hp
 refine ⟨ds, gs, before, [], pa, pv, hW, hres _ _ _, hargs _ hold, hvars _ hold, World.keptBut_mono (fun p hp => ⟨hp, ?_⟩) (hb.frame (· ∈ before)), fun _ => ?_⟩
 ·rw [hps, List.mem_append] at hp
  exact Or.inr hp
 ·obtain ⟨_, _, _, _, _, hz, hn⟩ := hW
  refine ⟨hok, _, _, ([] ++ pa) ++ pv, ⟨[] ++ pa, pv, trodAll_append (hargs _ (fun _ _ => rfl)) (hres _ _ _), hvars _ (fun _ _ => rfl), rfl, ?_, ?_⟩, ?_⟩
  ·intro b off hp
   have hin : MemPlace.cell b off ∈ before := by rw [hps]; simpa using hp
   rw [hb.frozen (hlt _ hin)]
   exact hz b off hin
  ·intro ha
   have := hn ha
   rw [hps] at this
   simpa using this
  ·intro p hp _
   rw [hps]
   simpa using hp
end
section
variable {H : Type} {enc : TypeId × Value → H} {P : Program} {w : World} {base : Nat} {spare : Nat → Bool} {held : Bool}
end
end Go.Proofs.YtgekmbfmfiikkaaGreatDoor
namespace Go.Proofs.YtgekmbfmfiikkaaGreatDoor
open Go.RowKit Go.WideShapes Go.ChangeShapes
section
variable {H : Type} {enc : TypeId × Value → H} {P : Program}
theorem trodAll_later (hl : laidOutB P = true) {W W' : World} (hb : Below W.heap.size W W') {sp : Nat → Bool} : ∀ (ts : List TypeId) (vs : List Value) (ds : List (DataW H)) (ps : List MemPlace),
  (∀ t ∈ ts, P.readableRec t = true ∧ t < P.types.size) → DataW.TrodAll enc P W 0 (fun _ => true) true ts vs ds ps → (∀ p ∈ ps, p.block < W.heap.size) → (∀ p ∈ ps, sp p.block = true) →
  DataW.TrodAll enc P W' 0 sp true ts vs ds ps
 | [], vs, ds, ps, _, h, _, _ => by
  obtain ⟨rfl, rfl, rfl⟩ := trodAll_nil h
  exact trodAll_mk0
 | t :: ts, vs, ds, ps, ht, h, h1, h2 => by
  obtain ⟨v, vs', d, ds', p, q, rfl, rfl, rfl, hd, hr⟩ := trodAll_cons h
  obtain ⟨a, b⟩ := ht t List.mem_cons_self
  refine ⟨p, q, WideElems.Trod_stays hl a b hd (fun x hx => hb.same (h1 x (List.mem_append_left _ hx))) (fun x hx => h2 x (List.mem_append_left _ hx)), ?_, rfl⟩
  exact trodAll_later hl hb ts vs' ds' q (fun t' h' => ht t' (List.mem_cons_of_mem _ h')) hr (fun x hx => h1 x (List.mem_append_right _ hx)) (fun x hx => h2 x (List.mem_append_right _ hx))
end
end Go.Proofs.YtgekmbfmfiikkaaGreatDoor
namespace Go.Proofs.YtgekmbfmfiikkaaGreatDoor
open Go.ChangeShapes Go.WideShapes Go.ChangeAt Go.RowKit
theorem limb_cells : Tryz.prog.cellsOf 164 = 1 := by kernel_rfl
theorem limbs_cells : Tryz.prog.cellsOf 22 = 1 := by kernel_rfl
theorem truth_cells : Tryz.prog.cellsOf 4 = 1 := by kernel_rfl
theorem whole_cells : Tryz.prog.cellsOf 24 = 2 := by kernel_rfl
theorem limb_bytes : Tryz.prog.bytesOf 164 = 4 := by kernel_rfl
section
variable {H : Type} {enc : TypeId × Value → H} {W : World}
theorem open_limbs {fuel : Nat} {cs : List Value} {x : DataW H × List MemPlace} (h : DataW.trod enc Tryz.prog W 0 (fun _ => true) true fuel 22 cs = some x) :
  ∃ A n c l, cs = [.slice A n c] ∧ Sl W A n c l ∧ ((x.1.weights Tryz.prog 22).all (· ≤ reachBytes) = true → n ≤ 281474976710656) := by
 rcases open_ints Tryz.underlying22 Tryz.underlying164 limb_cells h with ⟨rfl, rfl⟩ | ⟨a, len, cap, zs, rfl, _, hl, hm, hz, rfl, hc, hw⟩
 ·exact ⟨none, 0, 0, [], rfl, ⟨Reads.nil, Nat.le_refl _, fun x hx => absurd hx (by simp)⟩, fun _ => by omega⟩
 ·rw [if_pos rfl] at hz
  have hlt : (zs.take len).length = len := by rw [List.length_take]; omega
  have hval : ∀ z ∈ zs, (0 : Int) ≤ z ∧ z < 4294967296 := by
   intro z hzz
   have h := hw z hzz
   have h1 : IntKind.min .u32 = 0 := rfl
   have h2 : IntKind.max .u32 = 4294967295 := rfl
   simp only [Lit.wf, h1, h2, Bool.and_eq_true, decide_eq_true_eq] at h
   omega
  refine ⟨some a, len, cap, (zs.take len).map Int.toNat, rfl, ⟨⟨by unfold u32s; simpa using hlt, fun h0 => ⟨a, rfl, ?_, fun j u hu => ?_⟩⟩, hl, ?_⟩, fun hs => ?_⟩
  ·have := hc 0 (by omega)
   exact World.block_lt_of_cell? _ _ this
  ·unfold u32s at hu
   rw [List.map_map, List.getElem?_map] at hu
   rcases Nat.lt_or_ge j len with hj | hj
   ·rw [List.getElem?_eq_getElem (by omega)] at hu
    simp only [Option.map_some, Option.some.injEq, Function.comp] at hu
    subst hu
    have h1 := hc j (by omega)
    have h2 : zs.getD j 0 = zs[j]'(by omega) := by simp [List.getD, show j < zs.length by omega]
    have h3 : (zs.take len)[j]'(by omega) = zs[j]'(by omega) := List.getElem_take ..
    have h4 := hval _ (List.getElem_mem (l := zs) (n := j) (by omega))
    rw [h1, h2, h3, Int.toNat_of_nonneg h4.1]
   ·rw [List.getElem?_eq_none (by omega)] at hu
    cases hu
  ·intro y hy
   obtain ⟨z, hz1, rfl⟩ := List.mem_map.1 hy
   have := hval z (List.mem_of_mem_take hz1)
   show Int.toNat z < 4294967296
   omega
  ·have hk := List.all_eq_true.1 hs (((lits (H := H) .u32 (zs.take len)).length + (lits (H := H) .u32 (zs.drop len)).length) * Tryz.prog.bytesOf 164) (by simp [DataW.weights, Tryz.underlying22])
   rw [limb_bytes] at hk
   simp only [lits, List.length_map, List.length_take, List.length_drop, reachBytes, decide_eq_true_eq] at hk
   omega
theorem open_whole {fuel : Nat} {cs : List Value} {x : DataW H × List MemPlace} (h : DataW.trod enc Tryz.prog W 0 (fun _ => true) true fuel 24 cs = some x) :
  ∃ neg A n c l, cs = [.bool neg, .slice A n c] ∧ Sl W A n c l ∧ ((x.1.weights Tryz.prog 24).all (· ≤ reachBytes) = true → n ≤ 281474976710656) := by
 obtain ⟨y0, y1, k, rfl, hlen, g0, g1⟩ := trod_struct2 Tryz.underlying24 h
 rw [whole_cells] at hlen
 match cs, hlen with
 | [v0, v1], _ =>
  simp [truth_cells, limbs_cells] at g0 g1
  obtain ⟨b, e0, _⟩ := DataW.trod_bool Tryz.underlying4 g0
  obtain ⟨A, n, c, l, e1, hS, hn⟩ := open_limbs g1
  simp at e0 e1
  subst e0 e1
  refine ⟨b, A, n, c, l, rfl, hS, fun hs => hn ?_⟩
  simp [DataW.weights, DataW.weightsEach, Tryz.underlying24] at hs
  simpa using hs.2
theorem frac_cells : Tryz.prog.cellsOf 26 = 4 := by kernel_rfl
theorem open_frac_cells {fuel : Nat} {cs : List Value} {x : DataW H × List MemPlace} (h : DataW.trod enc Tryz.prog W 0 (fun _ => true) true fuel 26 cs = some x) :
  ∃ sa Aa na ca la za Ba ma da ka, cs = [.bool sa, .slice Aa na ca, .bool za, .slice Ba ma da] ∧ Sl W Aa na ca la ∧ Sl W Ba ma da ka ∧ ((x.1.weights Tryz.prog 26).all (· ≤ reachBytes) = true → na ≤ 281474976710656 ∧ ma ≤ 281474976710656) := by
 obtain ⟨y0, y1, k, hx, hlen, g0, g1⟩ := trod_struct2 Tryz.underlying26 h
 rw [frac_cells] at hlen
 subst hx
 match cs, hlen with
 | [v0, v1, v2, v3], _ =>
  simp [whole_cells] at g0 g1
  obtain ⟨neg, A, n, c, l, e0, hS, hn⟩ := open_whole g0
  obtain ⟨neg', A', n', c', l', e1, hS', hn'⟩ := open_whole g1
  simp at e0 e1
  obtain ⟨rfl, rfl⟩ := e0
  obtain ⟨rfl, rfl⟩ := e1
  refine ⟨neg, A, n, c, l, neg', A', n', c', l', rfl, hS, hS', fun hs => ?_⟩
  simp only [DataW.weights, DataW.weightsEach, Tryz.underlying26, List.map_cons, List.map_nil, List.append_nil, List.all_append, Bool.and_eq_true] at hs
  exact ⟨hn hs.1, hn' hs.2⟩
theorem gauss_cells : Tryz.prog.cellsOf 30 = 8 := by kernel_rfl
theorem matrix_cells : Tryz.prog.cellsOf 28 = 16 := by kernel_rfl
theorem open_gauss {v : Value} {d : DataW H} {ps : List MemPlace} (h : DataW.Trod enc Tryz.prog W 0 (fun _ => true) true 30 v d ps) (hv : ∃ cs, v = .agg cs) :
  ∃ sa Aa na ca la za Ba ma da ka sb Ab nb cb lb zb Bb mb db kb, v = .agg #[.bool sa, .slice Aa na ca, .bool za, .slice Ba ma da, .bool sb, .slice Ab nb cb, .bool zb, .slice Bb mb db] ∧ Sl W Aa na ca la ∧ Sl W Ba ma da ka ∧ Sl W Ab nb cb lb ∧ Sl W Bb mb db kb ∧ ((d.weights Tryz.prog 30).all (· ≤ reachBytes) = true → na ≤ 281474976710656 ∧ ma ≤ 281474976710656 ∧ nb ≤ 281474976710656 ∧ mb ≤ 281474976710656) := by
 obtain ⟨cs, rfl⟩ := hv
 obtain ⟨fuel, hf⟩ := h
 obtain ⟨y0, y1, k, hx, hlen, g0, g1⟩ := trod_struct2 Tryz.underlying30 hf
 simp only [Value.cells] at hlen g0 g1
 rw [gauss_cells] at hlen
 injection hx with hx1 hx2
 subst hx1
 obtain ⟨cs⟩ := cs
 match cs, hlen with
 | [v0, v1, v2, v3, v4, v5, v6, v7], _ =>
  simp [frac_cells] at g0 g1
  obtain ⟨sa, Aa, na, ca, la, za, Ba, ma, da, ka, e0, ha, ia, ba⟩ := open_frac_cells g0
  obtain ⟨sb, Ab, nb, cb, lb, zb, Bb, mb, db, kb, e1, hb, ib, bb⟩ := open_frac_cells g1
  simp at e0 e1
  obtain ⟨rfl, rfl, rfl, rfl⟩ := e0
  obtain ⟨rfl, rfl, rfl, rfl⟩ := e1
  refine ⟨sa, Aa, na, ca, la, za, Ba, ma, da, ka, sb, Ab, nb, cb, lb, zb, Bb, mb, db, kb, rfl, ha, ia, hb, ib, fun hs => ?_⟩
  simp only [DataW.weights, DataW.weightsEach, Tryz.underlying30, List.map_cons, List.map_nil, List.append_nil, List.all_append, Bool.and_eq_true] at hs
  exact ⟨(ba hs.1).1, (ba hs.1).2, bb hs.2⟩
theorem trod_four {t : TypeId} {f0 f1 f2 f3 : Field} {fuel : Nat} {cs : List Value} {x : DataW H × List MemPlace} {P : Program} {w : World} {base : Nat} {spare : Nat → Bool} {held : Bool} (ht : P.underlying t = some (.struct #[f0, f1, f2, f3])) (h : DataW.trod enc P w base spare held fuel t cs = some x) :
  ∃ y0 y1 y2 y3 n, x.1 = .agg [y0.1, y1.1, y2.1, y3.1] ∧ cs.length = P.cellsOf t ∧ DataW.trod enc P w base spare held n f0.type ((cs.drop f0.offset).take (P.cellsOf f0.type)) = some y0 ∧
   DataW.trod enc P w base spare held n f1.type ((cs.drop f1.offset).take (P.cellsOf f1.type)) = some y1 ∧ DataW.trod enc P w base spare held n f2.type ((cs.drop f2.offset).take (P.cellsOf f2.type)) = some y2 ∧
   DataW.trod enc P w base spare held n f3.type ((cs.drop f3.offset).take (P.cellsOf f3.type)) = some y3 := by
 obtain ⟨xs, n, _, rfl, hl, hlen, hf⟩ := DataW.trod_struct ht h
 match xs, hlen with
 | [y0, y1, y2, y3], _ => exact ⟨y0, y1, y2, y3, n, by simp, hl, by simpa using hf 0 f0 rfl, by simpa using hf 1 f1 rfl, by simpa using hf 2 f2 rfl, by simpa using hf 3 f3 rfl⟩
theorem open_matrix {v : Value} {d : DataW H} {ps : List MemPlace} (h : DataW.Trod enc Tryz.prog W 0 (fun _ => true) true 28 v d ps) (hv : ∃ cs, v = .agg cs) :
  ∃ sa Aa na ca la za Ba ma da ka sb Ab nb cb lb zb Bb mb db kb sc Ac nc cc lc zc Bc mc dc kc sd Ad nd cd ld zd Bd md dd kd, v = .agg #[.bool sa, .slice Aa na ca, .bool za, .slice Ba ma da, .bool sb, .slice Ab nb cb, .bool zb, .slice Bb mb db, .bool sc, .slice Ac nc cc, .bool zc, .slice Bc mc dc, .bool sd, .slice Ad nd cd, .bool zd, .slice Bd md dd] ∧ Sl W Aa na ca la ∧ Sl W Ba ma da ka ∧ Sl W Ab nb cb lb ∧ Sl W Bb mb db kb ∧ Sl W Ac nc cc lc ∧ Sl W Bc mc dc kc ∧ Sl W Ad nd cd ld ∧ Sl W Bd md dd kd ∧ ((d.weights Tryz.prog 28).all (· ≤ reachBytes) = true → na ≤ 281474976710656 ∧ ma ≤ 281474976710656 ∧ nb ≤ 281474976710656 ∧ mb ≤ 281474976710656 ∧ nc ≤ 281474976710656 ∧ mc ≤ 281474976710656 ∧ nd ≤ 281474976710656 ∧ md ≤ 281474976710656) := by
 obtain ⟨cs, rfl⟩ := hv
 obtain ⟨fuel, hf⟩ := h
 obtain ⟨y0, y1, y2, y3, k, hx, hlen, g0, g1, g2, g3⟩ := trod_four Tryz.underlying28 hf
 simp only [Value.cells] at hlen g0 g1 g2 g3
 rw [matrix_cells] at hlen
 simp only at hx
 subst hx
 obtain ⟨cs⟩ := cs
 match cs, hlen with
 | [v0, v1, v2, v3, v4, v5, v6, v7, v8, v9, v10, v11, v12, v13, v14, v15], _ =>
  simp [frac_cells] at g0 g1 g2 g3
  obtain ⟨sa, Aa, na, ca, la, za, Ba, ma, da, ka, e0, ha, ia, ba⟩ := open_frac_cells g0
  obtain ⟨sb, Ab, nb, cb, lb, zb, Bb, mb, db, kb, e1, hb, ib, bb⟩ := open_frac_cells g1
  obtain ⟨sc, Ac, nc, cc, lc, zc, Bc, mc, dc, kc, e2, hc, ic, bc⟩ := open_frac_cells g2
  obtain ⟨sd, Ad, nd, cd, ld, zd, Bd, md, dd, kd, e3, hd, id, bd⟩ := open_frac_cells g3
  simp at e0 e1 e2 e3
  obtain ⟨rfl, rfl, rfl, rfl⟩ := e0
  obtain ⟨rfl, rfl, rfl, rfl⟩ := e1
  obtain ⟨rfl, rfl, rfl, rfl⟩ := e2
  obtain ⟨rfl, rfl, rfl, rfl⟩ := e3
  refine ⟨sa, Aa, na, ca, la, za, Ba, ma, da, ka, sb, Ab, nb, cb, lb, zb, Bb, mb, db, kb, sc, Ac, nc, cc, lc, zc, Bc, mc, dc, kc, sd, Ad, nd, cd, ld, zd, Bd, md, dd, kd, rfl, ha, ia, hb, ib, hc, ic, hd, id, fun hs => ?_⟩
  simp only [DataW.weights, DataW.weightsEach, Tryz.underlying28, List.map_cons, List.map_nil, List.append_nil, List.all_append, Bool.and_eq_true] at hs
  exact ⟨(ba hs.1).1, (ba hs.1).2, (bb hs.2.1).1, (bb hs.2.1).2, (bc hs.2.2.1).1, (bc hs.2.2.1).2, bd hs.2.2.2⟩
end
end Go.Proofs.YtgekmbfmfiikkaaGreatDoor
namespace Go.Proofs.YtgekmbfmfiikkaaGreatDoor
open Go.RowKit
theorem sq_nn (a : Rat) : 0 ≤ a * a := by
 rcases Rat.le_total (a := 0) (b := a) with h | h
 ·exact Rat.mul_nonneg h h
 ·have h1 : 0 ≤ -a := by grind
  have h2 := Rat.mul_nonneg h1 h1
  grind
theorem sq_zero {a : Rat} (h : a * a = 0) : a = 0 := by
 rcases Rat.mul_eq_zero.1 h with k | k <;> exact k
theorem behind_ne (xa xb xc xd xu xv : Rat) (hdet : xa * xd - xb * xc = 1) (hy : 0 < xv) : ((((((xc + 0) * xu) - (0 * xv)) + (xd + 0)) * ((((xc + 0) * xu) - (0 * xv)) + (xd + 0))) + (((((xc + 0) * xv) + (0 * xu)) + 0) * ((((xc + 0) * xv) + (0 * xu)) + 0))) ≠ 0 := by
 obtain ⟨k, hk⟩ : ∃ k, xc * xu + xd = k := ⟨_, rfl⟩
 obtain ⟨l, hl⟩ : ∃ l, xc * xv = l := ⟨_, rfl⟩
 obtain ⟨N, hN⟩ : ∃ N, k * k + l * l = N := ⟨_, rfl⟩
 have e1 : ((((((xc + 0) * xu) - (0 * xv)) + (xd + 0)) * ((((xc + 0) * xu) - (0 * xv)) + (xd + 0))) + (((((xc + 0) * xv) + (0 * xu)) + 0) * ((((xc + 0) * xv) + (0 * xu)) + 0))) = N := by grind
 rw [e1]
 intro h0
 have hk2 := sq_nn k
 have hl2 := sq_nn l
 have hk0 : k * k = 0 := by grind
 have hl0 : l * l = 0 := by grind
 have k0 : k = 0 := sq_zero hk0
 have l0 : l = 0 := sq_zero hl0
 have c0 : xc = 0 := by grind
 grind
theorem keeps_iff (xa xb xc xd xu xv : Rat) (hdet : xa * xd - xb * xc = 1) (hy : 0 < xv) :
  (decide (((xu * ((xc * xu) + (xd - xa))) - (xv * (xc * xv))) = xb) && decide (((xu * (xc * xv)) + (xv * ((xc * xu) + (xd - xa)))) = 0)) = (decide ((((((((xa + 0) * xu) - (0 * xv)) + (xb + 0)) * (((((xc + 0) * xu) - (0 * xv)) + (xd + 0)) + 0)) - (((((xa + 0) * xv) + (0 * xu)) + 0) * (0 - ((((xc + 0) * xv) + (0 * xu)) + 0)))) / ((((((xc + 0) * xu) - (0 * xv)) + (xd + 0)) * ((((xc + 0) * xu) - (0 * xv)) + (xd + 0))) + (((((xc + 0) * xv) + (0 * xu)) + 0) * ((((xc + 0) * xv) + (0 * xu)) + 0)))) = xu) && decide ((((((((xa + 0) * xu) - (0 * xv)) + (xb + 0)) * (0 - ((((xc + 0) * xv) + (0 * xu)) + 0))) + (((((xa + 0) * xv) + (0 * xu)) + 0) * (((((xc + 0) * xu) - (0 * xv)) + (xd + 0)) + 0))) / ((((((xc + 0) * xu) - (0 * xv)) + (xd + 0)) * ((((xc + 0) * xu) - (0 * xv)) + (xd + 0))) + (((((xc + 0) * xv) + (0 * xu)) + 0) * ((((xc + 0) * xv) + (0 * xu)) + 0)))) = xv)) := by
 have hN0 := behind_ne xa xb xc xd xu xv hdet hy
 obtain ⟨k, hk⟩ : ∃ k, xc * xu + xd = k := ⟨_, rfl⟩
 obtain ⟨l, hl⟩ : ∃ l, xc * xv = l := ⟨_, rfl⟩
 obtain ⟨N, hN⟩ : ∃ N, k * k + l * l = N := ⟨_, rfl⟩
 have e1 : ((((((xc + 0) * xu) - (0 * xv)) + (xd + 0)) * ((((xc + 0) * xu) - (0 * xv)) + (xd + 0))) + (((((xc + 0) * xv) + (0 * xu)) + 0) * ((((xc + 0) * xv) + (0 * xu)) + 0))) = N := by grind
 have e2 : ((((((xa + 0) * xu) - (0 * xv)) + (xb + 0)) * (((((xc + 0) * xu) - (0 * xv)) + (xd + 0)) + 0)) - (((((xa + 0) * xv) + (0 * xu)) + 0) * (0 - ((((xc + 0) * xv) + (0 * xu)) + 0)))) = (xa * xu + xb) * k + xa * xv * l := by grind
 have e3 : ((((((xa + 0) * xu) - (0 * xv)) + (xb + 0)) * (0 - ((((xc + 0) * xv) + (0 * xu)) + 0))) + (((((xa + 0) * xv) + (0 * xu)) + 0) * (((((xc + 0) * xu) - (0 * xv)) + (xd + 0)) + 0))) = xa * xv * k - (xa * xu + xb) * l := by grind
 rw [e1] at hN0
 rw [e1, e2, e3]
 have key : (((xu * ((xc * xu) + (xd - xa))) - (xv * (xc * xv))) = xb ∧ ((xu * (xc * xv)) + (xv * ((xc * xu) + (xd - xa)))) = 0) ↔ (((xa * xu + xb) * k + xa * xv * l) / N = xu ∧ (xa * xv * k - (xa * xu + xb) * l) / N = xv) := by
  constructor
  ·rintro ⟨h1, h2⟩
   constructor <;> grind
  ·rintro ⟨h1, h2⟩
   constructor <;> grind
 by_cases h : (((xu * ((xc * xu) + (xd - xa))) - (xv * (xc * xv))) = xb ∧ ((xu * (xc * xv)) + (xv * ((xc * xu) + (xd - xa)))) = 0)
 ·rw [decide_eq_true h.1, decide_eq_true h.2, decide_eq_true (key.1 h).1, decide_eq_true (key.1 h).2]
 ·have h' := fun k => h (key.2 k)
  grind
theorem okM_parts {a b c d : LmE} (h : okM a b c d = true) : okB a = true ∧ okB b = true ∧ okB c = true ∧ okB d = true ∧ rv a * rv d - rv b * rv c = 1 := by
 unfold okM at h
 simp only [Bool.and_eq_true, decide_eq_true_eq] at h
 exact ⟨h.1.1.1.1, h.1.1.1.2, h.1.1.2, h.1.2, h.2⟩
theorem chkBm_zero {a b : LmE} (h : chkBm a b = 0) : okB a = true ∧ okB b = true ∧ 0 < rv b := by
 unfold chkBm at h
 split at h
 ·rename_i h1
  rw [Bool.and_eq_true] at h1
  split at h
  ·rename_i h2
   exact ⟨h1.1, h1.2, h2⟩
  ·exact absurd h (by decide)
 ·exact absurd h (by decide)
noncomputable def keepsV (a b c d u v : LmE) : Bool × Int :=
  if okM a b c d && (chkBm u v == 0) then
    (let xa := rv a; let xb := rv b; let xc := rv c; let xd := rv d; let xu := rv u; let xv := rv v
     (decide (((xu * ((xc * xu) + (xd - xa))) - (xv * (xc * xv))) = xb) && decide (((xu * (xc * xv)) + (xv * ((xc * xu) + (xd - xa)))) = 0), 0))
  else (false, 1)
theorem keepsV_no1 {a b c d : LmE} (u v : LmE) (h : okM a b c d = false) : keepsV a b c d u v = (false, 1) := by unfold keepsV; rw [h]; rfl
theorem keepsV_no2 (a b c d : LmE) {u v : LmE} (h : chkBm u v ≠ 0) : keepsV a b c d u v = (false, 1) := by
 unfold keepsV
 rw [show (chkBm u v == 0) = false by rw [beq_eq_false_iff_ne]; exact h, Bool.and_false]
 rfl
theorem keepsV_yes {a b c d u v : LmE} (h : okM a b c d = true) (k : chkBm u v = 0) : keepsV a b c d u v = (decide (((rv u * ((rv c * rv u) + (rv d - rv a))) - (rv v * (rv c * rv v))) = rv b) && decide (((rv u * (rv c * rv v)) + (rv v * ((rv c * rv u) + (rv d - rv a)))) = 0), 0) := by
 unfold keepsV
 rw [h, k]
 rfl
def RetKp (W : World) (p : Bool × Int) (e : Ending) (w' : World) : Prop := e = .returned (.tuple #[.bool p.1, .int .i64 p.2]) ∧ Below W.heap.size W w'
end Go.Proofs.YtgekmbfmfiikkaaGreatDoor
namespace Go.Proofs.YtgekmbfmfiikkaaGreatDoor
open Go.RowKit
theorem zero_bigG {k : Nat} : (0 : Int).natAbs < 2 ^ k := Nat.two_pow_pos k
theorem goes_eq (xa xb xc xd xu xv : Rat) (hdet : xa * xd - xb * xc = 1) (hy : 0 < xv) : ((((xc * xu) + xd) * ((xc * xu) + xd)) + ((xc * xv) * (xc * xv))) ≠ 0 ∧ (((((((xa + 0) * xu) - (0 * xv)) + (xb + 0)) * (((((xc + 0) * xu) - (0 * xv)) + (xd + 0)) + 0)) - (((((xa + 0) * xv) + (0 * xu)) + 0) * (0 - ((((xc + 0) * xv) + (0 * xu)) + 0)))) / ((((((xc + 0) * xu) - (0 * xv)) + (xd + 0)) * ((((xc + 0) * xu) - (0 * xv)) + (xd + 0))) + (((((xc + 0) * xv) + (0 * xu)) + 0) * ((((xc + 0) * xv) + (0 * xu)) + 0)))) = (((((xa * xu) + xb) * ((xc * xu) + xd)) + ((xa * xv) * (xc * xv))) / ((((xc * xu) + xd) * ((xc * xu) + xd)) + ((xc * xv) * (xc * xv)))) ∧ (((((((xa + 0) * xu) - (0 * xv)) + (xb + 0)) * (0 - ((((xc + 0) * xv) + (0 * xu)) + 0))) + (((((xa + 0) * xv) + (0 * xu)) + 0) * (((((xc + 0) * xu) - (0 * xv)) + (xd + 0)) + 0))) / ((((((xc + 0) * xu) - (0 * xv)) + (xd + 0)) * ((((xc + 0) * xu) - (0 * xv)) + (xd + 0))) + (((((xc + 0) * xv) + (0 * xu)) + 0) * ((((xc + 0) * xv) + (0 * xu)) + 0)))) = (xv / ((((xc * xu) + xd) * ((xc * xu) + xd)) + ((xc * xv) * (xc * xv)))) := by
 have hN0 := behind_ne xa xb xc xd xu xv hdet hy
 have e1 : ((((((xc + 0) * xu) - (0 * xv)) + (xd + 0)) * ((((xc + 0) * xu) - (0 * xv)) + (xd + 0))) + (((((xc + 0) * xv) + (0 * xu)) + 0) * ((((xc + 0) * xv) + (0 * xu)) + 0))) = ((((xc * xu) + xd) * ((xc * xu) + xd)) + ((xc * xv) * (xc * xv))) := by grind
 have e2 : ((((((xa + 0) * xu) - (0 * xv)) + (xb + 0)) * (((((xc + 0) * xu) - (0 * xv)) + (xd + 0)) + 0)) - (((((xa + 0) * xv) + (0 * xu)) + 0) * (0 - ((((xc + 0) * xv) + (0 * xu)) + 0)))) = ((((xa * xu) + xb) * ((xc * xu) + xd)) + ((xa * xv) * (xc * xv))) := by grind
 have e3 : ((((((xa + 0) * xu) - (0 * xv)) + (xb + 0)) * (0 - ((((xc + 0) * xv) + (0 * xu)) + 0))) + (((((xa + 0) * xv) + (0 * xu)) + 0) * (((((xc + 0) * xu) - (0 * xv)) + (xd + 0)) + 0))) = xv := by grind
 rw [e1] at hN0
 refine ⟨hN0, ?_, ?_⟩
 ·rw [e1, e2]
 ·rw [e1, e3]
theorem ansG_ex (r s : Rat) (M : Nat) (hM : M = 2048) : ∃ x y x' y' v, AnsG r s x y x' y' v ∧ x.natAbs < 2 ^ (32 * M) ∧ y.natAbs < 2 ^ (32 * M) ∧ x'.natAbs < 2 ^ (32 * M) ∧ y'.natAbs < 2 ^ (32 * M) := by
 by_cases h : Sz r 2048 ∧ Sz s 2048
 ·have k : Sz r M := h.1.mono (by omega)
  have k' : Sz s M := h.2.mono (by omega)
  exact ⟨r.num, (r.den : Int), s.num, (s.den : Int), 0, .inl ⟨h, rfl, rfl, rfl, rfl, rfl⟩, k.1, by rw [Int.natAbs_natCast]; exact k.2, k'.1, by rw [Int.natAbs_natCast]; exact k'.2⟩
 ·exact ⟨0, 0, 0, 0, 4, .inr ⟨h, rfl, rfl, rfl, rfl, rfl⟩, zero_bigG, zero_bigG, zero_bigG, zero_bigG⟩
end Go.Proofs.YtgekmbfmfiikkaaGreatDoor
namespace Go.Proofs.YtgekmbfmfiikkaaGreatDoor
open Go.RowKit
theorem own_below {w w' : World} {base : Nat} {e : TypeId} {size n : Nat} {v : Value} {xs : List Value} (h : w.ownsRow base e size v n xs) (hb : Below w.heap.size w w') : w'.ownsRow base e size v n xs := by
 refine ⟨h.1, ?_⟩
 rcases h.2 with h2 | ⟨g, cap, cur, e1, hbg, hg, hr⟩
 ·exact .inl h2
 ·exact .inr ⟨g, cap, cur, e1, hbg, (hb.block g (Array.getElem?_eq_some_iff.1 hg).1).trans hg, hr⟩
theorem half_limb {v y r : Nat} (hv : v = y + 4294967296 * (4294967296 * r)) : (v / 2) % 4294967296 = (y / 2) % 4294967296 := by
 have e : v / 2 = y / 2 + 4294967296 * (2147483648 * r) := by omega
 rw [e, Nat.add_mul_mod_self_left]
theorem half_step {X P d q x : Nat} (hX : X / P = d) (hd : (d / 2) % 4294967296 = q) (hx : (X / 2) % P = x) : (X / 2) % (P * 4294967296) = x + P * q := by
 have h1 : X / 2 / P = d / 2 := by rw [Nat.div_div_eq_div_mul, Nat.mul_comm, ← Nat.div_div_eq_div_mul, hX]
 rw [Nat.mod_mul, h1, hd, hx]
theorem half_round {a out : List Nat} {X k x y v : Nat} (hok : Lm.ok a) (hX : Lm.lv a = X) (ho : out.length = a.length) (hd : out.drop k = a.drop k) (hoo : Lm.ok out) (hl : Lm.lv (out.take k) = (X / 2) % Lm.B ^ k) (hk : k < a.length) (hx : a[k] = x)
  (hy : (∃ h : k + 1 < a.length, a[k + 1] = y) ∨ (a.length = k + 1 ∧ y = 0)) (hv : v = (x + 4294967296 * y) / 2 % 4294967296) :
  (out.set k v).length = a.length ∧ (out.set k v).drop (k + 1) = a.drop (k + 1) ∧ Lm.ok (out.set k v) ∧ Lm.lv ((out.set k v).take (k + 1)) = (X / 2) % Lm.B ^ (k + 1) := by
 have hko : k < out.length := by omega
 refine ⟨by rw [List.length_set]; exact ho, ?_, Lm.ok_set hoo (by rw [hv]; exact Nat.mod_lt _ (by decide)), ?_⟩
 ·rw [List.drop_set_of_lt (by omega)]
  have := congrArg (List.drop 1) hd
  rw [List.drop_drop, List.drop_drop] at this
  exact this
 ·have h2 := Lm.lv_take_succ (out.set k v) k (by rw [List.length_set]; exact hko)
  rw [List.take_set_of_le (Nat.le_refl _), List.getElem_set_self] at h2
  have h3 := Lm.lv_take_drop a k (by omega)
  have h4 := Lm.lv_lt (Lm.ok_take hok k)
  rw [List.length_take, Nat.min_eq_left (by omega)] at h4
  have hP : 0 < Lm.B ^ k := Nat.pow_pos (by decide)
  have h5 : X / Lm.B ^ k = Lm.lv (a.drop k) := by
   rw [← hX, h3, Nat.add_mul_div_left _ _ hP, Nat.div_eq_of_lt h4, Nat.zero_add]
  have h6 := Lm.lv_drop a hk
  rw [hx] at h6
  have h7 : (Lm.lv (a.drop k) / 2) % 4294967296 = v := by
   rw [hv]
   rcases hy with ⟨h, hy⟩ | ⟨h, hy⟩
   ·have h8 := Lm.lv_drop a h
    rw [hy] at h8
    refine half_limb (r := Lm.lv (a.drop (k + 1 + 1))) ?_
    rw [h6, h8]
    show x + 4294967296 * (y + 4294967296 * _) = _
    omega
   ·have h8 : a.drop (k + 1) = [] := List.drop_of_length_le (by omega)
    rw [h8] at h6
    have h9 : Lm.lv (a.drop k) = x := by rw [h6]; simp [Lm.lv]
    rw [h9, hy]
    rfl
  rw [h2, hl, Nat.pow_succ]
  exact (half_step h5 h7 rfl).symm
theorem half_word {y x : Nat} (hy : y < 4294967296) (hx : x < 4294967296) :
  bits .or .u64 (IntKind.u64.wrap (IntKind.u64.wrap (y : Int) * 4294967296)) (IntKind.u64.wrap (x : Int)) / 2 % 4294967296 = (((x + 4294967296 * y) / 2 % 4294967296 : Nat) : Int) := by
 have h1 : IntKind.u64.wrap (y : Int) = (y : Int) := IntWalk.u64_in _ (by omega)
 have h2 : IntKind.u64.wrap (x : Int) = (x : Int) := IntWalk.u64_in _ (by omega)
 have h3 : IntKind.u64.wrap ((y : Int) * 4294967296) = ((4294967296 * y : Nat) : Int) := by
  rw [IntWalk.u64_in _ (by omega)]
  omega
 rw [h1, h2, h3, u64_or_nat _ _ (by omega) (by omega)]
 have hor := Nat.two_pow_add_eq_or_of_lt (i := 32) (b := x) hx y
 have e : 4294967296 * y ||| x = x + 4294967296 * y := by
  have h5 : 2 ^ 32 * y = 4294967296 * y := rfl
  rw [h5] at hor
  omega
 rw [e]
 omega
theorem half_word0 {x : Nat} (hx : x < 4294967296) : bits .or .u64 0 (IntKind.u64.wrap (x : Int)) / 2 % 4294967296 = (((x + 4294967296 * 0) / 2 % 4294967296 : Nat) : Int) := by
 have h2 : IntKind.u64.wrap (x : Int) = (x : Int) := IntWalk.u64_in _ (by omega)
 have h3 := u64_or_nat 0 x (by omega) (by omega)
 rw [Nat.zero_or] at h3
 rw [h2, show (0 : Int) = ((0 : Nat) : Int) from rfl, h3]
 omega
theorem contains32_none (A : Option Addr) (c : Nat) (f : Value) (w : World) :
  Calls Tryz.prog 275 #[.slice A 0 c, f] w (RetV w (.bool false)) := by
 have h1 : Calls Tryz.prog 340 #[.slice A 0 c, f] w (RetV w (.int .i64 (-1))) := by
  go_enter Tryz.func340, Tryz.ntmps340
  go_wp2_with fail
  go_loopw [8] (fun i wr => i = .int .i64 0 ∧ Below w.heap.size w wr) (fun i _ => 0)
  case atStart => exact ⟨rfl, Below.refl _ _⟩
  case round =>
   obtain ⟨rfl, hb0⟩ := hrel
   go_wp2_with fail
   go_ret
   exact ⟨rfl, hb0⟩
 go_enter Tryz.func275, Tryz.ntmps275
 go_wp2_with fail
 refine h1.mono ?_
 rintro e1 w1 ⟨rfl, hb1⟩
 go_wp2_with fail
 go_ret
 exact ⟨rfl, hb1⟩
end Go.Proofs.YtgekmbfmfiikkaaGreatDoor
