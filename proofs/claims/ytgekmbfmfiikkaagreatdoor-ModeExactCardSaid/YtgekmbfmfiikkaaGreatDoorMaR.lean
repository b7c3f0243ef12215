/-
  Fractions, complex numbers and matrices that came in, opened.
  The references' complex numbers (polestarref03): sums, norms, mirrored ones, fractions; polestarref09.cross.
  A whole number from 0 on, halved (exact.Halved by one).
  What complex numbers and matrices cost (GaussCost, MatrixCost).
  Are the twins of complex numbers and matrices as they were? (LeftGauss, LeftMatrix)
  Which beam does a cavity keep? (plain)
  May a complex number, a beam, a matrix be? (the references)
-/
import Derived.Test.YtgekmbfmfiikkaaGreatDoorZero
import Derived.Test.YtgekmbfmfiikkaaGreatDoorFrame2
import Derived.SizedLaws
import Derived.ProofKit
import Derived.Test.YtgekmbfmfiikkaaGreatDoorExX
import Derived.Test.YtgekmbfmfiikkaaGreatDoorExG
import Derived.Test.YtgekmbfmfiikkaaGreatDoorRaL
import Derived.Test.YtgekmbfmfiikkaaGreatDoorExFb
import Derived.Test.YtgekmbfmfiikkaaGreatDoorExFf
import Derived.Test.YtgekmbfmfiikkaaGreatDoorOwI
namespace Go.Proofs.YtgekmbfmfiikkaaGreatDoor
open Go.ChangeShapes Go.WideShapes Go.ChangeAt Go.RowKit

theorem limb_cells : Tryz.prog.cellsOf 164 = 1 := by kernel_rfl
theorem limbs_cells : Tryz.prog.cellsOf 22 = 1 := by kernel_rfl
theorem truth_cells : Tryz.prog.cellsOf 4 = 1 := by kernel_rfl
theorem whole_cells : Tryz.prog.cellsOf 24 = 2 := by kernel_rfl
theorem limb_bytes : Tryz.prog.bytesOf 164 = 4 := by kernel_rfl

section
variable {H : Type} {enc : TypeId × Value → H} {W : World}
set_option maxRecDepth 100000 in
theorem open_limbs {fuel : Nat} {cs : List Value} {x : DataW H × List MemPlace} (h : DataW.trod enc Tryz.prog W 0 (fun _ => true) true fuel 22 cs = some x) :
  ∃ A n c l, cs = [.slice A n c] ∧ Sl W A n c l ∧ ((x.1.weights Tryz.prog 22).all (· ≤ reachBytes) = true → n ≤ 281474976710656) := by
 rcases open_ints Tryz.underlying22 Tryz.underlying164 limb_cells h with ⟨rfl, rfl⟩ | ⟨a, len, cap, zs, rfl, _, hl, hm, hz, rfl, hc, hw⟩
 ·exact ⟨none, 0, 0, [], rfl, ⟨Reads.nil, Nat.le_refl _, fun x hx => absurd hx (by simp)⟩, fun _ => by omega⟩
 ·rw [if_pos rfl] at hz
  have hlt : (zs.take len).length = len := by rw [List.length_take]; omega
  have hval : ∀ z ∈ zs, (0 : Int) ≤ z ∧ z < 4294967296 := by
   intro z hzz
   have h := hw z hzz
   have h1 : IntKind.min .u32 = 0 := rfl
   have h2 : IntKind.max .u32 = 4294967295 := rfl
   simp only [Lit.wf, h1, h2, Bool.and_eq_true, decide_eq_true_eq] at h
   omega
  refine ⟨some a, len, cap, (zs.take len).map Int.toNat, rfl, ⟨⟨by unfold u32s; simpa using hlt, fun h0 => ⟨a, rfl, ?_, fun j u hu => ?_⟩⟩, hl, ?_⟩, fun hs => ?_⟩
  ·have := hc 0 (by omega)
   exact World.block_lt_of_cell? _ _ this
  ·unfold u32s at hu
   rw [List.map_map, List.getElem?_map] at hu
   rcases Nat.lt_or_ge j len with hj | hj
   ·rw [List.getElem?_eq_getElem (by omega)] at hu
    simp only [Option.map_some, Option.some.injEq, Function.comp] at hu
    subst hu
    have h1 := hc j (by omega)
    have h2 : zs.getD j 0 = zs[j]'(by omega) := by simp [List.getD, show j < zs.length by omega]
    have h3 : (zs.take len)[j]'(by omega) = zs[j]'(by omega) := List.getElem_take ..
    have h4 := hval _ (List.getElem_mem (l := zs) (n := j) (by omega))
    rw [h1, h2, h3, Int.toNat_of_nonneg h4.1]
   ·rw [List.getElem?_eq_none (by omega)] at hu
    cases hu
  ·intro y hy
   obtain ⟨z, hz1, rfl⟩ := List.mem_map.1 hy
   have := hval z (List.mem_of_mem_take hz1)
   show Int.toNat z < 4294967296
   omega
  ·have hk := List.all_eq_true.1 hs (((lits (H := H) .u32 (zs.take len)).length + (lits (H := H) .u32 (zs.drop len)).length) * Tryz.prog.bytesOf 164) (by simp [DataW.weights, Tryz.underlying22])
   rw [limb_bytes] at hk
   simp only [lits, List.length_map, List.length_take, List.length_drop, reachBytes, decide_eq_true_eq] at hk
   omega
set_option maxRecDepth 100000 in
theorem open_whole {fuel : Nat} {cs : List Value} {x : DataW H × List MemPlace} (h : DataW.trod enc Tryz.prog W 0 (fun _ => true) true fuel 24 cs = some x) :
  ∃ neg A n c l, cs = [.bool neg, .slice A n c] ∧ Sl W A n c l ∧ ((x.1.weights Tryz.prog 24).all (· ≤ reachBytes) = true → n ≤ 281474976710656) := by
 obtain ⟨y0, y1, k, rfl, hlen, g0, g1⟩ := trod_struct2 Tryz.underlying24 h
 rw [whole_cells] at hlen
 match cs, hlen with
 | [v0, v1], _ =>
  simp [truth_cells, limbs_cells] at g0 g1
  obtain ⟨b, e0, _⟩ := DataW.trod_bool Tryz.underlying4 g0
  obtain ⟨A, n, c, l, e1, hS, hn⟩ := open_limbs g1
  simp at e0 e1
  subst e0 e1
  refine ⟨b, A, n, c, l, rfl, hS, fun hs => hn ?_⟩
  simp [DataW.weights, DataW.weightsEach, Tryz.underlying24] at hs
  simpa using hs.2
theorem frac_cells : Tryz.prog.cellsOf 26 = 4 := by kernel_rfl
set_option maxRecDepth 100000 in
theorem open_frac_cells {fuel : Nat} {cs : List Value} {x : DataW H × List MemPlace} (h : DataW.trod enc Tryz.prog W 0 (fun _ => true) true fuel 26 cs = some x) :
  ∃ sa Aa na ca la za Ba ma da ka, cs = [.bool sa, .slice Aa na ca, .bool za, .slice Ba ma da] ∧ Sl W Aa na ca la ∧ Sl W Ba ma da ka ∧ ((x.1.weights Tryz.prog 26).all (· ≤ reachBytes) = true → na ≤ 281474976710656 ∧ ma ≤ 281474976710656) := by
 obtain ⟨y0, y1, k, hx, hlen, g0, g1⟩ := trod_struct2 Tryz.underlying26 h
 rw [frac_cells] at hlen
 subst hx
 match cs, hlen with
 | [v0, v1, v2, v3], _ =>
  simp [whole_cells] at g0 g1
  obtain ⟨neg, A, n, c, l, e0, hS, hn⟩ := open_whole g0
  obtain ⟨neg', A', n', c', l', e1, hS', hn'⟩ := open_whole g1
  simp at e0 e1
  obtain ⟨rfl, rfl⟩ := e0
  obtain ⟨rfl, rfl⟩ := e1
  refine ⟨neg, A, n, c, l, neg', A', n', c', l', rfl, hS, hS', fun hs => ?_⟩
  simp only [DataW.weights, DataW.weightsEach, Tryz.underlying26, List.map_cons, List.map_nil, List.append_nil, List.all_append, Bool.and_eq_true] at hs
  exact ⟨hn hs.1, hn' hs.2⟩
theorem matrix_cells : Tryz.prog.cellsOf 28 = 16 := by kernel_rfl
theorem trod_four {t : TypeId} {f0 f1 f2 f3 : Field} {fuel : Nat} {cs : List Value} {x : DataW H × List MemPlace} {P : Program} {w : World} {base : Nat} {spare : Nat → Bool} {held : Bool} (ht : P.underlying t = some (.struct #[f0, f1, f2, f3])) (h : DataW.trod enc P w base spare held fuel t cs = some x) :
  ∃ y0 y1 y2 y3 n, x.1 = .agg [y0.1, y1.1, y2.1, y3.1] ∧ cs.length = P.cellsOf t ∧ DataW.trod enc P w base spare held n f0.type ((cs.drop f0.offset).take (P.cellsOf f0.type)) = some y0 ∧
   DataW.trod enc P w base spare held n f1.type ((cs.drop f1.offset).take (P.cellsOf f1.type)) = some y1 ∧ DataW.trod enc P w base spare held n f2.type ((cs.drop f2.offset).take (P.cellsOf f2.type)) = some y2 ∧
   DataW.trod enc P w base spare held n f3.type ((cs.drop f3.offset).take (P.cellsOf f3.type)) = some y3 := by
 obtain ⟨xs, n, _, rfl, hl, hlen, hf⟩ := DataW.trod_struct ht h
 match xs, hlen with
 | [y0, y1, y2, y3], _ => exact ⟨y0, y1, y2, y3, n, by simp, hl, by simpa using hf 0 f0 rfl, by simpa using hf 1 f1 rfl, by simpa using hf 2 f2 rfl, by simpa using hf 3 f3 rfl⟩
set_option maxRecDepth 100000 in
theorem open_matrix {v : Value} {d : DataW H} {ps : List MemPlace} (h : DataW.Trod enc Tryz.prog W 0 (fun _ => true) true 28 v d ps) (hv : ∃ cs, v = .agg cs) :
  ∃ sa Aa na ca la za Ba ma da ka sb Ab nb cb lb zb Bb mb db kb sc Ac nc cc lc zc Bc mc dc kc sd Ad nd cd ld zd Bd md dd kd, v = .agg #[.bool sa, .slice Aa na ca, .bool za, .slice Ba ma da, .bool sb, .slice Ab nb cb, .bool zb, .slice Bb mb db, .bool sc, .slice Ac nc cc, .bool zc, .slice Bc mc dc, .bool sd, .slice Ad nd cd, .bool zd, .slice Bd md dd] ∧ Sl W Aa na ca la ∧ Sl W Ba ma da ka ∧ Sl W Ab nb cb lb ∧ Sl W Bb mb db kb ∧ Sl W Ac nc cc lc ∧ Sl W Bc mc dc kc ∧ Sl W Ad nd cd ld ∧ Sl W Bd md dd kd ∧ ((d.weights Tryz.prog 28).all (· ≤ reachBytes) = true → na ≤ 281474976710656 ∧ ma ≤ 281474976710656 ∧ nb ≤ 281474976710656 ∧ mb ≤ 281474976710656 ∧ nc ≤ 281474976710656 ∧ mc ≤ 281474976710656 ∧ nd ≤ 281474976710656 ∧ md ≤ 281474976710656) := by
 obtain ⟨cs, rfl⟩ := hv
 obtain ⟨fuel, hf⟩ := h
 obtain ⟨y0, y1, y2, y3, k, hx, hlen, g0, g1, g2, g3⟩ := trod_four Tryz.underlying28 hf
 simp only [Value.cells] at hlen g0 g1 g2 g3
 rw [matrix_cells] at hlen
 simp only at hx
 subst hx
 obtain ⟨cs⟩ := cs
 match cs, hlen with
 | [v0, v1, v2, v3, v4, v5, v6, v7, v8, v9, v10, v11, v12, v13, v14, v15], _ =>
  simp [frac_cells] at g0 g1 g2 g3
  obtain ⟨sa, Aa, na, ca, la, za, Ba, ma, da, ka, e0, ha, ia, ba⟩ := open_frac_cells g0
  obtain ⟨sb, Ab, nb, cb, lb, zb, Bb, mb, db, kb, e1, hb, ib, bb⟩ := open_frac_cells g1
  obtain ⟨sc, Ac, nc, cc, lc, zc, Bc, mc, dc, kc, e2, hc, ic, bc⟩ := open_frac_cells g2
  obtain ⟨sd, Ad, nd, cd, ld, zd, Bd, md, dd, kd, e3, hd, id, bd⟩ := open_frac_cells g3
  simp at e0 e1 e2 e3
  obtain ⟨rfl, rfl, rfl, rfl⟩ := e0
  obtain ⟨rfl, rfl, rfl, rfl⟩ := e1
  obtain ⟨rfl, rfl, rfl, rfl⟩ := e2
  obtain ⟨rfl, rfl, rfl, rfl⟩ := e3
  refine ⟨sa, Aa, na, ca, la, za, Ba, ma, da, ka, sb, Ab, nb, cb, lb, zb, Bb, mb, db, kb, sc, Ac, nc, cc, lc, zc, Bc, mc, dc, kc, sd, Ad, nd, cd, ld, zd, Bd, md, dd, kd, rfl, ha, ia, hb, ib, hc, ic, hd, id, fun hs => ?_⟩
  simp only [DataW.weights, DataW.weightsEach, Tryz.underlying28, List.map_cons, List.map_nil, List.append_nil, List.all_append, Bool.and_eq_true] at hs
  exact ⟨(ba hs.1).1, (ba hs.1).2, (bb hs.2.1).1, (bb hs.2.1).2, (bc hs.2.2.1).1, (bc hs.2.2.1).2, bd hs.2.2.2⟩
end
end Go.Proofs.YtgekmbfmfiikkaaGreatDoor

namespace Go.Proofs.YtgekmbfmfiikkaaGreatDoor
open Go.RowKit

set_option maxRecDepth 100000 in
set_option maxHeartbeats 6400000 in
theorem ref9_cross_any (sa za : Bool) (Aa Ba : Option Addr) (na ca ma da : Nat) (xa : Rat) (sb zb : Bool) (Ab Bb : Option Addr) (nb cb mb db : Nat) (xb : Rat) (sc zc : Bool) (Ac Bc : Option Addr) (nc cc mc dc : Nat) (xc : Rat) (sd zd : Bool) (Ad Bd : Option Addr) (nd cd md dd : Nat) (xd : Rat) (M : Nat) (w : World) (ha : IsInt w sa Aa na ca xa.num) (ia : IsInt w za Ba ma da (xa.den : Int)) (ya : Sz xa M) (hb : IsInt w sb Ab nb cb xb.num) (ib : IsInt w zb Bb mb db (xb.den : Int)) (yb : Sz xb M) (hc : IsInt w sc Ac nc cc xc.num) (ic : IsInt w zc Bc mc dc (xc.den : Int)) (yc : Sz xc M) (hd : IsInt w sd Ad nd cd xd.num) (id : IsInt w zd Bd md dd (xd.den : Int)) (yd : Sz xd M) (hM : M ≤ 100000) :
    Calls Tryz.prog 167 #[.agg #[.bool sa, .slice Aa na ca, .bool za, .slice Ba ma da], .agg #[.bool sb, .slice Ab nb cb, .bool zb, .slice Bb mb db], .agg #[.bool sc, .slice Ac nc cc, .bool zc, .slice Bc mc dc], .agg #[.bool sd, .slice Ad nd cd, .bool zd, .slice Bd md dd]] w (RetFr w ((xa * xd) - (xb * xc))) := by
  have K0 := ((((((((((((((Mm.nil w).int ha).int ia).int hb).int ib).int hc).int ic).int hd).int id).var (g := w.heap.size) rfl [.bool sa, .slice Aa na ca, .bool za, .slice Ba ma da] 26).var (g := w.heap.size + 1) (by simp) [.bool sb, .slice Ab nb cb, .bool zb, .slice Bb mb db] 26).var (g := w.heap.size + 1 + 1) (by simp) [.bool sc, .slice Ac nc cc, .bool zc, .slice Bc mc dc] 26).var (g := w.heap.size + 1 + 1 + 1) (by simp) [.bool sd, .slice Ad nd cd, .bool zd, .slice Bd md dd] 26).var (g := w.heap.size + 1 + 1 + 1 + 1) (by simp) [.bool false, .slice none 0 0, .bool false, .slice none 0 0] 26)
  have Ya := Lib.hid ya
  have Yb := Lib.hid yb
  have Yc := Lib.hid yc
  have Yd := Lib.hid yd
  have HS1 : Hid (Sz (xa * xd) (2 * M + 0)) := Lib.hid ((Sz.mul Ya.out Yd.out).mono (by omega))
  have HS2 : Hid (Sz (xb * xc) (2 * M + 0)) := Lib.hid ((Sz.mul Yb.out Yc.out).mono (by omega))
  have HS3 : Hid (Sz ((xa * xd) - (xb * xc)) (4 * M + 1)) := Lib.hid ((Sz.sub HS1.out HS2.out).mono (by omega))
  clear ha ia ya hb ib yb hc ic yc hd id yd
  have ne01 : ¬ w.heap.size = w.heap.size + 1 := by omega
  have ne02 : ¬ w.heap.size = w.heap.size + 1 + 1 := by omega
  have ne03 : ¬ w.heap.size = w.heap.size + 1 + 1 + 1 := by omega
  have ne04 : ¬ w.heap.size = w.heap.size + 1 + 1 + 1 + 1 := by omega
  have ne10 : ¬ w.heap.size + 1 = w.heap.size := by omega
  have ne12 : ¬ w.heap.size + 1 = w.heap.size + 1 + 1 := by omega
  have ne13 : ¬ w.heap.size + 1 = w.heap.size + 1 + 1 + 1 := by omega
  have ne14 : ¬ w.heap.size + 1 = w.heap.size + 1 + 1 + 1 + 1 := by omega
  have ne20 : ¬ w.heap.size + 1 + 1 = w.heap.size := by omega
  have ne21 : ¬ w.heap.size + 1 + 1 = w.heap.size + 1 := by omega
  have ne23 : ¬ w.heap.size + 1 + 1 = w.heap.size + 1 + 1 + 1 := by omega
  have ne24 : ¬ w.heap.size + 1 + 1 = w.heap.size + 1 + 1 + 1 + 1 := by omega
  have ne30 : ¬ w.heap.size + 1 + 1 + 1 = w.heap.size := by omega
  have ne31 : ¬ w.heap.size + 1 + 1 + 1 = w.heap.size + 1 := by omega
  have ne32 : ¬ w.heap.size + 1 + 1 + 1 = w.heap.size + 1 + 1 := by omega
  have ne34 : ¬ w.heap.size + 1 + 1 + 1 = w.heap.size + 1 + 1 + 1 + 1 := by omega
  have ne40 : ¬ w.heap.size + 1 + 1 + 1 + 1 = w.heap.size := by omega
  have ne41 : ¬ w.heap.size + 1 + 1 + 1 + 1 = w.heap.size + 1 := by omega
  have ne42 : ¬ w.heap.size + 1 + 1 + 1 + 1 = w.heap.size + 1 + 1 := by omega
  have ne43 : ¬ w.heap.size + 1 + 1 + 1 + 1 = w.heap.size + 1 + 1 + 1 := by omega
  go_enter Tryz.func167, Tryz.ntmps167
  go_wp2_with fail
  generalize ((((w.alloc (.cells #[.bool sa, .slice Aa na ca, .bool za, .slice Ba ma da] 26)).alloc (.cells #[.bool sb, .slice Ab nb cb, .bool zb, .slice Bb mb db] 26)).alloc (.cells #[.bool sc, .slice Ac nc cc, .bool zc, .slice Bc mc dc] 26)).alloc (.cells #[.bool sd, .slice Ad nd cd, .bool zd, .slice Bd md dd] 26)).alloc (.cells #[.bool false, .slice none 0 0, .bool false, .slice none 0 0] 26) = w0 at K0 ⊢
  obtain ⟨⟨_, _, _, _⟩, ⟨_, _, _, _⟩, _⟩ := (K0.blk (g := w.heap.size) (by repeat constructor)).four
  obtain ⟨⟨_, _, _, _⟩, ⟨_, _, _, _⟩, _⟩ := (K0.blk (g := w.heap.size + 1) (by repeat constructor)).four
  obtain ⟨⟨_, _, _, _⟩, ⟨_, _, _, _⟩, _⟩ := (K0.blk (g := w.heap.size + 1 + 1) (by repeat constructor)).four
  obtain ⟨⟨_, _, _, _⟩, ⟨_, _, _, _⟩, _⟩ := (K0.blk (g := w.heap.size + 1 + 1 + 1) (by repeat constructor)).four
  go_region_held3 (fun w' => w'.cell? ⟨w.heap.size, 0, none⟩ = some (.bool sa) ∧ w'.cell? ⟨w.heap.size, 1, none⟩ = some (.slice Aa na ca) ∧ w'.cell? ⟨w.heap.size, 2, none⟩ = some (.bool za) ∧ w'.cell? ⟨w.heap.size, 3, none⟩ = some (.slice Ba ma da) ∧ w'.cell? ⟨w.heap.size + 1, 0, none⟩ = some (.bool sb) ∧ w'.cell? ⟨w.heap.size + 1, 1, none⟩ = some (.slice Ab nb cb) ∧ w'.cell? ⟨w.heap.size + 1, 2, none⟩ = some (.bool zb) ∧ w'.cell? ⟨w.heap.size + 1, 3, none⟩ = some (.slice Bb mb db) ∧ w'.cell? ⟨w.heap.size + 1 + 1, 0, none⟩ = some (.bool sc) ∧ w'.cell? ⟨w.heap.size + 1 + 1, 1, none⟩ = some (.slice Ac nc cc) ∧ w'.cell? ⟨w.heap.size + 1 + 1, 2, none⟩ = some (.bool zc) ∧ w'.cell? ⟨w.heap.size + 1 + 1, 3, none⟩ = some (.slice Bc mc dc) ∧ w'.cell? ⟨w.heap.size + 1 + 1 + 1, 0, none⟩ = some (.bool sd) ∧ w'.cell? ⟨w.heap.size + 1 + 1 + 1, 1, none⟩ = some (.slice Ad nd cd) ∧ w'.cell? ⟨w.heap.size + 1 + 1 + 1, 2, none⟩ = some (.bool zd) ∧ w'.cell? ⟨w.heap.size + 1 + 1 + 1, 3, none⟩ = some (.slice Bd md dd))
    (go_keep)
    (first
      | (go_at_call 230; apply Calls.withMm (w0 := w); (case K => with_reducible repeat (first | exact K0 | apply Mm.drew | apply Mm.drewN)); intro KX; (with_reducible refine (ref2_times_any sa za Aa Ba na ca ma da sd zd Ad Bd nd cd md dd xa xd (xa * xd) M M _ (KX.at_ (mE 7 rfl)) (KX.at_ (mE 6 rfl)) (KX.at_ (mE 1 rfl)) (KX.at_ (mE 0 rfl)) Ya.out Yd.out (by omega) (Lib.hid rfl)).mono ?_); rintro e1 w1 ⟨neg1, A1, n1, c1, ne1, B1, m1, d1, rfl, IHS1, JHS1, hb1⟩; (with_reducible have K1 := (((KX.next hb1).int JHS1).int IHS1)); obtain ⟨⟨_, _, _, _⟩, ⟨_, _, _, _⟩, _⟩ := (K1.blk (mE 4 rfl)).four; obtain ⟨⟨_, _, _, _⟩, ⟨_, _, _, _⟩, _⟩ := (K1.blk (mE 3 rfl)).four; obtain ⟨⟨_, _, _, _⟩, ⟨_, _, _, _⟩, _⟩ := (K1.blk (mE 2 rfl)).four; obtain ⟨⟨_, _, _, _⟩, ⟨_, _, _, _⟩, _⟩ := (K1.blk (mE 1 rfl)).four; clear KX IHS1 JHS1 hb1)
      | (go_at_call 230; apply Calls.withMm (w0 := w); (case K => with_reducible repeat (first | exact K1 | apply Mm.drew | apply Mm.drewN)); intro KX; (with_reducible refine (ref2_times_any sb zb Ab Bb nb cb mb db sc zc Ac Bc nc cc mc dc xb xc (xb * xc) M M _ (KX.at_ (mE 7 rfl)) (KX.at_ (mE 6 rfl)) (KX.at_ (mE 5 rfl)) (KX.at_ (mE 4 rfl)) Yb.out Yc.out (by omega) (Lib.hid rfl)).mono ?_); rintro e2 w2 ⟨neg2, A2, n2, c2, ne2, B2, m2, d2, rfl, IHS2, JHS2, hb2⟩; (with_reducible have K2 := (((KX.next hb2).int JHS2).int IHS2)); obtain ⟨⟨_, _, _, _⟩, ⟨_, _, _, _⟩, _⟩ := (K2.blk (mE 4 rfl)).four; obtain ⟨⟨_, _, _, _⟩, ⟨_, _, _, _⟩, _⟩ := (K2.blk (mE 3 rfl)).four; obtain ⟨⟨_, _, _, _⟩, ⟨_, _, _, _⟩, _⟩ := (K2.blk (mE 2 rfl)).four; obtain ⟨⟨_, _, _, _⟩, ⟨_, _, _, _⟩, _⟩ := (K2.blk (mE 1 rfl)).four; clear KX IHS2 JHS2 hb2)
      | (go_at_call 229; apply Calls.withMm (w0 := w); (case K => with_reducible repeat (first | exact K2 | apply Mm.drew | apply Mm.drewN)); intro KX; (with_reducible refine (ref2_minus_any neg1 ne1 A1 B1 n1 c1 m1 d1 neg2 ne2 A2 B2 n2 c2 m2 d2 (xa * xd) (xb * xc) ((xa * xd) - (xb * xc)) (2 * M + 0) (2 * M + 0) _ (KX.at_ (mE 2 rfl)) (KX.at_ (mE 3 rfl)) (KX.at_ (mE 0 rfl)) (KX.at_ (mE 1 rfl)) HS1.out HS2.out (by omega) (Lib.hid rfl)).mono ?_); rintro e3 w3 ⟨neg3, A3, n3, c3, ne3, B3, m3, d3, rfl, IHS3, JHS3, hb3⟩; (with_reducible have K3 := (((KX.next hb3).int JHS3).int IHS3)); obtain ⟨⟨_, _, _, _⟩, ⟨_, _, _, _⟩, _⟩ := (K3.blk (mE 4 rfl)).four; obtain ⟨⟨_, _, _, _⟩, ⟨_, _, _, _⟩, _⟩ := (K3.blk (mE 3 rfl)).four; obtain ⟨⟨_, _, _, _⟩, ⟨_, _, _, _⟩, _⟩ := (K3.blk (mE 2 rfl)).four; obtain ⟨⟨_, _, _, _⟩, ⟨_, _, _, _⟩, _⟩ := (K3.blk (mE 1 rfl)).four; obtain ⟨⟨qa3r, qb3r, qc3r, qd3r⟩, ⟨_, _, _, _⟩, _⟩ := (K3.blk (mE 0 rfl)).four; clear KX IHS3 JHS3 hb3))
  all_goals
   go_wp2_with fail
   have KE := (K3.pick (L' := [(w.heap.size + 1 + 1 + 1 + 1, [.bool false, .slice none 0 0, .bool false, .slice none 0 0])]) (l' := [(neg3, A3, n3, c3, (((xa * xd) - (xb * xc)) : Rat).num), (ne3, B3, m3, d3, (((((xa * xd) - (xb * xc)) : Rat).den : Nat) : Int))]) (by simp) (by simp)).set4 (by simp <;> omega) neg3 A3 n3 c3 ne3 B3 m3 d3
   exact bodyPost_ret (v := .agg #[.bool neg3, .slice A3 n3 c3, .bool ne3, .slice B3 m3 d3]) (by simp [results, Tryz.results167, go_sem, qa3r, qb3r, qc3r, qd3r]) rfl ⟨_, _, _, _, _, _, _, _, rfl, KE.at_ (by simp), KE.at_ (by simp), KE.1⟩
end Go.Proofs.YtgekmbfmfiikkaaGreatDoor

namespace Go.Proofs.YtgekmbfmfiikkaaGreatDoor
open Go.RowKit

theorem own_below {w w' : World} {base : Nat} {e : TypeId} {size n : Nat} {v : Value} {xs : List Value} (h : w.ownsRow base e size v n xs) (hb : Below w.heap.size w w') : w'.ownsRow base e size v n xs := by
 refine ⟨h.1, ?_⟩
 rcases h.2 with h2 | ⟨g, cap, cur, e1, hbg, hg, hr⟩
 ·exact .inl h2
 ·exact .inr ⟨g, cap, cur, e1, hbg, (hb.block g (Array.getElem?_eq_some_iff.1 hg).1).trans hg, hr⟩
/-- A limb of the half. -/
theorem half_limb {v y r : Nat} (hv : v = y + 4294967296 * (4294967296 * r)) : (v / 2) % 4294967296 = (y / 2) % 4294967296 := by
 have e : v / 2 = y / 2 + 4294967296 * (2147483648 * r) := by omega
 rw [e, Nat.add_mul_mod_self_left]
theorem half_step {X P d q x : Nat} (hX : X / P = d) (hd : (d / 2) % 4294967296 = q) (hx : (X / 2) % P = x) : (X / 2) % (P * 4294967296) = x + P * q := by
 have h1 : X / 2 / P = d / 2 := by rw [Nat.div_div_eq_div_mul, Nat.mul_comm, ← Nat.div_div_eq_div_mul, hX]
 rw [Nat.mod_mul, h1, hd, hx]
theorem half_round {a out : List Nat} {X k x y v : Nat} (hok : Lm.ok a) (hX : Lm.lv a = X) (ho : out.length = a.length) (hd : out.drop k = a.drop k) (hoo : Lm.ok out) (hl : Lm.lv (out.take k) = (X / 2) % Lm.B ^ k) (hk : k < a.length) (hx : a[k] = x)
  (hy : (∃ h : k + 1 < a.length, a[k + 1] = y) ∨ (a.length = k + 1 ∧ y = 0)) (hv : v = (x + 4294967296 * y) / 2 % 4294967296) :
  (out.set k v).length = a.length ∧ (out.set k v).drop (k + 1) = a.drop (k + 1) ∧ Lm.ok (out.set k v) ∧ Lm.lv ((out.set k v).take (k + 1)) = (X / 2) % Lm.B ^ (k + 1) := by
 have hko : k < out.length := by omega
 refine ⟨by rw [List.length_set]; exact ho, ?_, Lm.ok_set hoo (by rw [hv]; exact Nat.mod_lt _ (by decide)), ?_⟩
 ·rw [List.drop_set_of_lt (by omega)]
  have := congrArg (List.drop 1) hd
  rw [List.drop_drop, List.drop_drop] at this
  exact this
 ·have h2 := Lm.lv_take_succ (out.set k v) k (by rw [List.length_set]; exact hko)
  rw [List.take_set_of_le (Nat.le_refl _), List.getElem_set_self] at h2
  have h3 := Lm.lv_take_drop a k (by omega)
  have h4 := Lm.lv_lt (Lm.ok_take hok k)
  rw [List.length_take, Nat.min_eq_left (by omega)] at h4
  have hP : 0 < Lm.B ^ k := Nat.pow_pos (by decide)
  have h5 : X / Lm.B ^ k = Lm.lv (a.drop k) := by
   rw [← hX, h3, Nat.add_mul_div_left _ _ hP, Nat.div_eq_of_lt h4, Nat.zero_add]
  have h6 := Lm.lv_drop a hk
  rw [hx] at h6
  have h7 : (Lm.lv (a.drop k) / 2) % 4294967296 = v := by
   rw [hv]
   rcases hy with ⟨h, hy⟩ | ⟨h, hy⟩
   ·have h8 := Lm.lv_drop a h
    rw [hy] at h8
    refine half_limb (r := Lm.lv (a.drop (k + 1 + 1))) ?_
    rw [h6, h8]
    show x + 4294967296 * (y + 4294967296 * _) = _
    omega
   ·have h8 : a.drop (k + 1) = [] := List.drop_of_length_le (by omega)
    rw [h8] at h6
    have h9 : Lm.lv (a.drop k) = x := by rw [h6]; simp [Lm.lv]
    rw [h9, hy]
    rfl
  rw [h2, hl, Nat.pow_succ]
  exact (half_step h5 h7 rfl).symm
theorem half_word {y x : Nat} (hy : y < 4294967296) (hx : x < 4294967296) :
  bits .or .u64 (IntKind.u64.wrap (IntKind.u64.wrap (y : Int) * 4294967296)) (IntKind.u64.wrap (x : Int)) / 2 % 4294967296 = (((x + 4294967296 * y) / 2 % 4294967296 : Nat) : Int) := by
 have h1 : IntKind.u64.wrap (y : Int) = (y : Int) := IntWalk.u64_in _ (by omega)
 have h2 : IntKind.u64.wrap (x : Int) = (x : Int) := IntWalk.u64_in _ (by omega)
 have h3 : IntKind.u64.wrap ((y : Int) * 4294967296) = ((4294967296 * y : Nat) : Int) := by
  rw [IntWalk.u64_in _ (by omega)]
  omega
 rw [h1, h2, h3, u64_or_nat _ _ (by omega) (by omega)]
 have hor := Nat.two_pow_add_eq_or_of_lt (i := 32) (b := x) hx y
 have e : 4294967296 * y ||| x = x + 4294967296 * y := by
  have h5 : 2 ^ 32 * y = 4294967296 * y := rfl
  rw [h5] at hor
  omega
 rw [e]
 omega
theorem half_word0 {x : Nat} (hx : x < 4294967296) : bits .or .u64 0 (IntKind.u64.wrap (x : Int)) / 2 % 4294967296 = (((x + 4294967296 * 0) / 2 % 4294967296 : Nat) : Int) := by
 have h2 : IntKind.u64.wrap (x : Int) = (x : Int) := IntWalk.u64_in _ (by omega)
 have h3 := u64_or_nat 0 x (by omega) (by omega)
 rw [Nat.zero_or] at h3
 rw [h2, show (0 : Int) = ((0 : Nat) : Int) from rfl, h3]
 omega
theorem contains32_none (A : Option Addr) (c : Nat) (f : Value) (w : World) :
  Calls Tryz.prog 275 #[.slice A 0 c, f] w (RetV w (.bool false)) := by
 have h1 : Calls Tryz.prog 340 #[.slice A 0 c, f] w (RetV w (.int .i64 (-1))) := by
  go_enter Tryz.func340, Tryz.ntmps340
  go_wp2_with fail
  go_loopw [8] (fun i wr => i = .int .i64 0 ∧ Below w.heap.size w wr) (fun i _ => 0)
  case atStart => exact ⟨rfl, Below.refl _ _⟩
  case round =>
   obtain ⟨rfl, hb0⟩ := hrel
   go_wp2_with fail
   go_ret
   exact ⟨rfl, hb0⟩
 go_enter Tryz.func275, Tryz.ntmps275
 go_wp2_with fail
 refine h1.mono ?_
 rintro e1 w1 ⟨rfl, hb1⟩
 go_wp2_with fail
 go_ret
 exact ⟨rfl, hb1⟩

end Go.Proofs.YtgekmbfmfiikkaaGreatDoor

namespace Go.Proofs.YtgekmbfmfiikkaaGreatDoor
open Go.RowKit

theorem frac_cost_of (neg neg' : Bool) (A A' : Option Addr) (n c n' c' : Nat) (p : Nat) (w : World) (hn : n ≤ 281474976710656) (hn' : n' ≤ 281474976710656) (hp : Hid (costFr n n' = p)) :
  Calls Tryz.prog 47 #[.agg #[.bool neg, .slice A n c, .bool neg', .slice A' n' c']] w (RetV w (.int .i64 ((p : Nat) : Int))) := by
 have h := frac_cost_any neg neg' A A' n c n' c' w hn hn'
 rwa [hp.out] at h
theorem cost_bound {n n' : Nat} (hn : n ≤ 281474976710656) (hn' : n' ≤ 281474976710656) : costFr n n' ≤ 1125899906842624 := by
 have h1 : min n 1048576 * min n' 1048576 ≤ 1048576 * 1048576 := Nat.mul_le_mul (Nat.min_le_right _ _) (Nat.min_le_right _ _)
 unfold costFr
 generalize min n 1048576 * min n' 1048576 = p at *
 omega

set_option maxRecDepth 100000 in
set_option maxHeartbeats 6400000 in
theorem matrix_cost_any (sa za : Bool) (Aa Ba : Option Addr) (na ca ma da : Nat) (sb zb : Bool) (Ab Bb : Option Addr) (nb cb mb db : Nat) (sc zc : Bool) (Ac Bc : Option Addr) (nc cc mc dc : Nat) (sd zd : Bool) (Ad Bd : Option Addr) (nd cd md dd : Nat) (w : World) (hna : na ≤ 281474976710656) (hma : ma ≤ 281474976710656) (hnb : nb ≤ 281474976710656) (hmb : mb ≤ 281474976710656) (hnc : nc ≤ 281474976710656) (hmc : mc ≤ 281474976710656) (hnd : nd ≤ 281474976710656) (hmd : md ≤ 281474976710656) :
    Calls Tryz.prog 9 #[.agg #[.bool sa, .slice Aa na ca, .bool za, .slice Ba ma da, .bool sb, .slice Ab nb cb, .bool zb, .slice Bb mb db, .bool sc, .slice Ac nc cc, .bool zc, .slice Bc mc dc, .bool sd, .slice Ad nd cd, .bool zd, .slice Bd md dd]] w (RetV w (.int .i64 ((costFr na ma + costFr nb mb + costFr nc mc + costFr nd md : Nat) : Int))) := by
  have K0 := (Mm.nil w).var (g := w.heap.size) rfl [.bool sa, .slice Aa na ca, .bool za, .slice Ba ma da, .bool sb, .slice Ab nb cb, .bool zb, .slice Bb mb db, .bool sc, .slice Ac nc cc, .bool zc, .slice Bc mc dc, .bool sd, .slice Ad nd cd, .bool zd, .slice Bd md dd] 28
  have qa := cost_bound hna hma
  obtain ⟨pa, hpa⟩ : ∃ p, costFr na ma = p := ⟨_, rfl⟩
  rw [hpa] at qa
  have HPa := Lib.hid hpa
  have qb := cost_bound hnb hmb
  obtain ⟨pb, hpb⟩ : ∃ p, costFr nb mb = p := ⟨_, rfl⟩
  rw [hpb] at qb
  have HPb := Lib.hid hpb
  have qc := cost_bound hnc hmc
  obtain ⟨pc, hpc⟩ : ∃ p, costFr nc mc = p := ⟨_, rfl⟩
  rw [hpc] at qc
  have HPc := Lib.hid hpc
  have qd := cost_bound hnd hmd
  obtain ⟨pd, hpd⟩ : ∃ p, costFr nd md = p := ⟨_, rfl⟩
  rw [hpd] at qd
  have HPd := Lib.hid hpd
  rw [hpa, hpb, hpc, hpd]
  have hw1 : IntKind.i64.wrap ((pa : Int) + (pb : Int)) = (pa : Int) + (pb : Int) := IntWalk.i64_in _ (by omega)
  have hw2 : IntKind.i64.wrap ((pa : Int) + (pb : Int) + (pc : Int)) = (pa : Int) + (pb : Int) + (pc : Int) := IntWalk.i64_in _ (by omega)
  have hw3 : IntKind.i64.wrap ((pa : Int) + (pb : Int) + (pc : Int) + (pd : Int)) = (pa : Int) + (pb : Int) + (pc : Int) + (pd : Int) := IntWalk.i64_in _ (by omega)
  have HT : Hid ((pa : Int) + (pb : Int) + (pc : Int) + (pd : Int) = ((pa + pb + pc + pd : Nat) : Int)) := Lib.hid (by omega)
  clear hpa qa hpb qb hpc qc hpd qd
  go_enter Tryz.func9, Tryz.ntmps9
  go_wp2_with fail
  generalize w.alloc (.cells #[.bool sa, .slice Aa na ca, .bool za, .slice Ba ma da, .bool sb, .slice Ab nb cb, .bool zb, .slice Bb mb db, .bool sc, .slice Ac nc cc, .bool zc, .slice Bc mc dc, .bool sd, .slice Ad nd cd, .bool zd, .slice Bd md dd] 28) = w0 at K0 ⊢
  obtain ⟨_, _, _, _, _, _, _, _, _, _, _, _, _, _, _, _⟩ := (K0.blk (g := w.heap.size) (by repeat constructor)).c16
  go_region_held3 (fun w' => w'.cell? ⟨w.heap.size, 0, none⟩ = some (.bool sa) ∧ w'.cell? ⟨w.heap.size, 1, none⟩ = some (.slice Aa na ca) ∧ w'.cell? ⟨w.heap.size, 2, none⟩ = some (.bool za) ∧ w'.cell? ⟨w.heap.size, 3, none⟩ = some (.slice Ba ma da) ∧ w'.cell? ⟨w.heap.size, 4, none⟩ = some (.bool sb) ∧ w'.cell? ⟨w.heap.size, 5, none⟩ = some (.slice Ab nb cb) ∧ w'.cell? ⟨w.heap.size, 6, none⟩ = some (.bool zb) ∧ w'.cell? ⟨w.heap.size, 7, none⟩ = some (.slice Bb mb db) ∧ w'.cell? ⟨w.heap.size, 8, none⟩ = some (.bool sc) ∧ w'.cell? ⟨w.heap.size, 9, none⟩ = some (.slice Ac nc cc) ∧ w'.cell? ⟨w.heap.size, 10, none⟩ = some (.bool zc) ∧ w'.cell? ⟨w.heap.size, 11, none⟩ = some (.slice Bc mc dc) ∧ w'.cell? ⟨w.heap.size, 12, none⟩ = some (.bool sd) ∧ w'.cell? ⟨w.heap.size, 13, none⟩ = some (.slice Ad nd cd) ∧ w'.cell? ⟨w.heap.size, 14, none⟩ = some (.bool zd) ∧ w'.cell? ⟨w.heap.size, 15, none⟩ = some (.slice Bd md dd))
    (go_keep)
    (first
      | (go_at_call 47; apply Calls.withMm (w0 := w); (case K => with_reducible repeat (first | exact K0 | apply Mm.drew | apply Mm.drewN)); intro KX; (with_reducible refine (frac_cost_of sa za Aa Ba na ca ma da pa _ hna hma HPa).mono ?_); rintro e1 w1 ⟨rfl, hb1⟩; (with_reducible have K1 := KX.next hb1); obtain ⟨_, _, _, _, _, _, _, _, _, _, _, _, _, _, _, _⟩ := (K1.blk (mE 0 rfl)).c16; clear KX hb1)
      | (go_at_call 47; apply Calls.withMm (w0 := w); (case K => with_reducible repeat (first | exact K1 | apply Mm.drew | apply Mm.drewN)); intro KX; (with_reducible refine (frac_cost_of sb zb Ab Bb nb cb mb db pb _ hnb hmb HPb).mono ?_); rintro e2 w2 ⟨rfl, hb2⟩; (with_reducible have K2 := KX.next hb2); obtain ⟨_, _, _, _, _, _, _, _, _, _, _, _, _, _, _, _⟩ := (K2.blk (mE 0 rfl)).c16; clear KX hb2)
      | (go_at_call 47; apply Calls.withMm (w0 := w); (case K => with_reducible repeat (first | exact K2 | apply Mm.drew | apply Mm.drewN)); intro KX; (with_reducible refine (frac_cost_of sc zc Ac Bc nc cc mc dc pc _ hnc hmc HPc).mono ?_); rintro e3 w3 ⟨rfl, hb3⟩; (with_reducible have K3 := KX.next hb3); obtain ⟨_, _, _, _, _, _, _, _, _, _, _, _, _, _, _, _⟩ := (K3.blk (mE 0 rfl)).c16; clear KX hb3)
      | (go_at_call 47; apply Calls.withMm (w0 := w); (case K => with_reducible repeat (first | exact K3 | apply Mm.drew | apply Mm.drewN)); intro KX; (with_reducible refine (frac_cost_of sd zd Ad Bd nd cd md dd pd _ hnd hmd HPd).mono ?_); rintro e4 w4 ⟨rfl, hb4⟩; (with_reducible have K4 := KX.next hb4); obtain ⟨_, _, _, _, _, _, _, _, _, _, _, _, _, _, _, _⟩ := (K4.blk (mE 0 rfl)).c16; clear KX hb4))
  all_goals
   go_wp2_with fail
   go_ret
   exact ⟨by rw [← HT.out]; rfl, K4.1⟩
end Go.Proofs.YtgekmbfmfiikkaaGreatDoor

namespace Go.Proofs.YtgekmbfmfiikkaaGreatDoor
open Go.RowKit

set_option maxRecDepth 100000 in
set_option maxHeartbeats 6400000 in
theorem left_matrix_any (sa : Bool) (Aa : Option Addr) (na ca : Nat) (la : List Nat) (za : Bool) (Ba : Option Addr) (ma da : Nat) (ka : List Nat) (sb : Bool) (Ab : Option Addr) (nb cb : Nat) (lb : List Nat) (zb : Bool) (Bb : Option Addr) (mb db : Nat) (kb : List Nat) (sc : Bool) (Ac : Option Addr) (nc cc : Nat) (lc : List Nat) (zc : Bool) (Bc : Option Addr) (mc dc : Nat) (kc : List Nat) (sd : Bool) (Ad : Option Addr) (nd cd : Nat) (ld : List Nat) (zd : Bool) (Bd : Option Addr) (md dd : Nat) (kd : List Nat) (ga ea ha fa gb eb hb fb gc ec hc fc gd ed hd fd : Nat) (w : World) (Ha : LmE.at_ w ((sa, Aa, na, ca, la), (za, Ba, ma, da, ka))) (Ta : Twl w ga na ea la) (Ua : Twl w ha ma fa ka) (Hb : LmE.at_ w ((sb, Ab, nb, cb, lb), (zb, Bb, mb, db, kb))) (Tb : Twl w gb nb eb lb) (Ub : Twl w hb mb fb kb) (Hc : LmE.at_ w ((sc, Ac, nc, cc, lc), (zc, Bc, mc, dc, kc))) (Tc : Twl w gc nc ec lc) (Uc : Twl w hc mc fc kc) (Hd : LmE.at_ w ((sd, Ad, nd, cd, ld), (zd, Bd, md, dd, kd))) (Td : Twl w gd nd ed ld) (Ud : Twl w hd md fd kd) :
  Calls Tryz.prog 18 #[.agg #[.bool sa, .slice (some ⟨ga, 0, none⟩) na ea, .bool za, .slice (some ⟨ha, 0, none⟩) ma fa, .bool sb, .slice (some ⟨gb, 0, none⟩) nb eb, .bool zb, .slice (some ⟨hb, 0, none⟩) mb fb, .bool sc, .slice (some ⟨gc, 0, none⟩) nc ec, .bool zc, .slice (some ⟨hc, 0, none⟩) mc fc, .bool sd, .slice (some ⟨gd, 0, none⟩) nd ed, .bool zd, .slice (some ⟨hd, 0, none⟩) md fd], .agg #[.bool sa, .slice Aa na ca, .bool za, .slice Ba ma da, .bool sb, .slice Ab nb cb, .bool zb, .slice Bb mb db, .bool sc, .slice Ac nc cc, .bool zc, .slice Bc mc dc, .bool sd, .slice Ad nd cd, .bool zd, .slice Bd md dd]] w (RetV w (.bool true)) := by
 have K0 := ((Mm.nil w).var (g := w.heap.size) rfl [.bool sa, .slice (some ⟨ga, 0, none⟩) na ea, .bool za, .slice (some ⟨ha, 0, none⟩) ma fa, .bool sb, .slice (some ⟨gb, 0, none⟩) nb eb, .bool zb, .slice (some ⟨hb, 0, none⟩) mb fb, .bool sc, .slice (some ⟨gc, 0, none⟩) nc ec, .bool zc, .slice (some ⟨hc, 0, none⟩) mc fc, .bool sd, .slice (some ⟨gd, 0, none⟩) nd ed, .bool zd, .slice (some ⟨hd, 0, none⟩) md fd] 28).var (g := w.heap.size + 1) (by simp) [.bool sa, .slice Aa na ca, .bool za, .slice Ba ma da, .bool sb, .slice Ab nb cb, .bool zb, .slice Bb mb db, .bool sc, .slice Ac nc cc, .bool zc, .slice Bc mc dc, .bool sd, .slice Ad nd cd, .bool zd, .slice Bd md dd] 28
 have Ha0 := LmE.at_.below Ha K0.1
 have Ta0 := Twl.below Ta K0.1
 have Ua0 := Twl.below Ua K0.1
 have Hb0 := LmE.at_.below Hb K0.1
 have Tb0 := Twl.below Tb K0.1
 have Ub0 := Twl.below Ub K0.1
 have Hc0 := LmE.at_.below Hc K0.1
 have Tc0 := Twl.below Tc K0.1
 have Uc0 := Twl.below Uc K0.1
 have Hd0 := LmE.at_.below Hd K0.1
 have Td0 := Twl.below Td K0.1
 have Ud0 := Twl.below Ud K0.1
 clear Ha Ta Ua Hb Tb Ub Hc Tc Uc Hd Td Ud
 go_enter Tryz.func18, Tryz.ntmps18
 go_wp2_with fail
 refine (left_frac_any sa za Aa Ba na ca ma da ga ea ha fa la ka _ Ha0.1 Ha0.2.1 Ta0 Ua0 Ha0.2.2.1 Ha0.2.2.2).mono ?_
 rintro e1 w1 ⟨rfl, hB1⟩
 have K1 := K0.next hB1
 have Hb1 := LmE.at_.below Hb0 hB1
 have Tb1 := Twl.below Tb0 hB1
 have Ub1 := Twl.below Ub0 hB1
 have Hc1 := LmE.at_.below Hc0 hB1
 have Tc1 := Twl.below Tc0 hB1
 have Uc1 := Twl.below Uc0 hB1
 have Hd1 := LmE.at_.below Hd0 hB1
 have Td1 := Twl.below Td0 hB1
 have Ud1 := Twl.below Ud0 hB1
 obtain ⟨_, _, _, _, _, _, _, _, _, _, _, _, _, _, _, _⟩ := (K1.blk (mE 1 rfl)).c16
 obtain ⟨_, _, _, _, _, _, _, _, _, _, _, _, _, _, _, _⟩ := (K1.blk (mE 0 rfl)).c16
 clear hB1 K0
 go_wp2_with fail
 refine (left_frac_any sb zb Ab Bb nb cb mb db gb eb hb fb lb kb _ Hb1.1 Hb1.2.1 Tb1 Ub1 Hb1.2.2.1 Hb1.2.2.2).mono ?_
 rintro e2 w2 ⟨rfl, hB2⟩
 have K2 := K1.next hB2
 have Hc2 := LmE.at_.below Hc1 hB2
 have Tc2 := Twl.below Tc1 hB2
 have Uc2 := Twl.below Uc1 hB2
 have Hd2 := LmE.at_.below Hd1 hB2
 have Td2 := Twl.below Td1 hB2
 have Ud2 := Twl.below Ud1 hB2
 obtain ⟨_, _, _, _, _, _, _, _, _, _, _, _, _, _, _, _⟩ := (K2.blk (mE 1 rfl)).c16
 obtain ⟨_, _, _, _, _, _, _, _, _, _, _, _, _, _, _, _⟩ := (K2.blk (mE 0 rfl)).c16
 clear hB2 K1
 go_wp2_with fail
 refine (left_frac_any sc zc Ac Bc nc cc mc dc gc ec hc fc lc kc _ Hc2.1 Hc2.2.1 Tc2 Uc2 Hc2.2.2.1 Hc2.2.2.2).mono ?_
 rintro e3 w3 ⟨rfl, hB3⟩
 have K3 := K2.next hB3
 have Hd3 := LmE.at_.below Hd2 hB3
 have Td3 := Twl.below Td2 hB3
 have Ud3 := Twl.below Ud2 hB3
 obtain ⟨_, _, _, _, _, _, _, _, _, _, _, _, _, _, _, _⟩ := (K3.blk (mE 1 rfl)).c16
 obtain ⟨_, _, _, _, _, _, _, _, _, _, _, _, _, _, _, _⟩ := (K3.blk (mE 0 rfl)).c16
 clear hB3 K2
 go_wp2_with fail
 refine (left_frac_any sd zd Ad Bd nd cd md dd gd ed hd fd ld kd _ Hd3.1 Hd3.2.1 Td3 Ud3 Hd3.2.2.1 Hd3.2.2.2).mono ?_
 rintro e4 w4 ⟨rfl, hB4⟩
 have K4 := K3.next hB4
 obtain ⟨_, _, _, _, _, _, _, _, _, _, _, _, _, _, _, _⟩ := (K4.blk (mE 1 rfl)).c16
 obtain ⟨_, _, _, _, _, _, _, _, _, _, _, _, _, _, _, _⟩ := (K4.blk (mE 0 rfl)).c16
 clear hB4 K3
 go_wp2_with fail
 go_ret
 exact ⟨rfl, K4.1⟩
end Go.Proofs.YtgekmbfmfiikkaaGreatDoor

namespace Go.Proofs.YtgekmbfmfiikkaaGreatDoor
open Go.RowKit

theorem okM_parts {a b c d : LmE} (h : okM a b c d = true) : okB a = true ∧ okB b = true ∧ okB c = true ∧ okB d = true ∧ rv a * rv d - rv b * rv c = 1 := by
 unfold okM at h
 simp only [Bool.and_eq_true, decide_eq_true_eq] at h
 exact ⟨h.1.1.1.1, h.1.1.1.2, h.1.1.2, h.1.2, h.2⟩
end Go.Proofs.YtgekmbfmfiikkaaGreatDoor

namespace Go.Proofs.YtgekmbfmfiikkaaGreatDoor
open Go.RowKit

set_option maxRecDepth 100000 in
set_option maxHeartbeats 6400000 in
theorem ref9_may_any (sa : Bool) (Aa : Option Addr) (na ca : Nat) (la : List Nat) (za : Bool) (Ba : Option Addr) (ma da : Nat) (ka : List Nat) (sb : Bool) (Ab : Option Addr) (nb cb : Nat) (lb : List Nat) (zb : Bool) (Bb : Option Addr) (mb db : Nat) (kb : List Nat) (sc : Bool) (Ac : Option Addr) (nc cc : Nat) (lc : List Nat) (zc : Bool) (Bc : Option Addr) (mc dc : Nat) (kc : List Nat) (sd : Bool) (Ad : Option Addr) (nd cd : Nat) (ld : List Nat) (zd : Bool) (Bd : Option Addr) (md dd : Nat) (kd : List Nat) (w : World) (ha : LmE.at_ w ((sa, Aa, na, ca, la), (za, Ba, ma, da, ka))) (hb : LmE.at_ w ((sb, Ab, nb, cb, lb), (zb, Bb, mb, db, kb))) (hc : LmE.at_ w ((sc, Ac, nc, cc, lc), (zc, Bc, mc, dc, kc))) (hd : LmE.at_ w ((sd, Ad, nd, cd, ld), (zd, Bd, md, dd, kd))) :
  Calls Tryz.prog 52 #[.agg #[.bool sa, .slice Aa na ca, .bool za, .slice Ba ma da, .bool sb, .slice Ab nb cb, .bool zb, .slice Bb mb db, .bool sc, .slice Ac nc cc, .bool zc, .slice Bc mc dc, .bool sd, .slice Ad nd cd, .bool zd, .slice Bd md dd]] w (RetV w (.bool (okM ((sa, Aa, na, ca, la), (za, Ba, ma, da, ka)) ((sb, Ab, nb, cb, lb), (zb, Bb, mb, db, kb)) ((sc, Ac, nc, cc, lc), (zc, Bc, mc, dc, kc)) ((sd, Ad, nd, cd, ld), (zd, Bd, md, dd, kd))))) := by
 have K0 := (Mm.nil w).var (g := w.heap.size) rfl [.bool sa, .slice Aa na ca, .bool za, .slice Ba ma da, .bool sb, .slice Ab nb cb, .bool zb, .slice Bb mb db, .bool sc, .slice Ac nc cc, .bool zc, .slice Bc mc dc, .bool sd, .slice Ad nd cd, .bool zd, .slice Bd md dd] 28
 have ha0 := LmE.at_.below ha K0.1
 have hb0 := LmE.at_.below hb K0.1
 have hc0 := LmE.at_.below hc K0.1
 have hd0 := LmE.at_.below hd K0.1
 have K1 := K0.box (.cells #[.bool sa, .slice Aa na ca, .bool za, .slice Ba ma da, .bool sb, .slice Ab nb cb, .bool zb, .slice Bb mb db, .bool sc, .slice Ac nc cc, .bool zc, .slice Bc mc dc, .bool sd, .slice Ad nd cd, .bool zd, .slice Bd md dd] 26)
 have hL : Lfs ((w.alloc (.cells #[.bool sa, .slice Aa na ca, .bool za, .slice Ba ma da, .bool sb, .slice Ab nb cb, .bool zb, .slice Bb mb db, .bool sc, .slice Ac nc cc, .bool zc, .slice Bc mc dc, .bool sd, .slice Ad nd cd, .bool zd, .slice Bd md dd] 28)).alloc (.cells #[.bool sa, .slice Aa na ca, .bool za, .slice Ba ma da, .bool sb, .slice Ab nb cb, .bool zb, .slice Bb mb db, .bool sc, .slice Ac nc cc, .bool zc, .slice Bc mc dc, .bool sd, .slice Ad nd cd, .bool zd, .slice Bd md dd] 26)) (w.heap.size + 1) 4 (four ((sa, Aa, na, ca, la), (za, Ba, ma, da, ka)) ((sb, Ab, nb, cb, lb), (zb, Bb, mb, db, kb)) ((sc, Ac, nc, cc, lc), (zc, Bc, mc, dc, kc)) ((sd, Ad, nd, cd, ld), (zd, Bd, md, dd, kd))) := lfs_four _ (by simp) _ ha0 hb0 hc0 hd0
 have HL := Lib.hid hL
 obtain ⟨o, ho⟩ : ∃ o, (okB ((sa, Aa, na, ca, la), (za, Ba, ma, da, ka)) && okB ((sb, Ab, nb, cb, lb), (zb, Bb, mb, db, kb)) && okB ((sc, Ac, nc, cc, lc), (zc, Bc, mc, dc, kc)) && okB ((sd, Ad, nd, cd, ld), (zd, Bd, md, dd, kd))) = o := ⟨_, rfl⟩
 have HO := Lib.hid ((okAll_four ((sa, Aa, na, ca, la), (za, Ba, ma, da, ka)) ((sb, Ab, nb, cb, lb), (zb, Bb, mb, db, kb)) ((sc, Ac, nc, cc, lc), (zc, Bc, mc, dc, kc)) ((sd, Ad, nd, cd, ld), (zd, Bd, md, dd, kd))).trans ho)
 have HM : Hid (okM ((sa, Aa, na, ca, la), (za, Ba, ma, da, ka)) ((sb, Ab, nb, cb, lb), (zb, Bb, mb, db, kb)) ((sc, Ac, nc, cc, lc), (zc, Bc, mc, dc, kc)) ((sd, Ad, nd, cd, ld), (zd, Bd, md, dd, kd)) = (o && decide (rv ((sa, Aa, na, ca, la), (za, Ba, ma, da, ka)) * rv ((sd, Ad, nd, cd, ld), (zd, Bd, md, dd, kd)) - rv ((sb, Ab, nb, cb, lb), (zb, Bb, mb, db, kb)) * rv ((sc, Ac, nc, cc, lc), (zc, Bc, mc, dc, kc)) = 1))) := Lib.hid (by unfold okM; rw [ho])
 have ha1 := LmE.at_.below ha K1.1
 have hb1 := LmE.at_.below hb K1.1
 have hc1 := LmE.at_.below hc K1.1
 have hd1 := LmE.at_.below hd K1.1
 clear ha hb hc hd hL K0 ha0 hb0 hc0 hd0
 go_enter Tryz.func52, Tryz.ntmps52
 go_wp2_with fail
 refine (ref2_checks_any (w.heap.size + 1) 4 4 (four ((sa, Aa, na, ca, la), (za, Ba, ma, da, ka)) ((sb, Ab, nb, cb, lb), (zb, Bb, mb, db, kb)) ((sc, Ac, nc, cc, lc), (zc, Bc, mc, dc, kc)) ((sd, Ad, nd, cd, ld), (zd, Bd, md, dd, kd))) _ HL.out (by decide) (by decide)).mono ?_
 rintro e1 w1 ⟨rfl, hbw⟩
 rw [HO.out]
 clear HO HL
 have K2 := K1.next hbw
 have ha2 := LmE.at_.below ha1 hbw
 have hb2 := LmE.at_.below hb1 hbw
 have hc2 := LmE.at_.below hc1 hbw
 have hd2 := LmE.at_.below hd1 hbw
 clear ha1 hb1 hc1 hd1 K1 hbw
 obtain ⟨_, _, _, _, _, _, _, _, _, _, _, _, _, _, _, _⟩ := (K2.blk (g := w.heap.size) (by repeat constructor)).c16
 cases o with
 | false =>
  go_wp2_with fail
  go_ret
  exact ⟨by rw [HM.out]; rfl, K2.1⟩
 | true =>
  simp only [Bool.and_eq_true] at ho
  obtain ⟨⟨⟨oa, ob⟩, oc⟩, od⟩ := ho
  obtain ⟨ia, ja, ya⟩ := ok_ints oa ha2
  obtain ⟨ib, jb, yb⟩ := ok_ints ob hb2
  obtain ⟨ic, jc, yc⟩ := ok_ints oc hc2
  obtain ⟨id, jd, yd⟩ := ok_ints od hd2
  obtain ⟨xa, hxa⟩ : ∃ x, rv ((sa, Aa, na, ca, la), (za, Ba, ma, da, ka)) = x := ⟨_, rfl⟩
  obtain ⟨xb, hxb⟩ : ∃ x, rv ((sb, Ab, nb, cb, lb), (zb, Bb, mb, db, kb)) = x := ⟨_, rfl⟩
  obtain ⟨xc, hxc⟩ : ∃ x, rv ((sc, Ac, nc, cc, lc), (zc, Bc, mc, dc, kc)) = x := ⟨_, rfl⟩
  obtain ⟨xd, hxd⟩ : ∃ x, rv ((sd, Ad, nd, cd, ld), (zd, Bd, md, dd, kd)) = x := ⟨_, rfl⟩
  rw [hxa] at ia ja ya
  rw [hxb] at ib jb yb
  rw [hxc] at ic jc yc
  rw [hxd] at id jd yd
  rw [hxa, hxb, hxc, hxd] at HM
  have HSZ : Hid (Sz (xa * xd - xb * xc) 8193) := Lib.hid ((Sz.sub (Sz.mul ya yd) (Sz.mul yb yc)).mono (by omega))
  have K3 := ((((((((K2.int ia).int ja).int ib).int jb).int ic).int jc).int id).int jd)
  have YA := Lib.hid ya
  have YB := Lib.hid yb
  have YC := Lib.hid yc
  have YD := Lib.hid yd
  clear ia ja ib jb ic jc id jd ya yb yc yd oa ob oc od hxa hxb hxc hxd ha2 hb2 hc2 hd2 K2
  go_wp2_with fail
  refine (ref9_cross_any sa za Aa Ba na ca ma da xa sb zb Ab Bb nb cb mb db xb sc zc Ac Bc nc cc mc dc xc sd zd Ad Bd nd cd md dd xd 2048 _ (K3.at_ (by simp)) (K3.at_ (by simp)) YA.out (K3.at_ (by simp)) (K3.at_ (by simp)) YB.out (K3.at_ (by simp)) (K3.at_ (by simp)) YC.out (K3.at_ (by simp)) (K3.at_ (by simp)) YD.out (by decide)).mono ?_
  rintro e4 w4 ⟨neg4, A4, n4, c4, ne4, B4, m4, d4, rfl, I4, J4, hb4⟩
  have K4 := ((K3.next hb4).int J4).int I4
  clear I4 J4 hb4 K3
  go_wp2_with fail
  refine (ref2_one_any _).mono ?_
  rintro e5 w5 ⟨neg5, A5, n5, c5, ne5, B5, m5, d5, rfl, I5, J5, hb5⟩
  have K5 := ((K4.next hb5).int J5).int I5
  clear I5 J5 hb5 K4
  go_wp2_with fail
  refine (ref2_same_any neg4 ne4 A4 B4 n4 c4 m4 d4 neg5 ne5 A5 B5 n5 c5 m5 d5 (xa * xd - xb * xc) 1 (decide (xa * xd - xb * xc = 1)) 8193 1 _ (K5.at_ (by simp)) (K5.at_ (by simp)) (K5.at_ (by simp)) (K5.at_ (by simp)) HSZ.out Sz.one (by decide) (Lib.hid rfl)).mono ?_
  rintro e6 w6 ⟨rfl, hb6⟩
  go_wp2_with fail
  go_ret
  exact ⟨by rw [HM.out, Bool.true_and]; rfl, (K5.next hb6).1⟩
end Go.Proofs.YtgekmbfmfiikkaaGreatDoor
