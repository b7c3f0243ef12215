/-
  Are fractions the same; is it beyond; some of what is owned.
  SameGauss for whole numbers.
-/
import Derived.Test.YtgekmbfmfiikkaaGreatDoorOwI
import Derived.Test.YtgekmbfmfiikkaaGreatDoorExFf
import Derived.Test.YtgekmbfmfiikkaaGreatDoorKlW
namespace Go.Proofs.YtgekmbfmfiikkaaGreatDoor
open Go.RowKit

theorem Blk.rng {wr : World} {g : Nat} {vs : List Value} (h : Blk wr g vs) : wr.rangeAt g 0 vs := fun j v hv => by rw [Nat.zero_add]; exact (h.2 j v hv).1
theorem size_fr : (Tryz.prog.info? 26).map (·.size) = some 4 := by kernel_rfl
theorem size_ma : (Tryz.prog.info? 28).map (·.size) = some 16 := by kernel_rfl
theorem size_ga : (Tryz.prog.info? 30).map (·.size) = some 8 := by kernel_rfl
/-- A load of a whole block, guarded or not. -/
theorem wpList_load_any {P : Program} {ops : Array Oper} {rest : List Oper} {op : Oper} {a : Act} {w : World} {Q : Exit → Act → World → Prop} (hw : Region.wanted op (yielded ops a.tmps) = true) (ty : TypeId) (x : Operand) (ho : op.op = .load ty x)
  (b o : Nat) (hx : a.eval x = .pointer (some ⟨b, o, none⟩)) (cs : List Value) (d : TypeDesc) (hc : w.rangeAt b o cs)
  (hu : P.underlying ty = some d) (hd : d.isRow = true) (hi : (P.info? ty).map (·.size) = some cs.length)
  (h : wpList P ops Q rest (a.put op.dst (.agg cs.toArray)) w) : wpList P ops Q (op :: rest) a w :=
 wpList_step fun K hK => by
  rw [if_pos hw]
  exact wp_load_mid ty x ho b o hx cs d hc hu hd hi (hK _ _ h)

set_option maxRecDepth 100000 in
set_option maxHeartbeats 6400000 in
theorem same_frac_int (sa za : Bool) (Aa Ba : Option Addr) (na ca ma da : Nat) (sb zb : Bool) (Ab Bb : Option Addr) (nb cb mb db : Nat) (x y : Int) (w : World) (ia : IsInt w sa Aa na ca x) (ja : IsInt w za Ba ma da y) (ib : IsInt w sb Ab nb cb x) (jb : IsInt w zb Bb mb db y) (h1 : na ≤ 1000000000) (h2 : ma ≤ 1000000000) :
  Calls Tryz.prog 28 #[.agg #[.bool sa, .slice Aa na ca, .bool za, .slice Ba ma da], .agg #[.bool sb, .slice Ab nb cb, .bool zb, .slice Bb mb db]] w (RetV w (.bool true)) := by
 obtain ⟨rfl, rfl, l1, S1, T1⟩ := isInt_same ia ib
 obtain ⟨rfl, rfl, l2, S2, T2⟩ := isInt_same ja jb
 have K0 := ((Mm.nil w).var (g := w.heap.size) rfl [.bool sa, .slice Aa na ca, .bool za, .slice Ba ma da] 26).var (g := w.heap.size + 1) (by simp) [.bool sa, .slice Ab na cb, .bool za, .slice Bb ma db] 26
 replace S1 := S1.below K0.1
 replace S2 := S2.below K0.1
 replace T1 := T1.below K0.1
 replace T2 := T2.below K0.1
 clear ia ja ib jb
 go_enter Tryz.func28, Tryz.ntmps28
 go_upto_region 1 with (fail)
 generalize (w.alloc (.cells #[.bool sa, .slice Aa na ca, .bool za, .slice Ba ma da] 26)).alloc (.cells #[.bool sa, .slice Ab na cb, .bool za, .slice Bb ma db] 26) = w0 at K0 S1 S2 T1 T2 ⊢
 obtain ⟨⟨p0, p1, p2, p3⟩, _, _⟩ := (K0.blk (g := w.heap.size) (by repeat constructor)).four
 obtain ⟨⟨q0, q1, q2, q3⟩, _, _⟩ := (K0.blk (g := w.heap.size + 1) (by repeat constructor)).four
 go_wp2_with fail
 refine (same_int_any sa Aa Ab na ca cb l1 _ S1 T1 (by omega)).mono ?_
 rintro e1 w1 ⟨rfl, hb⟩
 have K1 := K0.next hb
 replace S2 := S2.below hb
 replace T2 := T2.below hb
 clear K0 hb S1 T1 p0 p1 p2 p3 q0 q1 q2 q3
 obtain ⟨⟨p0, p1, p2, p3⟩, _, _⟩ := (K1.blk (g := w.heap.size) (by repeat constructor)).four
 obtain ⟨⟨q0, q1, q2, q3⟩, _, _⟩ := (K1.blk (g := w.heap.size + 1) (by repeat constructor)).four
 go_wp2_with fail
 refine (same_int_any za Ba Bb ma da db l2 _ S2 T2 (by omega)).mono ?_
 rintro e2 w2 ⟨rfl, hb⟩
 go_wp2_with fail
 go_ret
 exact ⟨rfl, (K1.next hb).1⟩

theorem beyond_one (g p1 : Nat) (b : Bool) (w : World) (hR : Reads w w.heap.size (some ⟨g, 0, none⟩) 1 (nats [p1])) (hs : p1 ≤ 9223372036854775807) (hb : Hid (decide (1048576 < p1) = b)) :
  Calls Tryz.prog 8 #[.slice (some ⟨g, 0, none⟩) 1 1] w (RetV w (.bool b)) := by
 have e : [p1].sum = p1 := by simp
 refine (beyond_any (some ⟨g, 0, none⟩) 1 1 [p1] w hR (by decide) (by rw [e]; exact hs)).mono ?_
 rintro e1 w1 ⟨rfl, rfl⟩
 exact ⟨by rw [e, hb.out], Below.refl _ _⟩
theorem getD_at {o : List OwnAt} {i : Nat} (d : OwnAt) (h : i < o.length) : o.getD i d = o[i] := by simp [List.getD, h]
theorem Owns.sel {B : Nat} {w : World} {o : List OwnAt} (h : Owns B w o) (is : List Nat) (hn : is.Nodup) (hl : ∀ i ∈ is, i < o.length) : Owns B w (is.map (fun i => o.getD i (none, 0, 0))) := by
 refine ⟨fun q hq => ?_, ?_⟩
 ·obtain ⟨i, hi, rfl⟩ := List.mem_map.1 hq
  have := hl i hi
  rw [getD_at _ this]
  exact h.1 _ (List.getElem_mem this)
 ·rw [List.pairwise_map]
  refine List.Pairwise.imp_of_mem (R := (· ≠ ·)) (fun {a b} ha hb hab => ?_) hn
  rw [getD_at _ (hl a ha), getD_at _ (hl b hb)]
  exact far_at h.2 (List.getElem?_eq_getElem (hl a ha)) (List.getElem?_eq_getElem (hl b hb)) hab
end Go.Proofs.YtgekmbfmfiikkaaGreatDoor

namespace Go.Proofs.YtgekmbfmfiikkaaGreatDoor
open Go.RowKit

set_option maxRecDepth 100000 in
set_option maxHeartbeats 6400000 in
theorem same_gauss_int (sa za : Bool) (Aa Ba : Option Addr) (na ca ma da : Nat) (sb zb : Bool) (Ab Bb : Option Addr) (nb cb mb db : Nat) (sc zc : Bool) (Ac Bc : Option Addr) (nc cc mc dc : Nat) (se ze : Bool) (Ae Be : Option Addr) (ne ce me de : Nat) (x y x' y' : Int) (w : World) (ia : IsInt w sa Aa na ca x) (ja : IsInt w za Ba ma da y) (ib : IsInt w sb Ab nb cb x') (jb : IsInt w zb Bb mb db y') (ic : IsInt w sc Ac nc cc x) (jc : IsInt w zc Bc mc dc y) (ie : IsInt w se Ae ne ce x') (je : IsInt w ze Be me de y') (h1 : na ≤ 1000000000) (h2 : ma ≤ 1000000000) (h3 : nb ≤ 1000000000) (h4 : mb ≤ 1000000000) :
  Calls Tryz.prog 15 #[.agg #[.bool sa, .slice Aa na ca, .bool za, .slice Ba ma da, .bool sb, .slice Ab nb cb, .bool zb, .slice Bb mb db], .agg #[.bool sc, .slice Ac nc cc, .bool zc, .slice Bc mc dc, .bool se, .slice Ae ne ce, .bool ze, .slice Be me de]] w (RetV w (.bool true)) := by
 have K0 := ((Mm.nil w).var (g := w.heap.size) rfl [.bool sa, .slice Aa na ca, .bool za, .slice Ba ma da, .bool sb, .slice Ab nb cb, .bool zb, .slice Bb mb db] 30).var (g := w.heap.size + 1) (by simp) [.bool sc, .slice Ac nc cc, .bool zc, .slice Bc mc dc, .bool se, .slice Ae ne ce, .bool ze, .slice Be me de] 30
 replace ia := ia.below K0.1
 replace ja := ja.below K0.1
 replace ib := ib.below K0.1
 replace jb := jb.below K0.1
 replace ic := ic.below K0.1
 replace jc := jc.below K0.1
 replace ie := ie.below K0.1
 replace je := je.below K0.1
 go_enter Tryz.func15, Tryz.ntmps15
 go_upto_region 1 with (fail)
 generalize (w.alloc (.cells #[.bool sa, .slice Aa na ca, .bool za, .slice Ba ma da, .bool sb, .slice Ab nb cb, .bool zb, .slice Bb mb db] 30)).alloc (.cells #[.bool sc, .slice Ac nc cc, .bool zc, .slice Bc mc dc, .bool se, .slice Ae ne ce, .bool ze, .slice Be me de] 30) = w0 at K0 ia ja ib jb ic jc ie je ⊢
 obtain ⟨p0, p1, p2, p3, p4, p5, p6, p7⟩ := (K0.blk (g := w.heap.size) (by repeat constructor)).c8
 obtain ⟨q0, q1, q2, q3, q4, q5, q6, q7⟩ := (K0.blk (g := w.heap.size + 1) (by repeat constructor)).c8
 go_wp2_with fail
 refine (same_frac_int sa za Aa Ba na ca ma da sc zc Ac Bc nc cc mc dc x y _ ia ja ic jc h1 h2).mono ?_
 rintro e1 w1 ⟨rfl, hb⟩
 have K1 := K0.next hb
 replace ib := ib.below hb
 replace jb := jb.below hb
 replace ie := ie.below hb
 replace je := je.below hb
 clear K0 hb ia ja ic jc p0 p1 p2 p3 p4 p5 p6 p7 q0 q1 q2 q3 q4 q5 q6 q7
 obtain ⟨p0, p1, p2, p3, p4, p5, p6, p7⟩ := (K1.blk (g := w.heap.size) (by repeat constructor)).c8
 obtain ⟨q0, q1, q2, q3, q4, q5, q6, q7⟩ := (K1.blk (g := w.heap.size + 1) (by repeat constructor)).c8
 go_wp2_with fail
 refine (same_frac_int sb zb Ab Bb nb cb mb db se ze Ae Be ne ce me de x' y' _ ib jb ie je h3 h4).mono ?_
 rintro e2 w2 ⟨rfl, hb⟩
 go_wp2_with fail
 go_ret
 exact ⟨rfl, (K1.next hb).1⟩
end Go.Proofs.YtgekmbfmfiikkaaGreatDoor
