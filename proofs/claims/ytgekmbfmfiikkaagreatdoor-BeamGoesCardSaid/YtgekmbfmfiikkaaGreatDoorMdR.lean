/-
  Are fractions, complex numbers the same (SameFrac, SameGauss)? Sizes (MatrixSize, GaussSize).
  Are fractions the same; is it beyond; some of what is owned.
  SameGauss for whole numbers.
-/
import Derived.Test.YtgekmbfmfiikkaaGreatDoorBmG
import Derived.Test.YtgekmbfmfiikkaaGreatDoorExFb
import Derived.Test.YtgekmbfmfiikkaaGreatDoorExFf
import Derived.Test.YtgekmbfmfiikkaaGreatDoorBmF
import Derived.Test.YtgekmbfmfiikkaaGreatDoorKlW
set_option maxHeartbeats 6400000
set_option maxRecDepth 100000
namespace Go.Proofs.YtgekmbfmfiikkaaGreatDoor
open Go.RowKit
theorem isInt_same {w w' : World} {s s' : Bool} {A A' : Option Addr} {n c n' c' : Nat} {z : Int} (h : IsInt w s A n c z) (k : IsInt w' s' A' n' c' z) : s = s' ∧ n = n' ∧ ∃ l, Sl w A n c l ∧ Sl w' A' n' c' l := by
 have hn := isInt_len h k rfl
 obtain ⟨a, ha, ca, na, rfl⟩ := h
 obtain ⟨b, hb, cb, nb, e⟩ := k
 have hs : ∀ (s : Bool) (m : Nat), (sgnd s m).natAbs = m := by intro s m; unfold sgnd; split <;> omega
 have h1 : Lm.lv a = Lm.lv b := by have := congrArg Int.natAbs e; rw [hs, hs] at this; exact this
 have := Lm.lv_inj ha.ok ca hb.ok cb h1
 subst this
 refine ⟨?_, hn, a, ha, hb⟩
 by_cases h0 : a = []
 ·rw [na h0, nb h0]
 ·have hp : Lm.lv a ≠ 0 := fun x => h0 ((Lm.lv_zero ca).1 x)
  cases s <;> cases s' <;> simp [sgnd] at e ⊢ <;> omega
theorem same_frac_ok (sa : Bool) (Aa : Option Addr) (na ca : Nat) (la : List Nat) (za : Bool) (Ba : Option Addr) (ma da : Nat) (ka : List Nat) (sb : Bool) (Ab : Option Addr) (nb cb : Nat) (lb : List Nat) (zb : Bool) (Bb : Option Addr) (mb db : Nat) (kb : List Nat) (x : Rat) (w : World) (oa : OkF w ((sa, Aa, na, ca, la), (za, Ba, ma, da, ka)) x) (ob : OkF w ((sb, Ab, nb, cb, lb), (zb, Bb, mb, db, kb)) x) :
  Calls Tryz.prog 28 #[.agg #[.bool sa, .slice Aa na ca, .bool za, .slice Ba ma da], .agg #[.bool sb, .slice Ab nb cb, .bool zb, .slice Bb mb db]] w (RetV w (.bool true)) := by
 have h1 := int_len oa.ints.1 oa.ints.2.2.1
 have h2 := int_len oa.ints.2.1 (by rw [Int.natAbs_natCast]; exact oa.ints.2.2.2)
 obtain ⟨rfl, rfl, l1, S1, T1⟩ := isInt_same oa.ints.1 ob.ints.1
 obtain ⟨rfl, rfl, l2, S2, T2⟩ := isInt_same oa.ints.2.1 ob.ints.2.1
 have K0 := ((Mm.nil w).var (g := w.heap.size) rfl [.bool sa, .slice Aa na ca, .bool za, .slice Ba ma da] 26).var (g := w.heap.size + 1) (by simp) [.bool sa, .slice Ab na cb, .bool za, .slice Bb ma db] 26
 replace S1 := S1.below K0.1
 replace S2 := S2.below K0.1
 replace T1 := T1.below K0.1
 replace T2 := T2.below K0.1
 clear oa ob
 go_enter Tryz.func28, Tryz.ntmps28
 go_upto_region 1 with (fail)
 generalize (w.alloc (.cells #[.bool sa, .slice Aa na ca, .bool za, .slice Ba ma da] 26)).alloc (.cells #[.bool sa, .slice Ab na cb, .bool za, .slice Bb ma db] 26) = w0 at K0 S1 S2 T1 T2 ⊢
 obtain ⟨⟨p0, p1, p2, p3⟩, _, _⟩ := (K0.blk (g := w.heap.size) (by repeat constructor)).four
 obtain ⟨⟨q0, q1, q2, q3⟩, _, _⟩ := (K0.blk (g := w.heap.size + 1) (by repeat constructor)).four
 go_wp2_with fail
 refine (same_int_any sa Aa Ab na ca cb l1 _ S1 T1 (by omega)).mono ?_
 rintro e1 w1 ⟨rfl, hb⟩
 have K1 := K0.next hb
 replace S2 := S2.below hb
 replace T2 := T2.below hb
 clear K0 hb S1 T1 p0 p1 p2 p3 q0 q1 q2 q3
 obtain ⟨⟨p0, p1, p2, p3⟩, _, _⟩ := (K1.blk (g := w.heap.size) (by repeat constructor)).four
 obtain ⟨⟨q0, q1, q2, q3⟩, _, _⟩ := (K1.blk (g := w.heap.size + 1) (by repeat constructor)).four
 go_wp2_with fail
 refine (same_int_any za Ba Bb ma da db l2 _ S2 T2 (by omega)).mono ?_
 rintro e2 w2 ⟨rfl, hb⟩
 go_wp2_with fail
 go_ret
 exact ⟨rfl, (K1.next hb).1⟩
theorem same_gauss_ok (sa : Bool) (Aa : Option Addr) (na ca : Nat) (la : List Nat) (za : Bool) (Ba : Option Addr) (ma da : Nat) (ka : List Nat) (sb : Bool) (Ab : Option Addr) (nb cb : Nat) (lb : List Nat) (zb : Bool) (Bb : Option Addr) (mb db : Nat) (kb : List Nat) (sc : Bool) (Ac : Option Addr) (nc cc : Nat) (lc : List Nat) (zc : Bool) (Bc : Option Addr) (mc dc : Nat) (kc : List Nat) (sd : Bool) (Ad : Option Addr) (nd cd : Nat) (ld : List Nat) (zd : Bool) (Bd : Option Addr) (md dd : Nat) (kd : List Nat) (x y : Rat) (w : World) (oa : OkF w ((sa, Aa, na, ca, la), (za, Ba, ma, da, ka)) x) (ob : OkF w ((sb, Ab, nb, cb, lb), (zb, Bb, mb, db, kb)) y) (oc : OkF w ((sc, Ac, nc, cc, lc), (zc, Bc, mc, dc, kc)) x) (od : OkF w ((sd, Ad, nd, cd, ld), (zd, Bd, md, dd, kd)) y) :
  Calls Tryz.prog 15 #[.agg #[.bool sa, .slice Aa na ca, .bool za, .slice Ba ma da, .bool sb, .slice Ab nb cb, .bool zb, .slice Bb mb db], .agg #[.bool sc, .slice Ac nc cc, .bool zc, .slice Bc mc dc, .bool sd, .slice Ad nd cd, .bool zd, .slice Bd md dd]] w (RetV w (.bool true)) := by
 have K0 := ((Mm.nil w).var (g := w.heap.size) rfl [.bool sa, .slice Aa na ca, .bool za, .slice Ba ma da, .bool sb, .slice Ab nb cb, .bool zb, .slice Bb mb db] 30).var (g := w.heap.size + 1) (by simp) [.bool sc, .slice Ac nc cc, .bool zc, .slice Bc mc dc, .bool sd, .slice Ad nd cd, .bool zd, .slice Bd md dd] 30
 replace oa := oa.next K0.1
 replace ob := ob.next K0.1
 replace oc := oc.next K0.1
 replace od := od.next K0.1
 go_enter Tryz.func15, Tryz.ntmps15
 go_upto_region 1 with (fail)
 generalize (w.alloc (.cells #[.bool sa, .slice Aa na ca, .bool za, .slice Ba ma da, .bool sb, .slice Ab nb cb, .bool zb, .slice Bb mb db] 30)).alloc (.cells #[.bool sc, .slice Ac nc cc, .bool zc, .slice Bc mc dc, .bool sd, .slice Ad nd cd, .bool zd, .slice Bd md dd] 30) = w0 at K0 oa ob oc od ⊢
 obtain ⟨p0, p1, p2, p3, p4, p5, p6, p7⟩ := (K0.blk (g := w.heap.size) (by repeat constructor)).c8
 obtain ⟨q0, q1, q2, q3, q4, q5, q6, q7⟩ := (K0.blk (g := w.heap.size + 1) (by repeat constructor)).c8
 go_wp2_with fail
 refine (same_frac_ok sa Aa na ca la za Ba ma da ka sc Ac nc cc lc zc Bc mc dc kc x _ oa oc).mono ?_
 rintro e1 w1 ⟨rfl, hb⟩
 have K1 := K0.next hb
 replace ob := ob.next hb
 replace od := od.next hb
 clear K0 hb oa oc p0 p1 p2 p3 p4 p5 p6 p7 q0 q1 q2 q3 q4 q5 q6 q7
 obtain ⟨p0, p1, p2, p3, p4, p5, p6, p7⟩ := (K1.blk (g := w.heap.size) (by repeat constructor)).c8
 obtain ⟨q0, q1, q2, q3, q4, q5, q6, q7⟩ := (K1.blk (g := w.heap.size + 1) (by repeat constructor)).c8
 go_wp2_with fail
 refine (same_frac_ok sb Ab nb cb lb zb Bb mb db kb sd Ad nd cd ld zd Bd md dd kd y _ ob od).mono ?_
 rintro e2 w2 ⟨rfl, hb⟩
 go_wp2_with fail
 go_ret
 exact ⟨rfl, (K1.next hb).1⟩
end Go.Proofs.YtgekmbfmfiikkaaGreatDoor
namespace Go.Proofs.YtgekmbfmfiikkaaGreatDoor
open Go.RowKit
theorem Blk.rng {wr : World} {g : Nat} {vs : List Value} (h : Blk wr g vs) : wr.rangeAt g 0 vs := fun j v hv => by rw [Nat.zero_add]; exact (h.2 j v hv).1
theorem size_ma : (Tryz.prog.info? 28).map (·.size) = some 16 := by kernel_rfl
theorem size_ga : (Tryz.prog.info? 30).map (·.size) = some 8 := by kernel_rfl
theorem wpList_load_any {P : Program} {ops : Array Oper} {rest : List Oper} {op : Oper} {a : Act} {w : World} {Q : Exit → Act → World → Prop} (hw : Region.wanted op (yielded ops a.tmps) = true) (ty : TypeId) (x : Operand) (ho : op.op = .load ty x)
  (b o : Nat) (hx : a.eval x = .pointer (some ⟨b, o, none⟩)) (cs : List Value) (d : TypeDesc) (hc : w.rangeAt b o cs)
  (hu : P.underlying ty = some d) (hd : d.isRow = true) (hi : (P.info? ty).map (·.size) = some cs.length)
  (h : wpList P ops Q rest (a.put op.dst (.agg cs.toArray)) w) : wpList P ops Q (op :: rest) a w :=
 wpList_step fun K hK => by
  rw [if_pos hw]
  exact wp_load_mid ty x ho b o hx cs d hc hu hd hi (hK _ _ h)
theorem same_frac_int (sa za : Bool) (Aa Ba : Option Addr) (na ca ma da : Nat) (sb zb : Bool) (Ab Bb : Option Addr) (nb cb mb db : Nat) (x y : Int) (w : World) (ia : IsInt w sa Aa na ca x) (ja : IsInt w za Ba ma da y) (ib : IsInt w sb Ab nb cb x) (jb : IsInt w zb Bb mb db y) (h1 : na ≤ 1000000000) (h2 : ma ≤ 1000000000) :
  Calls Tryz.prog 28 #[.agg #[.bool sa, .slice Aa na ca, .bool za, .slice Ba ma da], .agg #[.bool sb, .slice Ab nb cb, .bool zb, .slice Bb mb db]] w (RetV w (.bool true)) := by
 obtain ⟨rfl, rfl, l1, S1, T1⟩ := isInt_same ia ib
 obtain ⟨rfl, rfl, l2, S2, T2⟩ := isInt_same ja jb
 have K0 := ((Mm.nil w).var (g := w.heap.size) rfl [.bool sa, .slice Aa na ca, .bool za, .slice Ba ma da] 26).var (g := w.heap.size + 1) (by simp) [.bool sa, .slice Ab na cb, .bool za, .slice Bb ma db] 26
 replace S1 := S1.below K0.1
 replace S2 := S2.below K0.1
 replace T1 := T1.below K0.1
 replace T2 := T2.below K0.1
 clear ia ja ib jb
 go_enter Tryz.func28, Tryz.ntmps28
 go_upto_region 1 with (fail)
 generalize (w.alloc (.cells #[.bool sa, .slice Aa na ca, .bool za, .slice Ba ma da] 26)).alloc (.cells #[.bool sa, .slice Ab na cb, .bool za, .slice Bb ma db] 26) = w0 at K0 S1 S2 T1 T2 ⊢
 obtain ⟨⟨p0, p1, p2, p3⟩, _, _⟩ := (K0.blk (g := w.heap.size) (by repeat constructor)).four
 obtain ⟨⟨q0, q1, q2, q3⟩, _, _⟩ := (K0.blk (g := w.heap.size + 1) (by repeat constructor)).four
 go_wp2_with fail
 refine (same_int_any sa Aa Ab na ca cb l1 _ S1 T1 (by omega)).mono ?_
 rintro e1 w1 ⟨rfl, hb⟩
 have K1 := K0.next hb
 replace S2 := S2.below hb
 replace T2 := T2.below hb
 clear K0 hb S1 T1 p0 p1 p2 p3 q0 q1 q2 q3
 obtain ⟨⟨p0, p1, p2, p3⟩, _, _⟩ := (K1.blk (g := w.heap.size) (by repeat constructor)).four
 obtain ⟨⟨q0, q1, q2, q3⟩, _, _⟩ := (K1.blk (g := w.heap.size + 1) (by repeat constructor)).four
 go_wp2_with fail
 refine (same_int_any za Ba Bb ma da db l2 _ S2 T2 (by omega)).mono ?_
 rintro e2 w2 ⟨rfl, hb⟩
 go_wp2_with fail
 go_ret
 exact ⟨rfl, (K1.next hb).1⟩
theorem getD_at {o : List OwnAt} {i : Nat} (d : OwnAt) (h : i < o.length) : o.getD i d = o[i] := by simp [List.getD, h]
theorem Owns.sel {B : Nat} {w : World} {o : List OwnAt} (h : Owns B w o) (is : List Nat) (hn : is.Nodup) (hl : ∀ i ∈ is, i < o.length) : Owns B w (is.map (fun i => o.getD i (none, 0, 0))) := by
 refine ⟨fun q hq => ?_, ?_⟩
 ·obtain ⟨i, hi, rfl⟩ := List.mem_map.1 hq
  have := hl i hi
  rw [getD_at _ this]
  exact h.1 _ (List.getElem_mem this)
 ·rw [List.pairwise_map]
  refine List.Pairwise.imp_of_mem (R := (· ≠ ·)) (fun {a b} ha hb hab => ?_) hn
  rw [getD_at _ (hl a ha), getD_at _ (hl b hb)]
  exact far_at h.2 (List.getElem?_eq_getElem (hl a ha)) (List.getElem?_eq_getElem (hl b hb)) hab
end Go.Proofs.YtgekmbfmfiikkaaGreatDoor
namespace Go.Proofs.YtgekmbfmfiikkaaGreatDoor
open Go.RowKit
theorem same_gauss_int (sa za : Bool) (Aa Ba : Option Addr) (na ca ma da : Nat) (sb zb : Bool) (Ab Bb : Option Addr) (nb cb mb db : Nat) (sc zc : Bool) (Ac Bc : Option Addr) (nc cc mc dc : Nat) (se ze : Bool) (Ae Be : Option Addr) (ne ce me de : Nat) (x y x' y' : Int) (w : World) (ia : IsInt w sa Aa na ca x) (ja : IsInt w za Ba ma da y) (ib : IsInt w sb Ab nb cb x') (jb : IsInt w zb Bb mb db y') (ic : IsInt w sc Ac nc cc x) (jc : IsInt w zc Bc mc dc y) (ie : IsInt w se Ae ne ce x') (je : IsInt w ze Be me de y') (h1 : na ≤ 1000000000) (h2 : ma ≤ 1000000000) (h3 : nb ≤ 1000000000) (h4 : mb ≤ 1000000000) :
  Calls Tryz.prog 15 #[.agg #[.bool sa, .slice Aa na ca, .bool za, .slice Ba ma da, .bool sb, .slice Ab nb cb, .bool zb, .slice Bb mb db], .agg #[.bool sc, .slice Ac nc cc, .bool zc, .slice Bc mc dc, .bool se, .slice Ae ne ce, .bool ze, .slice Be me de]] w (RetV w (.bool true)) := by
 have K0 := ((Mm.nil w).var (g := w.heap.size) rfl [.bool sa, .slice Aa na ca, .bool za, .slice Ba ma da, .bool sb, .slice Ab nb cb, .bool zb, .slice Bb mb db] 30).var (g := w.heap.size + 1) (by simp) [.bool sc, .slice Ac nc cc, .bool zc, .slice Bc mc dc, .bool se, .slice Ae ne ce, .bool ze, .slice Be me de] 30
 replace ia := ia.below K0.1
 replace ja := ja.below K0.1
 replace ib := ib.below K0.1
 replace jb := jb.below K0.1
 replace ic := ic.below K0.1
 replace jc := jc.below K0.1
 replace ie := ie.below K0.1
 replace je := je.below K0.1
 go_enter Tryz.func15, Tryz.ntmps15
 go_upto_region 1 with (fail)
 generalize (w.alloc (.cells #[.bool sa, .slice Aa na ca, .bool za, .slice Ba ma da, .bool sb, .slice Ab nb cb, .bool zb, .slice Bb mb db] 30)).alloc (.cells #[.bool sc, .slice Ac nc cc, .bool zc, .slice Bc mc dc, .bool se, .slice Ae ne ce, .bool ze, .slice Be me de] 30) = w0 at K0 ia ja ib jb ic jc ie je ⊢
 obtain ⟨p0, p1, p2, p3, p4, p5, p6, p7⟩ := (K0.blk (g := w.heap.size) (by repeat constructor)).c8
 obtain ⟨q0, q1, q2, q3, q4, q5, q6, q7⟩ := (K0.blk (g := w.heap.size + 1) (by repeat constructor)).c8
 go_wp2_with fail
 refine (same_frac_int sa za Aa Ba na ca ma da sc zc Ac Bc nc cc mc dc x y _ ia ja ic jc h1 h2).mono ?_
 rintro e1 w1 ⟨rfl, hb⟩
 have K1 := K0.next hb
 replace ib := ib.below hb
 replace jb := jb.below hb
 replace ie := ie.below hb
 replace je := je.below hb
 clear K0 hb ia ja ic jc p0 p1 p2 p3 p4 p5 p6 p7 q0 q1 q2 q3 q4 q5 q6 q7
 obtain ⟨p0, p1, p2, p3, p4, p5, p6, p7⟩ := (K1.blk (g := w.heap.size) (by repeat constructor)).c8
 obtain ⟨q0, q1, q2, q3, q4, q5, q6, q7⟩ := (K1.blk (g := w.heap.size + 1) (by repeat constructor)).c8
 go_wp2_with fail
 refine (same_frac_int sb zb Ab Bb nb cb mb db se ze Ae Be ne ce me de x' y' _ ib jb ie je h3 h4).mono ?_
 rintro e2 w2 ⟨rfl, hb⟩
 go_wp2_with fail
 go_ret
 exact ⟨rfl, (K1.next hb).1⟩
end Go.Proofs.YtgekmbfmfiikkaaGreatDoor
