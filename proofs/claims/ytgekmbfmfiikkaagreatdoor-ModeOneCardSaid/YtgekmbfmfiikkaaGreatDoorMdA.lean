/-
  Are fractions the same; is it beyond; some of what is owned.
  A stable cavity, plainly; roots, plainly; are two numbers too long (exact.Long).
-/
import Derived.Test.YtgekmbfmfiikkaaGreatDoorOwH
import Derived.Test.YtgekmbfmfiikkaaGreatDoorLst
import Derived.Test.YtgekmbfmfiikkaaGreatDoorOwN
import Derived.Test.YtgekmbfmfiikkaaGreatDoorLnB
import Derived.Test.YtgekmbfmfiikkaaGreatDoorMoA
import Derived.Test.YtgekmbfmfiikkaaGreatDoorExZ
import Derived.Test.YtgekmbfmfiikkaaGreatDoorKlW
import Derived.Test.YtgekmbfmfiikkaaGreatDoorOwn
set_option maxHeartbeats 6400000
set_option maxRecDepth 100000
namespace Go.Proofs.YtgekmbfmfiikkaaGreatDoor
open Go.RowKit
theorem Blk.rng {wr : World} {g : Nat} {vs : List Value} (h : Blk wr g vs) : wr.rangeAt g 0 vs := fun j v hv => by rw [Nat.zero_add]; exact (h.2 j v hv).1
theorem size_ma : (Tryz.prog.info? 28).map (·.size) = some 16 := by kernel_rfl
theorem size_ga : (Tryz.prog.info? 30).map (·.size) = some 8 := by kernel_rfl
theorem wpList_load_any {P : Program} {ops : Array Oper} {rest : List Oper} {op : Oper} {a : Act} {w : World} {Q : Exit → Act → World → Prop} (hw : Region.wanted op (yielded ops a.tmps) = true) (ty : TypeId) (x : Operand) (ho : op.op = .load ty x)
  (b o : Nat) (hx : a.eval x = .pointer (some ⟨b, o, none⟩)) (cs : List Value) (d : TypeDesc) (hc : w.rangeAt b o cs)
  (hu : P.underlying ty = some d) (hd : d.isRow = true) (hi : (P.info? ty).map (·.size) = some cs.length)
  (h : wpList P ops Q rest (a.put op.dst (.agg cs.toArray)) w) : wpList P ops Q (op :: rest) a w :=
 wpList_step fun K hK => by
  rw [if_pos hw]
  exact wp_load_mid ty x ho b o hx cs d hc hu hd hi (hK _ _ h)
theorem same_frac_int (sa za : Bool) (Aa Ba : Option Addr) (na ca ma da : Nat) (sb zb : Bool) (Ab Bb : Option Addr) (nb cb mb db : Nat) (x y : Int) (w : World) (ia : IsInt w sa Aa na ca x) (ja : IsInt w za Ba ma da y) (ib : IsInt w sb Ab nb cb x) (jb : IsInt w zb Bb mb db y) (h1 : na ≤ 1000000000) (h2 : ma ≤ 1000000000) :
  Calls Tryz.prog 28 #[.agg #[.bool sa, .slice Aa na ca, .bool za, .slice Ba ma da], .agg #[.bool sb, .slice Ab nb cb, .bool zb, .slice Bb mb db]] w (RetV w (.bool true)) := by
 obtain ⟨rfl, rfl, l1, S1, T1⟩ := isInt_same ia ib
 obtain ⟨rfl, rfl, l2, S2, T2⟩ := isInt_same ja jb
 have K0 := ((Mm.nil w).var (g := w.heap.size) rfl [.bool sa, .slice Aa na ca, .bool za, .slice Ba ma da] 26).var (g := w.heap.size + 1) (by simp) [.bool sa, .slice Ab na cb, .bool za, .slice Bb ma db] 26
 replace S1 := S1.below K0.1
 replace S2 := S2.below K0.1
 replace T1 := T1.below K0.1
 replace T2 := T2.below K0.1
 clear ia ja ib jb
 go_enter Tryz.func28, Tryz.ntmps28
 go_upto_region 1 with (fail)
 generalize (w.alloc (.cells #[.bool sa, .slice Aa na ca, .bool za, .slice Ba ma da] 26)).alloc (.cells #[.bool sa, .slice Ab na cb, .bool za, .slice Bb ma db] 26) = w0 at K0 S1 S2 T1 T2 ⊢
 obtain ⟨⟨p0, p1, p2, p3⟩, _, _⟩ := (K0.blk (g := w.heap.size) (by repeat constructor)).four
 obtain ⟨⟨q0, q1, q2, q3⟩, _, _⟩ := (K0.blk (g := w.heap.size + 1) (by repeat constructor)).four
 go_wp2_with fail
 refine (same_int_any sa Aa Ab na ca cb l1 _ S1 T1 (by omega)).mono ?_
 rintro e1 w1 ⟨rfl, hb⟩
 have K1 := K0.next hb
 replace S2 := S2.below hb
 replace T2 := T2.below hb
 clear K0 hb S1 T1 p0 p1 p2 p3 q0 q1 q2 q3
 obtain ⟨⟨p0, p1, p2, p3⟩, _, _⟩ := (K1.blk (g := w.heap.size) (by repeat constructor)).four
 obtain ⟨⟨q0, q1, q2, q3⟩, _, _⟩ := (K1.blk (g := w.heap.size + 1) (by repeat constructor)).four
 go_wp2_with fail
 refine (same_int_any za Ba Bb ma da db l2 _ S2 T2 (by omega)).mono ?_
 rintro e2 w2 ⟨rfl, hb⟩
 go_wp2_with fail
 go_ret
 exact ⟨rfl, (K1.next hb).1⟩
theorem beyond_one (g p1 : Nat) (b : Bool) (w : World) (hR : Reads w w.heap.size (some ⟨g, 0, none⟩) 1 (nats [p1])) (hs : p1 ≤ 9223372036854775807) (hb : Hid (decide (1048576 < p1) = b)) :
  Calls Tryz.prog 8 #[.slice (some ⟨g, 0, none⟩) 1 1] w (RetV w (.bool b)) := by
 have e : [p1].sum = p1 := by simp
 refine (beyond_any (some ⟨g, 0, none⟩) 1 1 [p1] w hR (by decide) (by rw [e]; exact hs)).mono ?_
 rintro e1 w1 ⟨rfl, rfl⟩
 exact ⟨by rw [e, hb.out], Below.refl _ _⟩
end Go.Proofs.YtgekmbfmfiikkaaGreatDoor
namespace Go.Proofs.YtgekmbfmfiikkaaGreatDoor
open Go.RowKit
theorem sq_nonneg (x : Rat) : 0 ≤ x * x := by
 rcases Rat.le_total (a := 0) (b := x) with h | h
 ·exact Rat.mul_nonneg h h
 ·have := Rat.mul_nonneg (a := -x) (b := -x) (by grind) (by grind)
  grind
theorem st_c {a b c d : Rat} (h : a * d - b * c = 1) (h4 : 0 < 4 - (a + d) * (a + d)) : c ≠ 0 := by
 intro e
 have h1 := sq_nonneg (a - d)
 rw [e] at h
 grind
theorem st_sq {c : Rat} (h : c ≠ 0) : 0 < 4 * (c * c) := by
 have h1 := sq_nonneg c
 have h2 : c * c ≠ 0 := fun e => (Rat.mul_eq_zero.1 e).elim h h
 grind
theorem st_two {c : Rat} (h : c ≠ 0) : 2 * c ≠ 0 := by
 intro e
 exact h (by grind)
theorem st_v {l k : Rat} (hl : 0 < l) (hk : 0 < k) : 0 < l / k := by
 rw [Rat.div_def]
 exact Rat.mul_pos hl (Rat.inv_pos.2 hk)
theorem rt_uniq {X j k : Nat} (h : IsRt X j) (h' : IsRt X k) : j = k := by
 obtain ⟨h1, h2⟩ := h
 obtain ⟨h3, h4⟩ := h'
 rcases Nat.lt_trichotomy j k with h | h | h
 ·have := Nat.mul_le_mul (show j + 1 ≤ k by omega) (show j + 1 ≤ k by omega)
  omega
 ·exact h
 ·have := Nat.mul_le_mul (show k + 1 ≤ j by omega) (show k + 1 ≤ j by omega)
  omega
theorem rt_ex (X : Nat) : ∃ k, IsRt X k := by
 induction X with
 | zero => exact ⟨0, by unfold IsRt; omega⟩
 | succ X ih =>
  obtain ⟨k, h1, h2⟩ := ih
  by_cases h : (k + 1) * (k + 1) ≤ X + 1
  ·refine ⟨k + 1, h, ?_⟩
   have : (k + 1 + 1) * (k + 1 + 1) = (k + 1) * (k + 1) + 2 * (k + 1) + 1 := by rw [Nat.add_mul, Nat.mul_add]; omega
   omega
  ·exact ⟨k, by omega, by omega⟩
theorem index_two (g : Nat) (neg : Bool) (A : Option Addr) (n c : Nat) (neg' : Bool) (A' : Option Addr) (n' c' : Nat) (b b' : Bool) (v : Int) (w : World) (hg : g < w.heap.size) (c0 : w.cell? ⟨g, 0, none⟩ = some (.bool neg)) (c1 : w.cell? ⟨g, 1, none⟩ = some (.slice A n c)) (c2 : w.cell? ⟨g, 2, none⟩ = some (.bool neg')) (c3 : w.cell? ⟨g, 3, none⟩ = some (.slice A' n' c')) (hb : Hid (decide (2048 < n) = b)) (hb' : Hid (decide (2048 < n') = b')) (hv : Hid ((if b then (0 : Int) else if b' then 1 else -1) = v)) :
  Calls Tryz.prog 280 #[.slice (some ⟨g, 0, none⟩) 2 2, .func (.func 223) #[] #[]] w (RetV w (.int .i64 v)) := by
 go_enter Tryz.func280, Tryz.ntmps280
 go_wp2_with fail
 go_loopw [8] (fun i wr => ∃ k : Nat, k ≤ 2 ∧ i = .int .i64 (k : Int) ∧ Below w.heap.size w wr ∧ (0 < k → b = false) ∧ (1 < k → b' = false)) (fun i _ => 2 - (intOf i).toNat)
 case atStart => exact ⟨0, Nat.zero_le _, rfl, Below.refl _ _, fun h => absurd h (by decide), fun h => absurd h (by decide)⟩
 case round =>
  obtain ⟨k, hk, rfl, hb0, hbf, hbg⟩ := hrel
  match k, hk with
  | 0, _ =>
   clear hbf hbg
   have d0 := (hb0.cell (p := ⟨g, 0, none⟩) hg).trans c0
   have d1 := (hb0.cell (p := ⟨g, 1, none⟩) hg).trans c1
   have hsz := hb0.size
   go_wp2_with fail
   refine (ex_long1_any neg A n c b _ hb).mono ?_
   rintro e1 w1 ⟨rfl, hb1⟩
   have hb2 := hb0.trans (hb1.mono hsz)
   cases b with
   | true =>
    go_wp2_with fail
    go_ret
    exact ⟨by rw [← hv.out]; rfl, hb2⟩
   | false =>
    go_wp2_with fail
    refine ⟨⟨1, by decide, rfl, hb2, (by simp), (by simp)⟩, ?_⟩
    simp [intOf]
  | 1, _ =>
   obtain rfl := hbf (by decide)
   clear hbf hbg
   have d0 := (hb0.cell (p := ⟨g, 2, none⟩) hg).trans c2
   have d1 := (hb0.cell (p := ⟨g, 3, none⟩) hg).trans c3
   have hsz := hb0.size
   go_wp2_with fail
   refine (ex_long1_any neg' A' n' c' b' _ hb').mono ?_
   rintro e1 w1 ⟨rfl, hb1⟩
   have hb2 := hb0.trans (hb1.mono hsz)
   cases b' with
   | true =>
    go_wp2_with fail
    go_ret
    exact ⟨by rw [← hv.out]; rfl, hb2⟩
   | false =>
    go_wp2_with fail
    refine ⟨⟨2, by decide, rfl, hb2, (by simp), (by simp)⟩, ?_⟩
    simp [intOf]
  | 2, _ =>
   obtain rfl := hbf (by decide)
   obtain rfl := hbg (by decide)
   go_wp2_with fail
   go_ret
   exact ⟨by rw [← hv.out]; rfl, hb0⟩
theorem ex_long_two (g : Nat) (neg : Bool) (A : Option Addr) (n c : Nat) (neg' : Bool) (A' : Option Addr) (n' c' : Nat) (b b' : Bool) (w : World) (hg : g < w.heap.size) (c0 : w.cell? ⟨g, 0, none⟩ = some (.bool neg)) (c1 : w.cell? ⟨g, 1, none⟩ = some (.slice A n c)) (c2 : w.cell? ⟨g, 2, none⟩ = some (.bool neg')) (c3 : w.cell? ⟨g, 3, none⟩ = some (.slice A' n' c')) (hb : Hid (decide (2048 < n) = b)) (hb' : Hid (decide (2048 < n') = b')) :
  Calls Tryz.prog 115 #[.slice (some ⟨g, 0, none⟩) 2 2] w (RetV w (.bool (b || b'))) := by
 have hC : Calls Tryz.prog 222 #[.slice (some ⟨g, 0, none⟩) 2 2, .func (.func 223) #[] #[]] w (RetV w (.bool (b || b'))) := by
  go_enter Tryz.func222, Tryz.ntmps222
  go_wp2_with fail
  obtain ⟨v, hv⟩ : ∃ v, (if b then (0 : Int) else if b' then 1 else -1) = v := ⟨_, rfl⟩
  refine (index_two g neg A n c neg' A' n' c' b b' v _ hg c0 c1 c2 c3 hb hb' (Lib.hid hv)).mono ?_
  rintro e1 w1 ⟨rfl, hb1⟩
  cases b with
  | true =>
   obtain rfl : (0 : Int) = v := hv
   go_wp2_with fail
   go_ret
   exact ⟨rfl, hb1⟩
  | false =>
   cases b' with
   | true =>
    obtain rfl : (1 : Int) = v := hv
    go_wp2_with fail
    go_ret
    exact ⟨rfl, hb1⟩
   | false =>
    obtain rfl : (-1 : Int) = v := hv
    go_wp2_with fail
    go_ret
    exact ⟨rfl, hb1⟩
 go_enter Tryz.func115, Tryz.ntmps115
 go_wp2_with fail
 refine hC.mono ?_
 rintro e1 w1 ⟨rfl, hb1⟩
 go_wp2_with fail
 go_ret
 exact ⟨rfl, hb1⟩
end Go.Proofs.YtgekmbfmfiikkaaGreatDoor
