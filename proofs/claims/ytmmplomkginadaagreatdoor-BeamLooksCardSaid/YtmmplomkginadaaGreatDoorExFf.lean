/-
  A whole number is what another one is (SameInt).
  Are fractions, complex numbers the same (SameFrac, SameGauss)? Sizes (MatrixSize, GaussSize).
  What complex numbers and matrices cost (GaussCost, MatrixCost).
  Is the twin of a whole number as it was? (LeftInt)
  Is the twin of a fraction as it was? (LeftFrac)
  The twin of a whole number (TwinInt): the same limbs in memory of its own, one more behind them.
-/
import Derived.Test.YtmmplomkginadaaGreatDoorRootR
import Derived.Test.YtmmplomkginadaaGreatDoorBmG
import Derived.Test.YtmmplomkginadaaGreatDoorExFb
import Derived.Test.YtmmplomkginadaaGreatDoorAnD
import Derived.Test.YtmmplomkginadaaGreatDoorLst
import Derived.Test.YtmmplomkginadaaGreatDoorOwB
namespace Go.Proofs.YtmmplomkginadaaGreatDoor
open Go.RowKit

set_option maxRecDepth 100000 in
set_option maxHeartbeats 1600000 in
theorem same_int_any (neg : Bool) (A A' : Option Addr) (n c c' : Nat) (l : List Nat) (w : World) (ha : Sl w A n c l) (hb : Sl w A' n c' l) (hn : n ≤ 1000000000) :
    Calls Tryz.prog 129 #[.agg #[.bool neg, .slice A n c], .agg #[.bool neg, .slice A' n c']] w (RetV w (.bool true)) := by
  have K0 := ((Mm.nil w).var (g := w.heap.size) rfl [.bool neg, .slice A n c] 24).var (g := w.heap.size + 1) (by simp) [.bool neg, .slice A' n c'] 24
  have ha0 := ha.below K0.1
  have hb0 := hb.below K0.1
  clear ha hb
  go_enter Tryz.func129, Tryz.ntmps129
  go_wp2_with fail
  generalize (w.alloc (.cells #[.bool neg, .slice A n c] 24)).alloc (.cells #[.bool neg, .slice A' n c'] 24) = w0 at K0 ha0 hb0 ⊢
  go_loopw [5] (fun ix wr => ∃ k : Nat, k ≤ n ∧ ix = .int .i64 (k : Int) ∧ Sl wr A n c l ∧ Sl wr A' n c' l ∧ Mm w [(w.heap.size, [.bool neg, .slice A n c]), (w.heap.size + 1, [.bool neg, .slice A' n c'])] [] wr) (fun ix _ => n - (intOf ix).toNat)
  case atStart => exact ⟨0, Nat.zero_le _, rfl, ha0, hb0, K0.pick (by simp) (by simp)⟩
  case round =>
    clear ha0 hb0 K0
    obtain ⟨k, hk, rfl, ha0, hb0, K0⟩ := hrel
    obtain ⟨qa0, qb0, qc0, qd0, qe0⟩ := (K0.blk (g := w.heap.size) (vs := [.bool neg, .slice A n c]) (by simp)).two
    obtain ⟨qa1, qb1, qc1, qd1, qe1⟩ := (K0.blk (g := w.heap.size + 1) (vs := [.bool neg, .slice A' n c']) (by simp)).two
    by_cases hkn : k = n
    · subst hkn
      go_wp2_with fail
      go_ret
      exact ⟨rfl, K0.1⟩
    · have hlt : k < n := by omega
      obtain ⟨ad, rfl, _, hld, hcd, _⟩ := ha0.at_ hlt
      obtain ⟨bd, rfl, _, _, hce, _⟩ := hb0.at_ hlt
      obtain ⟨x, hx⟩ : ∃ x, l[k] = x := ⟨_, rfl⟩
      rw [hx] at hcd hce
      have hlt' : (k : Int) < (n : Int) := by omega
      have hk0 : (0 : Int) ≤ (k : Int) := Int.natCast_nonneg _
      clear hx hkn
      go_wp2_with fail
      go_quiet (fail)
      go_wp2_with fail
      go_roundw
      case rel => exact ⟨k + 1, hlt, congrArg (Value.int .i64) (by omega), ha0.drewN _, hb0.drewN _, K0.drewN _⟩
      case measure => simp [intOf] <;> omega
end Go.Proofs.YtmmplomkginadaaGreatDoor

namespace Go.Proofs.YtmmplomkginadaaGreatDoor
open Go.RowKit

theorem isInt_same {w w' : World} {s s' : Bool} {A A' : Option Addr} {n c n' c' : Nat} {z : Int} (h : IsInt w s A n c z) (k : IsInt w' s' A' n' c' z) : s = s' ∧ n = n' ∧ ∃ l, Sl w A n c l ∧ Sl w' A' n' c' l := by
  have hn := isInt_len h k rfl
  obtain ⟨a, ha, ca, na, rfl⟩ := h
  obtain ⟨b, hb, cb, nb, e⟩ := k
  have hs : ∀ (s : Bool) (m : Nat), (sgnd s m).natAbs = m := by intro s m; unfold sgnd; split <;> omega
  have h1 : Lm.lv a = Lm.lv b := by have := congrArg Int.natAbs e; rw [hs, hs] at this; exact this
  have := Lm.lv_inj ha.ok ca hb.ok cb h1
  subst this
  refine ⟨?_, hn, a, ha, hb⟩
  by_cases h0 : a = []
  · rw [na h0, nb h0]
  · have hp : Lm.lv a ≠ 0 := fun x => h0 ((Lm.lv_zero ca).1 x)
    cases s <;> cases s' <;> simp [sgnd] at e ⊢ <;> omega

set_option maxRecDepth 100000 in
set_option maxHeartbeats 6400000 in
theorem same_frac_ok (sa : Bool) (Aa : Option Addr) (na ca : Nat) (la : List Nat) (za : Bool) (Ba : Option Addr) (ma da : Nat) (ka : List Nat) (sb : Bool) (Ab : Option Addr) (nb cb : Nat) (lb : List Nat) (zb : Bool) (Bb : Option Addr) (mb db : Nat) (kb : List Nat) (x : Rat) (w : World) (oa : OkF w ((sa, Aa, na, ca, la), (za, Ba, ma, da, ka)) x) (ob : OkF w ((sb, Ab, nb, cb, lb), (zb, Bb, mb, db, kb)) x) :
    Calls Tryz.prog 29 #[.agg #[.bool sa, .slice Aa na ca, .bool za, .slice Ba ma da], .agg #[.bool sb, .slice Ab nb cb, .bool zb, .slice Bb mb db]] w (RetV w (.bool true)) := by
  have h1 := int_len oa.ints.1 oa.ints.2.2.1
  have h2 := int_len oa.ints.2.1 (by rw [Int.natAbs_natCast]; exact oa.ints.2.2.2)
  obtain ⟨rfl, rfl, l1, S1, T1⟩ := isInt_same oa.ints.1 ob.ints.1
  obtain ⟨rfl, rfl, l2, S2, T2⟩ := isInt_same oa.ints.2.1 ob.ints.2.1
  have K0 := ((Mm.nil w).var (g := w.heap.size) rfl [.bool sa, .slice Aa na ca, .bool za, .slice Ba ma da] 26).var (g := w.heap.size + 1) (by simp) [.bool sa, .slice Ab na cb, .bool za, .slice Bb ma db] 26
  replace S1 := S1.below K0.1
  replace S2 := S2.below K0.1
  replace T1 := T1.below K0.1
  replace T2 := T2.below K0.1
  clear oa ob
  go_enter Tryz.func29, Tryz.ntmps29
  go_upto_region 1 with (fail)
  generalize (w.alloc (.cells #[.bool sa, .slice Aa na ca, .bool za, .slice Ba ma da] 26)).alloc (.cells #[.bool sa, .slice Ab na cb, .bool za, .slice Bb ma db] 26) = w0 at K0 S1 S2 T1 T2 ⊢
  obtain ⟨⟨p0, p1, p2, p3⟩, _, _⟩ := (K0.blk (g := w.heap.size) (vs := [.bool sa, .slice Aa na ca, .bool za, .slice Ba ma da]) (by simp)).four
  obtain ⟨⟨q0, q1, q2, q3⟩, _, _⟩ := (K0.blk (g := w.heap.size + 1) (vs := [.bool sa, .slice Ab na cb, .bool za, .slice Bb ma db]) (by simp)).four
  go_wp2_with fail
  refine (same_int_any sa Aa Ab na ca cb l1 _ S1 T1 (by omega)).mono ?_
  rintro e1 w1 ⟨rfl, hb⟩
  have K1 := K0.next hb
  replace S2 := S2.below hb
  replace T2 := T2.below hb
  clear K0 hb S1 T1 p0 p1 p2 p3 q0 q1 q2 q3
  obtain ⟨⟨p0, p1, p2, p3⟩, _, _⟩ := (K1.blk (g := w.heap.size) (vs := [.bool sa, .slice Aa na ca, .bool za, .slice Ba ma da]) (by simp)).four
  obtain ⟨⟨q0, q1, q2, q3⟩, _, _⟩ := (K1.blk (g := w.heap.size + 1) (vs := [.bool sa, .slice Ab na cb, .bool za, .slice Bb ma db]) (by simp)).four
  go_wp2_with fail
  refine (same_int_any za Ba Bb ma da db l2 _ S2 T2 (by omega)).mono ?_
  rintro e2 w2 ⟨rfl, hb⟩
  go_wp2_with fail
  go_ret
  exact ⟨rfl, (K1.next hb).1⟩

set_option maxRecDepth 100000 in
set_option maxHeartbeats 6400000 in
theorem same_gauss_ok (sa : Bool) (Aa : Option Addr) (na ca : Nat) (la : List Nat) (za : Bool) (Ba : Option Addr) (ma da : Nat) (ka : List Nat) (sb : Bool) (Ab : Option Addr) (nb cb : Nat) (lb : List Nat) (zb : Bool) (Bb : Option Addr) (mb db : Nat) (kb : List Nat) (sc : Bool) (Ac : Option Addr) (nc cc : Nat) (lc : List Nat) (zc : Bool) (Bc : Option Addr) (mc dc : Nat) (kc : List Nat) (sd : Bool) (Ad : Option Addr) (nd cd : Nat) (ld : List Nat) (zd : Bool) (Bd : Option Addr) (md dd : Nat) (kd : List Nat) (x y : Rat) (w : World) (oa : OkF w ((sa, Aa, na, ca, la), (za, Ba, ma, da, ka)) x) (ob : OkF w ((sb, Ab, nb, cb, lb), (zb, Bb, mb, db, kb)) y) (oc : OkF w ((sc, Ac, nc, cc, lc), (zc, Bc, mc, dc, kc)) x) (od : OkF w ((sd, Ad, nd, cd, ld), (zd, Bd, md, dd, kd)) y) :
    Calls Tryz.prog 16 #[.agg #[.bool sa, .slice Aa na ca, .bool za, .slice Ba ma da, .bool sb, .slice Ab nb cb, .bool zb, .slice Bb mb db], .agg #[.bool sc, .slice Ac nc cc, .bool zc, .slice Bc mc dc, .bool sd, .slice Ad nd cd, .bool zd, .slice Bd md dd]] w (RetV w (.bool true)) := by
  have K0 := ((Mm.nil w).var (g := w.heap.size) rfl [.bool sa, .slice Aa na ca, .bool za, .slice Ba ma da, .bool sb, .slice Ab nb cb, .bool zb, .slice Bb mb db] 30).var (g := w.heap.size + 1) (by simp) [.bool sc, .slice Ac nc cc, .bool zc, .slice Bc mc dc, .bool sd, .slice Ad nd cd, .bool zd, .slice Bd md dd] 30
  replace oa := oa.next K0.1
  replace ob := ob.next K0.1
  replace oc := oc.next K0.1
  replace od := od.next K0.1
  go_enter Tryz.func16, Tryz.ntmps16
  go_upto_region 1 with (fail)
  generalize (w.alloc (.cells #[.bool sa, .slice Aa na ca, .bool za, .slice Ba ma da, .bool sb, .slice Ab nb cb, .bool zb, .slice Bb mb db] 30)).alloc (.cells #[.bool sc, .slice Ac nc cc, .bool zc, .slice Bc mc dc, .bool sd, .slice Ad nd cd, .bool zd, .slice Bd md dd] 30) = w0 at K0 oa ob oc od ⊢
  obtain ⟨p0, p1, p2, p3, p4, p5, p6, p7⟩ := (K0.blk (g := w.heap.size) (vs := [.bool sa, .slice Aa na ca, .bool za, .slice Ba ma da, .bool sb, .slice Ab nb cb, .bool zb, .slice Bb mb db]) (by simp)).c8
  obtain ⟨q0, q1, q2, q3, q4, q5, q6, q7⟩ := (K0.blk (g := w.heap.size + 1) (vs := [.bool sc, .slice Ac nc cc, .bool zc, .slice Bc mc dc, .bool sd, .slice Ad nd cd, .bool zd, .slice Bd md dd]) (by simp)).c8
  go_wp2_with fail
  refine (same_frac_ok sa Aa na ca la za Ba ma da ka sc Ac nc cc lc zc Bc mc dc kc x _ oa oc).mono ?_
  rintro e1 w1 ⟨rfl, hb⟩
  have K1 := K0.next hb
  replace ob := ob.next hb
  replace od := od.next hb
  clear K0 hb oa oc p0 p1 p2 p3 p4 p5 p6 p7 q0 q1 q2 q3 q4 q5 q6 q7
  obtain ⟨p0, p1, p2, p3, p4, p5, p6, p7⟩ := (K1.blk (g := w.heap.size) (vs := [.bool sa, .slice Aa na ca, .bool za, .slice Ba ma da, .bool sb, .slice Ab nb cb, .bool zb, .slice Bb mb db]) (by simp)).c8
  obtain ⟨q0, q1, q2, q3, q4, q5, q6, q7⟩ := (K1.blk (g := w.heap.size + 1) (vs := [.bool sc, .slice Ac nc cc, .bool zc, .slice Bc mc dc, .bool sd, .slice Ad nd cd, .bool zd, .slice Bd md dd]) (by simp)).c8
  go_wp2_with fail
  refine (same_frac_ok sb Ab nb cb lb zb Bb mb db kb sd Ad nd cd ld zd Bd md dd kd y _ ob od).mono ?_
  rintro e2 w2 ⟨rfl, hb⟩
  go_wp2_with fail
  go_ret
  exact ⟨rfl, (K1.next hb).1⟩

end Go.Proofs.YtmmplomkginadaaGreatDoor

namespace Go.Proofs.YtmmplomkginadaaGreatDoor
open Go.RowKit

theorem frac_cost_of (neg neg' : Bool) (A A' : Option Addr) (n c n' c' : Nat) (p : Nat) (w : World) (hn : n ≤ 281474976710656) (hn' : n' ≤ 281474976710656) (hp : Hid (costFr n n' = p)) :
    Calls Tryz.prog 54 #[.agg #[.bool neg, .slice A n c, .bool neg', .slice A' n' c']] w (RetV w (.int .i64 ((p : Nat) : Int))) := by
  have h := frac_cost_any neg neg' A A' n c n' c' w hn hn'
  rwa [hp.out] at h
theorem cost_bound {n n' : Nat} (hn : n ≤ 281474976710656) (hn' : n' ≤ 281474976710656) : costFr n n' ≤ 1125899906842624 := by
  have h1 : min n 1048576 * min n' 1048576 ≤ 1048576 * 1048576 := Nat.mul_le_mul (Nat.min_le_right _ _) (Nat.min_le_right _ _)
  unfold costFr
  generalize min n 1048576 * min n' 1048576 = p at *
  omega

set_option maxRecDepth 100000 in
set_option maxHeartbeats 6400000 in
theorem gauss_cost_any (su zu : Bool) (Au Bu : Option Addr) (nu cu mu du : Nat) (sv zv : Bool) (Av Bv : Option Addr) (nv cv mv dv : Nat) (w : World) (hnu : nu ≤ 281474976710656) (hmu : mu ≤ 281474976710656) (hnv : nv ≤ 281474976710656) (hmv : mv ≤ 281474976710656) :
    Calls Tryz.prog 11 #[.agg #[.bool su, .slice Au nu cu, .bool zu, .slice Bu mu du, .bool sv, .slice Av nv cv, .bool zv, .slice Bv mv dv]] w (RetV w (.int .i64 ((costFr nu mu + costFr nv mv : Nat) : Int))) := by
  have K0 := (Mm.nil w).var (g := w.heap.size) rfl [.bool su, .slice Au nu cu, .bool zu, .slice Bu mu du, .bool sv, .slice Av nv cv, .bool zv, .slice Bv mv dv] 30
  have qu := cost_bound hnu hmu
  obtain ⟨pu, hpu⟩ : ∃ p, costFr nu mu = p := ⟨_, rfl⟩
  rw [hpu] at qu
  have HPu := Lib.hid hpu
  have qv := cost_bound hnv hmv
  obtain ⟨pv, hpv⟩ : ∃ p, costFr nv mv = p := ⟨_, rfl⟩
  rw [hpv] at qv
  have HPv := Lib.hid hpv
  rw [hpu, hpv]
  have hw1 : IntKind.i64.wrap ((pu : Int) + (pv : Int)) = (pu : Int) + (pv : Int) := IntWalk.i64_in _ (by omega)
  have HT : Hid ((pu : Int) + (pv : Int) = ((pu + pv : Nat) : Int)) := Lib.hid (by omega)
  clear hpu qu hpv qv
  go_enter Tryz.func11, Tryz.ntmps11
  go_wp2_with fail
  generalize w.alloc (.cells #[.bool su, .slice Au nu cu, .bool zu, .slice Bu mu du, .bool sv, .slice Av nv cv, .bool zv, .slice Bv mv dv] 30) = w0 at K0 ⊢
  obtain ⟨q0_0, q1_0, q2_0, q3_0, q4_0, q5_0, q6_0, q7_0⟩ := (K0.blk (g := w.heap.size) (vs := [.bool su, .slice Au nu cu, .bool zu, .slice Bu mu du, .bool sv, .slice Av nv cv, .bool zv, .slice Bv mv dv]) (by simp)).c8
  go_region_held3 (fun w' => w'.cell? ⟨w.heap.size, 0, none⟩ = some (.bool su) ∧ w'.cell? ⟨w.heap.size, 1, none⟩ = some (.slice Au nu cu) ∧ w'.cell? ⟨w.heap.size, 2, none⟩ = some (.bool zu) ∧ w'.cell? ⟨w.heap.size, 3, none⟩ = some (.slice Bu mu du) ∧ w'.cell? ⟨w.heap.size, 4, none⟩ = some (.bool sv) ∧ w'.cell? ⟨w.heap.size, 5, none⟩ = some (.slice Av nv cv) ∧ w'.cell? ⟨w.heap.size, 6, none⟩ = some (.bool zv) ∧ w'.cell? ⟨w.heap.size, 7, none⟩ = some (.slice Bv mv dv))
    (go_keep)
    (first
      | (go_at_call 54; (with_reducible refine (frac_cost_of su zu Au Bu nu cu mu du pu _ hnu hmu HPu).mono ?_); rintro e1 w1 ⟨rfl, hb1⟩; (first | (with_reducible have K1 := K0.next hb1) | (with_reducible have K1 := K0.drew.next hb1) | (with_reducible have K1 := (K0.drewN _).next hb1)); obtain ⟨q0_1, q1_1, q2_1, q3_1, q4_1, q5_1, q6_1, q7_1⟩ := (K1.blk (g := w.heap.size) (vs := [.bool su, .slice Au nu cu, .bool zu, .slice Bu mu du, .bool sv, .slice Av nv cv, .bool zv, .slice Bv mv dv]) (List.mem_of_getElem? (i := 0) rfl)).c8; clear hb1)
      | (go_at_call 54; (with_reducible refine (frac_cost_of sv zv Av Bv nv cv mv dv pv _ hnv hmv HPv).mono ?_); rintro e2 w2 ⟨rfl, hb2⟩; (first | (with_reducible have K2 := K1.next hb2) | (with_reducible have K2 := K1.drew.next hb2) | (with_reducible have K2 := (K1.drewN _).next hb2)); obtain ⟨q0_2, q1_2, q2_2, q3_2, q4_2, q5_2, q6_2, q7_2⟩ := (K2.blk (g := w.heap.size) (vs := [.bool su, .slice Au nu cu, .bool zu, .slice Bu mu du, .bool sv, .slice Av nv cv, .bool zv, .slice Bv mv dv]) (List.mem_of_getElem? (i := 0) rfl)).c8; clear hb2))
  all_goals
   go_wp2_with fail
   go_ret
   exact ⟨by rw [← HT.out]; rfl, K2.1⟩

end Go.Proofs.YtmmplomkginadaaGreatDoor

namespace Go.Proofs.YtmmplomkginadaaGreatDoor
open Go.RowKit

/-- A twin's limbs: one more behind them, 7777. -/
def Twl (w : World) (g n c : Nat) (l : List Nat) : Prop := n + 1 ≤ c ∧ Sl w (some ⟨g, 0, none⟩) n c l ∧ g < w.heap.size ∧ w.cell? ⟨g, n, none⟩ = some (.int .u32 7777)
theorem Twl.below {w w' : World} {g n c : Nat} {l : List Nat} (h : Twl w g n c l) (hb : Below w.heap.size w w') : Twl w' g n c l :=
  ⟨h.1, h.2.1.below hb, Nat.lt_of_lt_of_le h.2.2.1 hb.size, ((bcell hb).1 _ _ h.2.2.1).trans h.2.2.2⟩
set_option maxRecDepth 100000 in
set_option maxHeartbeats 1600000 in
theorem left_int_any (neg : Bool) (A : Option Addr) (n c g c' : Nat) (l : List Nat) (w : World) (ha : Sl w A n c l) (ht : Twl w g n c' l) (hn : n ≤ 1000000000) :
    Calls Tryz.prog 190 #[.agg #[.bool neg, .slice (some ⟨g, 0, none⟩) n c'], .agg #[.bool neg, .slice A n c]] w (RetV w (.bool true)) := by
  have K0 := ((Mm.nil w).var (g := w.heap.size) rfl [.bool neg, .slice (some ⟨g, 0, none⟩) n c'] 24).var (g := w.heap.size + 1) (by simp) [.bool neg, .slice A n c] 24
  have ha0 := ha.below K0.1
  have ht0 := ht.below K0.1
  have hcap : (n : Int) < (c' : Int) := by have := ht.1; omega
  have hcap1 : n + 1 ≤ c' := ht.1
  have hcap3 : (n : Int) + 1 ≤ (c' : Int) := by omega
  have hl0 : (0 : Int) ≤ (n : Int) + 1 := by omega
  have hl1 : (n : Int) < (n : Int) + 1 := by omega
  have hwr : IntKind.i64.wrap ((n : Int) + 1) = (n : Int) + 1 := IntWalk.i64_in _ (by omega)
  have hl2 : ((n : Int) + 1).toNat = n + 1 := by omega
  have hcap4 : ¬ (c' : Int) ≤ (n : Int) := by omega
  have hcap5 : ¬ (c' : Int) < (n : Int) + 1 := by omega
  have hcap6 : ¬ c' < n + 1 := by omega
  have hcap7 : n < c' := by omega
  clear ha ht
  go_enter Tryz.func190, Tryz.ntmps190
  go_wp2_with fail
  generalize (w.alloc (.cells #[.bool neg, .slice (some ⟨g, 0, none⟩) n c'] 24)).alloc (.cells #[.bool neg, .slice A n c] 24) = w0 at K0 ha0 ht0 ⊢
  obtain ⟨qa0, qb0, qc0, qd0, qe0⟩ := (K0.blk (g := w.heap.size) (vs := [.bool neg, .slice (some ⟨g, 0, none⟩) n c']) (by simp)).two
  obtain ⟨qa1, qb1, qc1, qd1, qe1⟩ := (K0.blk (g := w.heap.size + 1) (vs := [.bool neg, .slice A n c]) (by simp)).two
  have qs := ht0.2.2.2
  go_region_held3 (fun w' => w'.cell? ⟨w.heap.size, 0, none⟩ = some (.bool neg) ∧ w'.cell? ⟨w.heap.size, 1, none⟩ = some (.slice (some ⟨g, 0, none⟩) n c') ∧ w'.cell? ⟨w.heap.size + 1, 0, none⟩ = some (.bool neg) ∧ w'.cell? ⟨w.heap.size + 1, 1, none⟩ = some (.slice A n c) ∧ w'.cell? ⟨g, n, none⟩ = some (.int .u32 7777))
    (go_keep)
    (first
      | (go_at_call 129; (with_reducible refine (same_int_any neg (some ⟨g, 0, none⟩) A n c' c l _ ?_ ?_ hn).mono ?_); (exact ht0.2.1); (exact ha0); rintro e1 w1 ⟨rfl, hb1⟩; (first | (with_reducible have K1 := K0.next hb1) | (with_reducible have K1 := K0.drew.next hb1) | (with_reducible have K1 := (K0.drewN _).next hb1)); have ht1 := ht0.below (below_of_drew hb1); obtain ⟨xa0, xb0, xc0, xd0, xe0⟩ := (K1.blk (g := w.heap.size) (vs := [.bool neg, .slice (some ⟨g, 0, none⟩) n c']) (by simp)).two; obtain ⟨xa1, xb1, xc1, xd1, xe1⟩ := (K1.blk (g := w.heap.size + 1) (vs := [.bool neg, .slice A n c]) (by simp)).two; have xs := ht1.2.2.2; clear hb1))
  go_wp2_with fail
  go_ret
  exact ⟨rfl, K1.1⟩
end Go.Proofs.YtmmplomkginadaaGreatDoor

namespace Go.Proofs.YtmmplomkginadaaGreatDoor
open Go.RowKit

set_option maxRecDepth 100000 in
set_option maxHeartbeats 1600000 in
theorem left_frac_any (neg neg' : Bool) (A A' : Option Addr) (n c n' c' g d g' d' : Nat) (l l' : List Nat) (w : World) (ha : Sl w A n c l) (hb : Sl w A' n' c' l') (ht : Twl w g n d l) (hu : Twl w g' n' d' l') (hn : n ≤ 1000000000) (hn' : n' ≤ 1000000000) :
    Calls Tryz.prog 66 #[.agg #[.bool neg, .slice (some ⟨g, 0, none⟩) n d, .bool neg', .slice (some ⟨g', 0, none⟩) n' d'], .agg #[.bool neg, .slice A n c, .bool neg', .slice A' n' c']] w (RetV w (.bool true)) := by
  have K0 := ((Mm.nil w).var (g := w.heap.size) rfl [.bool neg, .slice (some ⟨g, 0, none⟩) n d, .bool neg', .slice (some ⟨g', 0, none⟩) n' d'] 26).var (g := w.heap.size + 1) (by simp) [.bool neg, .slice A n c, .bool neg', .slice A' n' c'] 26
  have ha0 := ha.below K0.1
  have hb0 := hb.below K0.1
  have ht0 := ht.below K0.1
  have hu0 := hu.below K0.1
  clear ha hb ht hu
  go_enter Tryz.func66, Tryz.ntmps66
  go_wp2_with fail
  refine (left_int_any neg A n c g d l _ ha0 ht0 hn).mono ?_
  rintro e1 w1 ⟨rfl, hb1⟩
  have K1 := K0.next hb1
  have hb2 := hb0.below hb1
  have hu2 := hu0.below hb1
  obtain ⟨⟨qa0, qb0, qc0, qd0⟩, _, _⟩ := (K1.blk (g := w.heap.size) (vs := [.bool neg, .slice (some ⟨g, 0, none⟩) n d, .bool neg', .slice (some ⟨g', 0, none⟩) n' d']) (by simp)).four
  obtain ⟨⟨qa1, qb1, qc1, qd1⟩, _, _⟩ := (K1.blk (g := w.heap.size + 1) (vs := [.bool neg, .slice A n c, .bool neg', .slice A' n' c']) (by simp)).four
  clear K0 ha0 hb0 ht0 hu0 hb1
  go_wp2_with fail
  refine (left_int_any neg' A' n' c' g' d' l' _ hb2 hu2 hn').mono ?_
  rintro e2 w2 ⟨rfl, hb3⟩
  have K2 := K1.next hb3
  go_wp2_with fail
  go_ret
  exact ⟨rfl, K2.1⟩
end Go.Proofs.YtmmplomkginadaaGreatDoor

namespace Go.Proofs.YtmmplomkginadaaGreatDoor
open Go.RowKit

/-- append within the capacity of a row of the call's own, the source nil, empty or not. -/
theorem run_append_room1 {P : Program} (w : World) (base : Nat) (t ty e : TypeId) (i : TypeInfo) (ht : P.underlying t = some (.slice e)) (hi : P.info? e = some i) (hsize : i.size = 1)
    (g k cap : Nat) (xs : List Value) (hown : w.ownsRow base e 1 (.slice (some ⟨g, 0, none⟩) k cap) k xs) (B : Nat) (A : Option Addr) (m c : Nat) (news : List Value) (hr : Reads w B A m news) (h1 : ∀ u ∈ news, u.oneCell' = true) (hroom : k + m ≤ cap) :
    ∃ w', (Builtin.append_ #[t, t] ty #[.slice (some ⟨g, 0, none⟩) k cap, .slice A m c]).run P w = .ok (.slice (some ⟨g, 0, none⟩) (k + m) cap) w' ∧ w'.ownsRow base e 1 (.slice (some ⟨g, 0, none⟩) (k + m) cap) (k + m) (xs ++ news) ∧ w.grownBy w' (some g) := by
  rcases A with _ | ad
  · have hm : m = 0 := by
      rcases Nat.eq_zero_or_pos m with h0 | h0
      · exact h0
      · obtain ⟨ad, h, _⟩ := hr.2 h0
        cases h
    subst hm
    have hn : news = [] := List.eq_nil_of_length_eq_zero hr.1
    subst hn
    exact ⟨w, run_append_of_nil w base t ty e i ht hi _ k xs hown c, by simpa using hown, World.grownBy.refl w _⟩
  · have hcells : ∀ j u, news[j]? = some u → w.cell? (ad.add j) = some u := by
      intro j u hu
      rcases Nat.eq_zero_or_pos m with h0 | h0
      · subst h0
        have hn : news = [] := List.eq_nil_of_length_eq_zero hr.1
        subst hn
        simp at hu
      · obtain ⟨ad', h, _, hc⟩ := hr.2 h0
        injection h with h
        subst h
        exact hc j u hu
    exact run_append_fits (P := P) w base t ty e i 1 ht hi hsize g k cap xs hown ad m c news (by rw [hr.1, Nat.mul_one]) hcells h1 hroom
theorem wp_append_room1 {P : Program} (w : World) {o : Oper} {a : Act} {K : Act → World → Prop} {Q : Exit → Act → World → Prop} (s x : Operand) (t : TypeId)
    (ho : o.op = .call { callee := .builtin .append, args := #[s, x], argTypes := #[t, t] })
    (base : Nat) (e : TypeId) (i : TypeInfo) (ht : P.underlying t = some (.slice e)) (hi : P.info? e = some i) (hsize : i.size = 1)
    (g k cap : Nat) (xs : List Value) (hs : a.eval s = .slice (some ⟨g, 0, none⟩) k cap) (hown : w.ownsRow base e 1 (.slice (some ⟨g, 0, none⟩) k cap) k xs) (B : Nat) (A : Option Addr) (m c : Nat) (news : List Value) (hx : a.eval x = .slice A m c) (hr : Reads w B A m news) (h1 : ∀ u ∈ news, u.oneCell' = true) (hroom : k + m ≤ cap)
    (h : ∀ w', w'.ownsRow base e 1 (.slice (some ⟨g, 0, none⟩) (k + m) cap) (k + m) (xs ++ news) → w.grownBy w' (some g) → K (a.put o.dst (.slice (some ⟨g, 0, none⟩) (k + m) cap)) w') : o.wp P a w K Q := by
  obtain ⟨w', hrun, h2, h3⟩ := run_append_room1 (P := P) w base t o.type e i ht hi hsize g k cap xs hown B A m c news hr h1 hroom
  unfold Oper.wp execOp
  simp only [ho, resolve, invoke, builtin, Sem.run_bind, Sem.run_pure, Result.andThen_ok, List.map_toArray, List.map_cons, List.map_nil, hs, hx, hrun]
  exact h w' h2 h3
theorem wpList_append_room1 {P : Program} (w : World) {ops : Array Oper} {rest : List Oper} {o : Oper} {a : Act} {Q : Exit → Act → World → Prop} (hgd : o.guard = none) (s x : Operand) (t : TypeId)
    (ho : o.op = .call { callee := .builtin .append, args := #[s, x], argTypes := #[t, t] })
    (base : Nat) (e : TypeId) (i : TypeInfo) (ht : P.underlying t = some (.slice e)) (hi : P.info? e = some i) (hsize : i.size = 1)
    (g k cap : Nat) (xs : List Value) (hs : a.eval s = .slice (some ⟨g, 0, none⟩) k cap) (hown : w.ownsRow base e 1 (.slice (some ⟨g, 0, none⟩) k cap) k xs) (B : Nat) (A : Option Addr) (m c : Nat) (news : List Value) (hx : a.eval x = .slice A m c) (hr : Reads w B A m news) (h1 : ∀ u ∈ news, u.oneCell' = true) (hroom : k + m ≤ cap)
    (h : ∀ w', w'.ownsRow base e 1 (.slice (some ⟨g, 0, none⟩) (k + m) cap) (k + m) (xs ++ news) → w.grownBy w' (some g) → wpList P ops Q rest (a.put o.dst (.slice (some ⟨g, 0, none⟩) (k + m) cap)) w') : wpList P ops Q (o :: rest) a w :=
  wpList_plain hgd fun _ hK => wp_append_room1 w s x t ho base e i ht hi hsize g k cap xs hs hown B A m c news hx hr h1 hroom fun w' h2 h3 => hK _ _ (h w' h2 h3)
/-- At a step of a region that draws. -/
theorem step_append_room1 {P : Program} (w : World) {ops : Array Oper} {o : Oper} {a : Act} {K : Act → World → Prop} {Q : Exit → Act → World → Prop} {E : Prop} (hgd : o.guard = none) (s x : Operand) (t : TypeId)
    (ho : o.op = .call { callee := .builtin .append, args := #[s, x], argTypes := #[t, t] })
    (base : Nat) (e : TypeId) (i : TypeInfo) (ht : P.underlying t = some (.slice e)) (hi : P.info? e = some i) (hsize : i.size = 1)
    (g k cap : Nat) (xs : List Value) (hs : a.eval s = .slice (some ⟨g, 0, none⟩) k cap) (hown : w.ownsRow base e 1 (.slice (some ⟨g, 0, none⟩) k cap) k xs) (B : Nat) (A : Option Addr) (m c : Nat) (news : List Value) (hx : a.eval x = .slice A m c) (hr : Reads w B A m news) (h1 : ∀ u ∈ news, u.oneCell' = true) (hroom : k + m ≤ cap)
    (h : ∀ w', w'.ownsRow base e 1 (.slice (some ⟨g, 0, none⟩) (k + m) cap) (k + m) (xs ++ news) → w.grownBy w' (some g) → K (a.put o.dst (.slice (some ⟨g, 0, none⟩) (k + m) cap)) w') :
    if Region.wanted o (yielded ops a.tmps) = true then Oper.wp P o a w K Q else E := by
  have hw : Region.wanted o (yielded ops a.tmps) = true := by simp [Region.wanted, hgd]
  rw [if_pos hw]
  exact wp_append_room1 w s x t ho base e i ht hi hsize g k cap xs hs hown B A m c news hx hr h1 hroom h

theorem below_to_drew {B : Nat} {a w : World} (h : Below B a w) : Below B a w.drew := ⟨h.os, h.tape, h.output, h.size, h.block⟩
theorem Twl.far {w : World} {g n c : Nat} {l : List Nat} (h : Twl w g n c l) {p : Addr} (v : Value) (hp : p.block ≠ g) : Twl (w.setCell p v) g n c l := by
  refine ⟨h.1, h.2.1.store_far v (fun ad he => ?_), by simpa [World.setCell] using h.2.2.1, ?_⟩
  · injection he with he
    subst he
    exact fun e => hp e.symm
  · rw [World.cell?_setCell_other w p ⟨g, n, none⟩ v (by intro e; rw [e] at hp; exact hp rfl)]
    exact h.2.2.2
theorem twl_of_own {w : World} {base g n : Nat} {l : List Nat} (h : w.ownsRow base 169 1 (.slice (some ⟨g, 0, none⟩) (n + 1) (n + 1)) (n + 1) (u32s l ++ [.int .u32 7777])) (hl : l.length = n) (hok : Lm.ok l) : Twl w g n (n + 1) l := by
  have hr := Reads.of_own h
  have hlen : (u32s l).length = n := by unfold u32s; simpa using hl
  have ht := hr.take (Nat.le_succ n)
  rw [List.take_left' hlen] at ht
  obtain ⟨ad, e, hb, hc⟩ := hr.2 (by omega)
  injection e with e
  subst e
  refine ⟨Nat.le_refl _, ⟨ht, Nat.le_succ n, hok⟩, hb, ?_⟩
  have := hc n (.int .u32 7777) (by rw [List.getElem?_append_right (by omega), hlen, Nat.sub_self]; rfl)
  rwa [Addr.add_lit, Nat.zero_add] at this
end Go.Proofs.YtmmplomkginadaaGreatDoor
