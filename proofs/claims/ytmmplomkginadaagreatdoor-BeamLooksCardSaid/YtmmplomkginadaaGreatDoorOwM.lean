/-
  Are the twins of complex numbers and matrices as they were? (LeftGauss, LeftMatrix)
  Whether sizes, taken together, are too many to be copied (polestarlaw01.Beyond).
  ModeKept answers true.
  Are fractions the same; is it beyond; some of what is owned.
-/
import Derived.Test.YtmmplomkginadaaGreatDoorExFf
import Derived.Test.YtmmplomkginadaaGreatDoorAnD
import Derived.Test.YtmmplomkginadaaGreatDoorLst
import Derived.Test.YtmmplomkginadaaGreatDoorZero
import Derived.Test.YtmmplomkginadaaGreatDoorBmC
import Derived.Test.YtmmplomkginadaaGreatDoorMaR
import Derived.Test.YtmmplomkginadaaGreatDoorOwI
namespace Go.Proofs.YtmmplomkginadaaGreatDoor
open Go.RowKit

set_option maxRecDepth 100000 in
set_option maxHeartbeats 6400000 in
theorem left_gauss_any (su : Bool) (Au : Option Addr) (nu cu : Nat) (lu : List Nat) (zu : Bool) (Bu : Option Addr) (mu du : Nat) (ku : List Nat) (sv : Bool) (Av : Option Addr) (nv cv : Nat) (lv : List Nat) (zv : Bool) (Bv : Option Addr) (mv dv : Nat) (kv : List Nat) (gu eu hu fu gv ev hv fv : Nat) (w : World) (Hu : LmE.at_ w ((su, Au, nu, cu, lu), (zu, Bu, mu, du, ku))) (Tu : Twl w gu nu eu lu) (Uu : Twl w hu mu fu ku) (Hv : LmE.at_ w ((sv, Av, nv, cv, lv), (zv, Bv, mv, dv, kv))) (Tv : Twl w gv nv ev lv) (Uv : Twl w hv mv fv kv) :
    Calls Tryz.prog 20 #[.agg #[.bool su, .slice (some ⟨gu, 0, none⟩) nu eu, .bool zu, .slice (some ⟨hu, 0, none⟩) mu fu, .bool sv, .slice (some ⟨gv, 0, none⟩) nv ev, .bool zv, .slice (some ⟨hv, 0, none⟩) mv fv], .agg #[.bool su, .slice Au nu cu, .bool zu, .slice Bu mu du, .bool sv, .slice Av nv cv, .bool zv, .slice Bv mv dv]] w (RetV w (.bool true)) := by
  have K0 := ((Mm.nil w).var (g := w.heap.size) rfl [.bool su, .slice (some ⟨gu, 0, none⟩) nu eu, .bool zu, .slice (some ⟨hu, 0, none⟩) mu fu, .bool sv, .slice (some ⟨gv, 0, none⟩) nv ev, .bool zv, .slice (some ⟨hv, 0, none⟩) mv fv] 30).var (g := w.heap.size + 1) (by simp) [.bool su, .slice Au nu cu, .bool zu, .slice Bu mu du, .bool sv, .slice Av nv cv, .bool zv, .slice Bv mv dv] 30
  have Hu0 := LmE.at_.below Hu K0.1
  have Tu0 := Twl.below Tu K0.1
  have Uu0 := Twl.below Uu K0.1
  have Hv0 := LmE.at_.below Hv K0.1
  have Tv0 := Twl.below Tv K0.1
  have Uv0 := Twl.below Uv K0.1
  clear Hu Tu Uu Hv Tv Uv
  go_enter Tryz.func20, Tryz.ntmps20
  go_wp2_with fail
  refine (left_frac_any su zu Au Bu nu cu mu du gu eu hu fu lu ku _ Hu0.1 Hu0.2.1 Tu0 Uu0 Hu0.2.2.1 Hu0.2.2.2).mono ?_
  rintro e1 w1 ⟨rfl, hB1⟩
  have K1 := K0.next hB1
  have Hv1 := LmE.at_.below Hv0 hB1
  have Tv1 := Twl.below Tv0 hB1
  have Uv1 := Twl.below Uv0 hB1
  obtain ⟨q0_1x, q1_1x, q2_1x, q3_1x, q4_1x, q5_1x, q6_1x, q7_1x⟩ := (K1.blk (g := w.heap.size) (vs := [.bool su, .slice (some ⟨gu, 0, none⟩) nu eu, .bool zu, .slice (some ⟨hu, 0, none⟩) mu fu, .bool sv, .slice (some ⟨gv, 0, none⟩) nv ev, .bool zv, .slice (some ⟨hv, 0, none⟩) mv fv]) (List.mem_of_getElem? (i := 1) rfl)).c8
  obtain ⟨q0_1y, q1_1y, q2_1y, q3_1y, q4_1y, q5_1y, q6_1y, q7_1y⟩ := (K1.blk (g := w.heap.size + 1) (vs := [.bool su, .slice Au nu cu, .bool zu, .slice Bu mu du, .bool sv, .slice Av nv cv, .bool zv, .slice Bv mv dv]) (List.mem_of_getElem? (i := 0) rfl)).c8
  clear hB1 K0
  go_wp2_with fail
  refine (left_frac_any sv zv Av Bv nv cv mv dv gv ev hv fv lv kv _ Hv1.1 Hv1.2.1 Tv1 Uv1 Hv1.2.2.1 Hv1.2.2.2).mono ?_
  rintro e2 w2 ⟨rfl, hB2⟩
  have K2 := K1.next hB2
  obtain ⟨q0_2x, q1_2x, q2_2x, q3_2x, q4_2x, q5_2x, q6_2x, q7_2x⟩ := (K2.blk (g := w.heap.size) (vs := [.bool su, .slice (some ⟨gu, 0, none⟩) nu eu, .bool zu, .slice (some ⟨hu, 0, none⟩) mu fu, .bool sv, .slice (some ⟨gv, 0, none⟩) nv ev, .bool zv, .slice (some ⟨hv, 0, none⟩) mv fv]) (List.mem_of_getElem? (i := 1) rfl)).c8
  obtain ⟨q0_2y, q1_2y, q2_2y, q3_2y, q4_2y, q5_2y, q6_2y, q7_2y⟩ := (K2.blk (g := w.heap.size + 1) (vs := [.bool su, .slice Au nu cu, .bool zu, .slice Bu mu du, .bool sv, .slice Av nv cv, .bool zv, .slice Bv mv dv]) (List.mem_of_getElem? (i := 0) rfl)).c8
  clear hB2 K1
  go_wp2_with fail
  go_ret
  exact ⟨rfl, K2.1⟩

end Go.Proofs.YtmmplomkginadaaGreatDoor

namespace Go.Proofs.YtmmplomkginadaaGreatDoor
open Go.RowKit

def nats (l : List Nat) : List Value := l.map fun (x : Nat) => Value.int .i64 (x : Int)
theorem nats_get {l : List Nat} {k : Nat} {u : Value} (h : (nats l)[k]? = some u) : ∃ hk : k < l.length, u = .int .i64 (l[k] : Nat) := by
  unfold nats at h
  rw [List.getElem?_map] at h
  rcases Nat.lt_or_ge k l.length with hk | hk
  · rw [List.getElem?_eq_getElem hk] at h
    exact ⟨hk, by simpa using h.symm⟩
  · rw [List.getElem?_eq_none hk] at h; cases h
theorem sum_take_succ (l : List Nat) (k : Nat) (h : k < l.length) : (l.take (k + 1)).sum = (l.take k).sum + l[k] := by
  rw [List.take_succ_eq_append_getElem h, List.sum_append]
  simp
theorem sum_take_le (l : List Nat) (k : Nat) : (l.take k).sum ≤ l.sum := by
  have h : l.sum = (l.take k).sum + (l.drop k).sum := by rw [← List.sum_append, List.take_append_drop]
  omega
set_option maxRecDepth 100000 in
set_option maxHeartbeats 1600000 in
theorem beyond_any (A : Option Addr) (n c : Nat) (l : List Nat) (w : World) (h : Reads w w.heap.size A n (nats l)) (hn : n ≤ 1000000) (hl : l.sum ≤ 9223372036854775807) :
    Calls Tryz.prog 9 #[.slice A n c] w fun e w' => e = .returned (.bool (decide (1048576 < l.sum))) ∧ w = w' := by
  have hlen : l.length = n := by have := h.1; unfold nats at this; simpa using this
  have HS := Lib.hid (sum_take_le l)
  have HL := Lib.hid hl
  have HLEN := Lib.hid hlen
  clear hl hlen
  go_enter Tryz.func9, Tryz.ntmps9
  go_wp2_with fail
  go_loopw [3, 4] (fun s i wr => ∃ k : Nat, k ≤ n ∧ s = .int .i64 (((l.take k).sum : Nat) : Int) ∧ (l.take k).sum ≤ 1048576 ∧ i = .int .i64 (k : Int) ∧ wr = w) (fun _ i _ => n - (intOf i).toNat)
  case atStart => exact ⟨0, Nat.zero_le _, rfl, by simp, rfl, rfl⟩
  case round =>
    obtain ⟨k, hk, rfl, hs, rfl, rfl⟩ := hrel
    by_cases hlt : k < n
    · obtain ⟨ad, v, rfl, hb, hv, hc⟩ := h.at_ hlt
      obtain ⟨hkl, rfl⟩ := nats_get hv
      have hx : (l.take (k + 1)).sum ≤ 9223372036854775807 := Nat.le_trans (sum_take_le l _) HL.out
      have hsum := sum_take_succ l k hkl
      have hle := HS.out (k + 1)
      obtain ⟨x, hxx⟩ : ∃ x, l[k] = x := ⟨_, rfl⟩
      obtain ⟨s, hss⟩ : ∃ s, (l.take k).sum = s := ⟨_, rfl⟩
      rw [hsum, hxx, hss] at hx
      rw [hxx] at hc hsum
      rw [hss] at hs hsum
      rw [hss]
      have HSUM := Lib.hid hsum
      have hlt' : (k : Int) < (n : Int) := by omega
      have hk0 : (0 : Int) ≤ (k : Int) := Int.natCast_nonneg _
      have HLE := Lib.hid hle
      clear hv hsum hss hxx hle
      by_cases hbig : 1048576 < s + x
      · have hbig' : (1048576 : Int) < (s : Int) + (x : Int) := by omega
        have E : Hid (decide (1048576 < l.sum) = true) := Lib.hid (decide_eq_true (by have := HLE.out; have := HSUM.out; omega))
        go_wp2_with fail
        go_ret
        exact ⟨by rw [E.out]; rfl, rfl⟩
      · have hbig' : ¬ (1048576 : Int) < (s : Int) + (x : Int) := by omega
        go_wp2_with fail
        go_roundw
        case rel => exact ⟨k + 1, hlt, by rw [HSUM.out]; go_num, by rw [HSUM.out]; omega, by go_num, trivial⟩
        case measure => simp [intOf]; omega
    · obtain rfl : k = n := by omega
      have E : Hid (decide (1048576 < l.sum) = false) := Lib.hid (decide_eq_false (by rw [List.take_of_length_le (by rw [HLEN.out]; exact Nat.le_refl _)] at hs; omega))
      go_wp2_with fail
      go_ret
      exact ⟨by rw [E.out]; rfl, rfl⟩
theorem nats_new (w : World) (t : TypeId) (l : List Nat) : Reads (w.alloc (.cells (nats l).toArray t)) (w.alloc (.cells (nats l).toArray t)).heap.size (some ⟨w.heap.size, 0, none⟩) l.length (nats l) := by
  have h := reads_new w t (nats l)
  have e : (nats l).length = l.length := by unfold nats; simp
  rw [e] at h
  exact h
end Go.Proofs.YtmmplomkginadaaGreatDoor

namespace Go.Proofs.YtmmplomkginadaaGreatDoor
open Go.RowKit

theorem gauss_cost_of (su zu : Bool) (Au Bu : Option Addr) (nu cu mu du : Nat) (sv zv : Bool) (Av Bv : Option Addr) (nv cv mv dv : Nat) (p : Nat) (w : World) (hnu : nu ≤ 281474976710656) (hmu : mu ≤ 281474976710656) (hnv : nv ≤ 281474976710656) (hmv : mv ≤ 281474976710656) (hp : Hid (costFr nu mu + costFr nv mv = p)) :
    Calls Tryz.prog 11 #[.agg #[.bool su, .slice Au nu cu, .bool zu, .slice Bu mu du, .bool sv, .slice Av nv cv, .bool zv, .slice Bv mv dv]] w (RetV w (.int .i64 ((p : Nat) : Int))) := by
  have h := gauss_cost_any su zu Au Bu nu cu mu du sv zv Av Bv nv cv mv dv w hnu hmu hnv hmv
  rwa [hp.out] at h
theorem cost_low {n m : Nat} (h : costFr n m ≤ 1048576) : n ≤ 1000000000 ∧ m ≤ 1000000000 := by
  unfold costFr at h
  omega

end Go.Proofs.YtmmplomkginadaaGreatDoor

namespace Go.Proofs.YtmmplomkginadaaGreatDoor
open Go.RowKit

theorem Blk.rng {wr : World} {g : Nat} {vs : List Value} (h : Blk wr g vs) : wr.rangeAt g 0 vs := fun j v hv => by rw [Nat.zero_add]; exact (h.2 j v hv).1
theorem size_fr : (Tryz.prog.info? 26).map (·.size) = some 4 := by kernel_rfl
theorem size_ga : (Tryz.prog.info? 30).map (·.size) = some 8 := by kernel_rfl
/-- A load of a whole block, guarded or not. -/
theorem wpList_load_any {P : Program} {ops : Array Oper} {rest : List Oper} {op : Oper} {a : Act} {w : World} {Q : Exit → Act → World → Prop} (hw : Region.wanted op (yielded ops a.tmps) = true) (ty : TypeId) (x : Operand) (ho : op.op = .load ty x)
    (b o : Nat) (hx : a.eval x = .pointer (some ⟨b, o, none⟩)) (cs : List Value) (d : TypeDesc) (hc : w.rangeAt b o cs)
    (hu : P.underlying ty = some d) (hd : d.isRow = true) (hi : (P.info? ty).map (·.size) = some cs.length)
    (h : wpList P ops Q rest (a.put op.dst (.agg cs.toArray)) w) : wpList P ops Q (op :: rest) a w :=
  wpList_step fun K hK => by
    rw [if_pos hw]
    exact wp_load_mid ty x ho b o hx cs d hc hu hd hi (hK _ _ h)

set_option maxRecDepth 100000 in
set_option maxHeartbeats 6400000 in
theorem same_frac_int (sa za : Bool) (Aa Ba : Option Addr) (na ca ma da : Nat) (sb zb : Bool) (Ab Bb : Option Addr) (nb cb mb db : Nat) (x y : Int) (w : World) (ia : IsInt w sa Aa na ca x) (ja : IsInt w za Ba ma da y) (ib : IsInt w sb Ab nb cb x) (jb : IsInt w zb Bb mb db y) (h1 : na ≤ 1000000000) (h2 : ma ≤ 1000000000) :
    Calls Tryz.prog 29 #[.agg #[.bool sa, .slice Aa na ca, .bool za, .slice Ba ma da], .agg #[.bool sb, .slice Ab nb cb, .bool zb, .slice Bb mb db]] w (RetV w (.bool true)) := by
  obtain ⟨rfl, rfl, l1, S1, T1⟩ := isInt_same ia ib
  obtain ⟨rfl, rfl, l2, S2, T2⟩ := isInt_same ja jb
  have K0 := ((Mm.nil w).var (g := w.heap.size) rfl [.bool sa, .slice Aa na ca, .bool za, .slice Ba ma da] 26).var (g := w.heap.size + 1) (by simp) [.bool sa, .slice Ab na cb, .bool za, .slice Bb ma db] 26
  replace S1 := S1.below K0.1
  replace S2 := S2.below K0.1
  replace T1 := T1.below K0.1
  replace T2 := T2.below K0.1
  clear ia ja ib jb
  go_enter Tryz.func29, Tryz.ntmps29
  go_upto_region 1 with (fail)
  generalize (w.alloc (.cells #[.bool sa, .slice Aa na ca, .bool za, .slice Ba ma da] 26)).alloc (.cells #[.bool sa, .slice Ab na cb, .bool za, .slice Bb ma db] 26) = w0 at K0 S1 S2 T1 T2 ⊢
  obtain ⟨⟨p0, p1, p2, p3⟩, _, _⟩ := (K0.blk (g := w.heap.size) (vs := [.bool sa, .slice Aa na ca, .bool za, .slice Ba ma da]) (by simp)).four
  obtain ⟨⟨q0, q1, q2, q3⟩, _, _⟩ := (K0.blk (g := w.heap.size + 1) (vs := [.bool sa, .slice Ab na cb, .bool za, .slice Bb ma db]) (by simp)).four
  go_wp2_with fail
  refine (same_int_any sa Aa Ab na ca cb l1 _ S1 T1 (by omega)).mono ?_
  rintro e1 w1 ⟨rfl, hb⟩
  have K1 := K0.next hb
  replace S2 := S2.below hb
  replace T2 := T2.below hb
  clear K0 hb S1 T1 p0 p1 p2 p3 q0 q1 q2 q3
  obtain ⟨⟨p0, p1, p2, p3⟩, _, _⟩ := (K1.blk (g := w.heap.size) (vs := [.bool sa, .slice Aa na ca, .bool za, .slice Ba ma da]) (by simp)).four
  obtain ⟨⟨q0, q1, q2, q3⟩, _, _⟩ := (K1.blk (g := w.heap.size + 1) (vs := [.bool sa, .slice Ab na cb, .bool za, .slice Bb ma db]) (by simp)).four
  go_wp2_with fail
  refine (same_int_any za Ba Bb ma da db l2 _ S2 T2 (by omega)).mono ?_
  rintro e2 w2 ⟨rfl, hb⟩
  go_wp2_with fail
  go_ret
  exact ⟨rfl, (K1.next hb).1⟩

theorem beyond_one (g p1 : Nat) (b : Bool) (w : World) (hR : Reads w w.heap.size (some ⟨g, 0, none⟩) 1 (nats [p1])) (hs : p1 ≤ 9223372036854775807) (hb : Hid (decide (1048576 < p1) = b)) :
    Calls Tryz.prog 9 #[.slice (some ⟨g, 0, none⟩) 1 1] w (RetV w (.bool b)) := by
  have e : [p1].sum = p1 := by simp
  refine (beyond_any (some ⟨g, 0, none⟩) 1 1 [p1] w hR (by decide) (by rw [e]; exact hs)).mono ?_
  rintro e1 w1 ⟨rfl, rfl⟩
  exact ⟨by rw [e, hb.out], Below.refl _ _⟩
theorem getD_at {o : List OwnAt} {i : Nat} (d : OwnAt) (h : i < o.length) : o.getD i d = o[i] := by simp [List.getD, h]
theorem Owns.sel {B : Nat} {w : World} {o : List OwnAt} (h : Owns B w o) (is : List Nat) (hn : is.Nodup) (hl : ∀ i ∈ is, i < o.length) : Owns B w (is.map (fun i => o.getD i (none, 0, 0))) := by
  refine ⟨fun q hq => ?_, ?_⟩
  · obtain ⟨i, hi, rfl⟩ := List.mem_map.1 hq
    have := hl i hi
    rw [getD_at _ this]
    exact h.1 _ (List.getElem_mem this)
  · rw [List.pairwise_map]
    refine List.Pairwise.imp_of_mem (R := (· ≠ ·)) (fun {a b} ha hb hab => ?_) hn
    rw [getD_at _ (hl a ha), getD_at _ (hl b hb)]
    exact far_at h.2 (List.getElem?_eq_getElem (hl a ha)) (List.getElem?_eq_getElem (hl b hb)) hab
end Go.Proofs.YtmmplomkginadaaGreatDoor
