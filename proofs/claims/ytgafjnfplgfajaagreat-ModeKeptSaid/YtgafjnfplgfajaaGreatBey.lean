/-
  What complex numbers and matrices cost (GaussCost, MatrixCost). Whether sizes, taken together, are too many to be copied (polestarlaw01.Beyond).
-/
import Derived.Test.YtgafjnfplgfajaaGreatExFb
import Derived.Test.YtgafjnfplgfajaaGreatLst
import Derived.Test.YtgafjnfplgfajaaGreatZero
namespace Go.Proofs.YtgafjnfplgfajaaGreat
open Go.RowKit

theorem frac_cost_of (neg neg' : Bool) (A A' : Option Addr) (n c n' c' : Nat) (p : Nat) (w : World) (hn : n ≤ 281474976710656) (hn' : n' ≤ 281474976710656) (hp : Hid (costFr n n' = p)) :
    Calls Tryz.prog 13 #[.agg #[.bool neg, .slice A n c, .bool neg', .slice A' n' c']] w (RetV w (.int .i64 ((p : Nat) : Int))) := by
  have h := frac_cost_any neg neg' A A' n c n' c' w hn hn'
  rwa [hp.out] at h
theorem cost_bound {n n' : Nat} (hn : n ≤ 281474976710656) (hn' : n' ≤ 281474976710656) : costFr n n' ≤ 1125899906842624 := by
  have h1 : min n 1048576 * min n' 1048576 ≤ 1048576 * 1048576 := Nat.mul_le_mul (Nat.min_le_right _ _) (Nat.min_le_right _ _)
  unfold costFr
  generalize min n 1048576 * min n' 1048576 = p at *
  omega

set_option maxRecDepth 100000 in
set_option maxHeartbeats 6400000 in
theorem gauss_cost_any (su zu : Bool) (Au Bu : Option Addr) (nu cu mu du : Nat) (sv zv : Bool) (Av Bv : Option Addr) (nv cv mv dv : Nat) (w : World) (hnu : nu ≤ 281474976710656) (hmu : mu ≤ 281474976710656) (hnv : nv ≤ 281474976710656) (hmv : mv ≤ 281474976710656) :
    Calls Tryz.prog 6 #[.agg #[.bool su, .slice Au nu cu, .bool zu, .slice Bu mu du, .bool sv, .slice Av nv cv, .bool zv, .slice Bv mv dv]] w (RetV w (.int .i64 ((costFr nu mu + costFr nv mv : Nat) : Int))) := by
  have K0 := (Mm.nil w).var (g := w.heap.size) rfl [.bool su, .slice Au nu cu, .bool zu, .slice Bu mu du, .bool sv, .slice Av nv cv, .bool zv, .slice Bv mv dv] 30
  have qu := cost_bound hnu hmu
  obtain ⟨pu, hpu⟩ : ∃ p, costFr nu mu = p := ⟨_, rfl⟩
  rw [hpu] at qu
  have HPu := Lib.hid hpu
  have qv := cost_bound hnv hmv
  obtain ⟨pv, hpv⟩ : ∃ p, costFr nv mv = p := ⟨_, rfl⟩
  rw [hpv] at qv
  have HPv := Lib.hid hpv
  rw [hpu, hpv]
  have hw1 : IntKind.i64.wrap ((pu : Int) + (pv : Int)) = (pu : Int) + (pv : Int) := IntWalk.i64_in _ (by omega)
  have HT : Hid ((pu : Int) + (pv : Int) = ((pu + pv : Nat) : Int)) := Lib.hid (by omega)
  clear hpu qu hpv qv
  go_enter Tryz.func6, Tryz.ntmps6
  go_wp2_with fail
  generalize w.alloc (.cells #[.bool su, .slice Au nu cu, .bool zu, .slice Bu mu du, .bool sv, .slice Av nv cv, .bool zv, .slice Bv mv dv] 30) = w0 at K0 ⊢
  obtain ⟨q0_0, q1_0, q2_0, q3_0, q4_0, q5_0, q6_0, q7_0⟩ := (K0.blk (g := w.heap.size) (vs := [.bool su, .slice Au nu cu, .bool zu, .slice Bu mu du, .bool sv, .slice Av nv cv, .bool zv, .slice Bv mv dv]) (by simp)).c8
  go_region_held3 (fun w' => w'.cell? ⟨w.heap.size, 0, none⟩ = some (.bool su) ∧ w'.cell? ⟨w.heap.size, 1, none⟩ = some (.slice Au nu cu) ∧ w'.cell? ⟨w.heap.size, 2, none⟩ = some (.bool zu) ∧ w'.cell? ⟨w.heap.size, 3, none⟩ = some (.slice Bu mu du) ∧ w'.cell? ⟨w.heap.size, 4, none⟩ = some (.bool sv) ∧ w'.cell? ⟨w.heap.size, 5, none⟩ = some (.slice Av nv cv) ∧ w'.cell? ⟨w.heap.size, 6, none⟩ = some (.bool zv) ∧ w'.cell? ⟨w.heap.size, 7, none⟩ = some (.slice Bv mv dv))
    (go_keep)
    (first
      | (go_at_call 13; (with_reducible refine (frac_cost_of su zu Au Bu nu cu mu du pu _ hnu hmu HPu).mono ?_); rintro e1 w1 ⟨rfl, hb1⟩; (first | (with_reducible have K1 := K0.next hb1) | (with_reducible have K1 := K0.drew.next hb1) | (with_reducible have K1 := (K0.drewN _).next hb1)); obtain ⟨q0_1, q1_1, q2_1, q3_1, q4_1, q5_1, q6_1, q7_1⟩ := (K1.blk (g := w.heap.size) (vs := [.bool su, .slice Au nu cu, .bool zu, .slice Bu mu du, .bool sv, .slice Av nv cv, .bool zv, .slice Bv mv dv]) (List.mem_of_getElem? (i := 0) rfl)).c8; clear hb1)
      | (go_at_call 13; (with_reducible refine (frac_cost_of sv zv Av Bv nv cv mv dv pv _ hnv hmv HPv).mono ?_); rintro e2 w2 ⟨rfl, hb2⟩; (first | (with_reducible have K2 := K1.next hb2) | (with_reducible have K2 := K1.drew.next hb2) | (with_reducible have K2 := (K1.drewN _).next hb2)); obtain ⟨q0_2, q1_2, q2_2, q3_2, q4_2, q5_2, q6_2, q7_2⟩ := (K2.blk (g := w.heap.size) (vs := [.bool su, .slice Au nu cu, .bool zu, .slice Bu mu du, .bool sv, .slice Av nv cv, .bool zv, .slice Bv mv dv]) (List.mem_of_getElem? (i := 0) rfl)).c8; clear hb2))
  all_goals
   go_wp2_with fail
   go_ret
   exact ⟨by rw [← HT.out]; rfl, K2.1⟩

set_option maxRecDepth 100000 in
set_option maxHeartbeats 6400000 in
theorem matrix_cost_any (sa za : Bool) (Aa Ba : Option Addr) (na ca ma da : Nat) (sb zb : Bool) (Ab Bb : Option Addr) (nb cb mb db : Nat) (sc zc : Bool) (Ac Bc : Option Addr) (nc cc mc dc : Nat) (sd zd : Bool) (Ad Bd : Option Addr) (nd cd md dd : Nat) (w : World) (hna : na ≤ 281474976710656) (hma : ma ≤ 281474976710656) (hnb : nb ≤ 281474976710656) (hmb : mb ≤ 281474976710656) (hnc : nc ≤ 281474976710656) (hmc : mc ≤ 281474976710656) (hnd : nd ≤ 281474976710656) (hmd : md ≤ 281474976710656) :
    Calls Tryz.prog 5 #[.agg #[.bool sa, .slice Aa na ca, .bool za, .slice Ba ma da, .bool sb, .slice Ab nb cb, .bool zb, .slice Bb mb db, .bool sc, .slice Ac nc cc, .bool zc, .slice Bc mc dc, .bool sd, .slice Ad nd cd, .bool zd, .slice Bd md dd]] w (RetV w (.int .i64 ((costFr na ma + costFr nb mb + costFr nc mc + costFr nd md : Nat) : Int))) := by
  have K0 := (Mm.nil w).var (g := w.heap.size) rfl [.bool sa, .slice Aa na ca, .bool za, .slice Ba ma da, .bool sb, .slice Ab nb cb, .bool zb, .slice Bb mb db, .bool sc, .slice Ac nc cc, .bool zc, .slice Bc mc dc, .bool sd, .slice Ad nd cd, .bool zd, .slice Bd md dd] 28
  have qa := cost_bound hna hma
  obtain ⟨pa, hpa⟩ : ∃ p, costFr na ma = p := ⟨_, rfl⟩
  rw [hpa] at qa
  have HPa := Lib.hid hpa
  have qb := cost_bound hnb hmb
  obtain ⟨pb, hpb⟩ : ∃ p, costFr nb mb = p := ⟨_, rfl⟩
  rw [hpb] at qb
  have HPb := Lib.hid hpb
  have qc := cost_bound hnc hmc
  obtain ⟨pc, hpc⟩ : ∃ p, costFr nc mc = p := ⟨_, rfl⟩
  rw [hpc] at qc
  have HPc := Lib.hid hpc
  have qd := cost_bound hnd hmd
  obtain ⟨pd, hpd⟩ : ∃ p, costFr nd md = p := ⟨_, rfl⟩
  rw [hpd] at qd
  have HPd := Lib.hid hpd
  rw [hpa, hpb, hpc, hpd]
  have hw1 : IntKind.i64.wrap ((pa : Int) + (pb : Int)) = (pa : Int) + (pb : Int) := IntWalk.i64_in _ (by omega)
  have hw2 : IntKind.i64.wrap ((pa : Int) + (pb : Int) + (pc : Int)) = (pa : Int) + (pb : Int) + (pc : Int) := IntWalk.i64_in _ (by omega)
  have hw3 : IntKind.i64.wrap ((pa : Int) + (pb : Int) + (pc : Int) + (pd : Int)) = (pa : Int) + (pb : Int) + (pc : Int) + (pd : Int) := IntWalk.i64_in _ (by omega)
  have HT : Hid ((pa : Int) + (pb : Int) + (pc : Int) + (pd : Int) = ((pa + pb + pc + pd : Nat) : Int)) := Lib.hid (by omega)
  clear hpa qa hpb qb hpc qc hpd qd
  go_enter Tryz.func5, Tryz.ntmps5
  go_wp2_with fail
  generalize w.alloc (.cells #[.bool sa, .slice Aa na ca, .bool za, .slice Ba ma da, .bool sb, .slice Ab nb cb, .bool zb, .slice Bb mb db, .bool sc, .slice Ac nc cc, .bool zc, .slice Bc mc dc, .bool sd, .slice Ad nd cd, .bool zd, .slice Bd md dd] 28) = w0 at K0 ⊢
  obtain ⟨q0_0, q1_0, q2_0, q3_0, q4_0, q5_0, q6_0, q7_0, q8_0, q9_0, q10_0, q11_0, q12_0, q13_0, q14_0, q15_0⟩ := (K0.blk (g := w.heap.size) (vs := [.bool sa, .slice Aa na ca, .bool za, .slice Ba ma da, .bool sb, .slice Ab nb cb, .bool zb, .slice Bb mb db, .bool sc, .slice Ac nc cc, .bool zc, .slice Bc mc dc, .bool sd, .slice Ad nd cd, .bool zd, .slice Bd md dd]) (by simp)).c16
  go_region_held3 (fun w' => w'.cell? ⟨w.heap.size, 0, none⟩ = some (.bool sa) ∧ w'.cell? ⟨w.heap.size, 1, none⟩ = some (.slice Aa na ca) ∧ w'.cell? ⟨w.heap.size, 2, none⟩ = some (.bool za) ∧ w'.cell? ⟨w.heap.size, 3, none⟩ = some (.slice Ba ma da) ∧ w'.cell? ⟨w.heap.size, 4, none⟩ = some (.bool sb) ∧ w'.cell? ⟨w.heap.size, 5, none⟩ = some (.slice Ab nb cb) ∧ w'.cell? ⟨w.heap.size, 6, none⟩ = some (.bool zb) ∧ w'.cell? ⟨w.heap.size, 7, none⟩ = some (.slice Bb mb db) ∧ w'.cell? ⟨w.heap.size, 8, none⟩ = some (.bool sc) ∧ w'.cell? ⟨w.heap.size, 9, none⟩ = some (.slice Ac nc cc) ∧ w'.cell? ⟨w.heap.size, 10, none⟩ = some (.bool zc) ∧ w'.cell? ⟨w.heap.size, 11, none⟩ = some (.slice Bc mc dc) ∧ w'.cell? ⟨w.heap.size, 12, none⟩ = some (.bool sd) ∧ w'.cell? ⟨w.heap.size, 13, none⟩ = some (.slice Ad nd cd) ∧ w'.cell? ⟨w.heap.size, 14, none⟩ = some (.bool zd) ∧ w'.cell? ⟨w.heap.size, 15, none⟩ = some (.slice Bd md dd))
    (go_keep)
    (first
      | (go_at_call 13; (with_reducible refine (frac_cost_of sa za Aa Ba na ca ma da pa _ hna hma HPa).mono ?_); rintro e1 w1 ⟨rfl, hb1⟩; (first | (with_reducible have K1 := K0.next hb1) | (with_reducible have K1 := K0.drew.next hb1) | (with_reducible have K1 := (K0.drewN _).next hb1)); obtain ⟨q0_1, q1_1, q2_1, q3_1, q4_1, q5_1, q6_1, q7_1, q8_1, q9_1, q10_1, q11_1, q12_1, q13_1, q14_1, q15_1⟩ := (K1.blk (g := w.heap.size) (vs := [.bool sa, .slice Aa na ca, .bool za, .slice Ba ma da, .bool sb, .slice Ab nb cb, .bool zb, .slice Bb mb db, .bool sc, .slice Ac nc cc, .bool zc, .slice Bc mc dc, .bool sd, .slice Ad nd cd, .bool zd, .slice Bd md dd]) (List.mem_of_getElem? (i := 0) rfl)).c16; clear hb1)
      | (go_at_call 13; (with_reducible refine (frac_cost_of sb zb Ab Bb nb cb mb db pb _ hnb hmb HPb).mono ?_); rintro e2 w2 ⟨rfl, hb2⟩; (first | (with_reducible have K2 := K1.next hb2) | (with_reducible have K2 := K1.drew.next hb2) | (with_reducible have K2 := (K1.drewN _).next hb2)); obtain ⟨q0_2, q1_2, q2_2, q3_2, q4_2, q5_2, q6_2, q7_2, q8_2, q9_2, q10_2, q11_2, q12_2, q13_2, q14_2, q15_2⟩ := (K2.blk (g := w.heap.size) (vs := [.bool sa, .slice Aa na ca, .bool za, .slice Ba ma da, .bool sb, .slice Ab nb cb, .bool zb, .slice Bb mb db, .bool sc, .slice Ac nc cc, .bool zc, .slice Bc mc dc, .bool sd, .slice Ad nd cd, .bool zd, .slice Bd md dd]) (List.mem_of_getElem? (i := 0) rfl)).c16; clear hb2)
      | (go_at_call 13; (with_reducible refine (frac_cost_of sc zc Ac Bc nc cc mc dc pc _ hnc hmc HPc).mono ?_); rintro e3 w3 ⟨rfl, hb3⟩; (first | (with_reducible have K3 := K2.next hb3) | (with_reducible have K3 := K2.drew.next hb3) | (with_reducible have K3 := (K2.drewN _).next hb3)); obtain ⟨q0_3, q1_3, q2_3, q3_3, q4_3, q5_3, q6_3, q7_3, q8_3, q9_3, q10_3, q11_3, q12_3, q13_3, q14_3, q15_3⟩ := (K3.blk (g := w.heap.size) (vs := [.bool sa, .slice Aa na ca, .bool za, .slice Ba ma da, .bool sb, .slice Ab nb cb, .bool zb, .slice Bb mb db, .bool sc, .slice Ac nc cc, .bool zc, .slice Bc mc dc, .bool sd, .slice Ad nd cd, .bool zd, .slice Bd md dd]) (List.mem_of_getElem? (i := 0) rfl)).c16; clear hb3)
      | (go_at_call 13; (with_reducible refine (frac_cost_of sd zd Ad Bd nd cd md dd pd _ hnd hmd HPd).mono ?_); rintro e4 w4 ⟨rfl, hb4⟩; (first | (with_reducible have K4 := K3.next hb4) | (with_reducible have K4 := K3.drew.next hb4) | (with_reducible have K4 := (K3.drewN _).next hb4)); obtain ⟨q0_4, q1_4, q2_4, q3_4, q4_4, q5_4, q6_4, q7_4, q8_4, q9_4, q10_4, q11_4, q12_4, q13_4, q14_4, q15_4⟩ := (K4.blk (g := w.heap.size) (vs := [.bool sa, .slice Aa na ca, .bool za, .slice Ba ma da, .bool sb, .slice Ab nb cb, .bool zb, .slice Bb mb db, .bool sc, .slice Ac nc cc, .bool zc, .slice Bc mc dc, .bool sd, .slice Ad nd cd, .bool zd, .slice Bd md dd]) (List.mem_of_getElem? (i := 0) rfl)).c16; clear hb4))
  all_goals
   go_wp2_with fail
   go_ret
   exact ⟨by rw [← HT.out]; rfl, K4.1⟩
end Go.Proofs.YtgafjnfplgfajaaGreat

namespace Go.Proofs.YtgafjnfplgfajaaGreat
open Go.RowKit

def nats (l : List Nat) : List Value := l.map fun (x : Nat) => Value.int .i64 (x : Int)
theorem nats_get {l : List Nat} {k : Nat} {u : Value} (h : (nats l)[k]? = some u) : ∃ hk : k < l.length, u = .int .i64 (l[k] : Nat) := by
  unfold nats at h
  rw [List.getElem?_map] at h
  rcases Nat.lt_or_ge k l.length with hk | hk
  · rw [List.getElem?_eq_getElem hk] at h
    exact ⟨hk, by simpa using h.symm⟩
  · rw [List.getElem?_eq_none hk] at h; cases h
theorem sum_take_succ (l : List Nat) (k : Nat) (h : k < l.length) : (l.take (k + 1)).sum = (l.take k).sum + l[k] := by
  rw [List.take_succ_eq_append_getElem h, List.sum_append]
  simp
theorem sum_take_le (l : List Nat) (k : Nat) : (l.take k).sum ≤ l.sum := by
  have h : l.sum = (l.take k).sum + (l.drop k).sum := by rw [← List.sum_append, List.take_append_drop]
  omega
set_option maxRecDepth 100000 in
set_option maxHeartbeats 1600000 in
theorem beyond_any (A : Option Addr) (n c : Nat) (l : List Nat) (w : World) (h : Reads w w.heap.size A n (nats l)) (hn : n ≤ 1000000) (hl : l.sum ≤ 9223372036854775807) :
    Calls Tryz.prog 4 #[.slice A n c] w fun e w' => e = .returned (.bool (decide (1048576 < l.sum))) ∧ w = w' := by
  have hlen : l.length = n := by have := h.1; unfold nats at this; simpa using this
  have HS := Lib.hid (sum_take_le l)
  have HL := Lib.hid hl
  have HLEN := Lib.hid hlen
  clear hl hlen
  go_enter Tryz.func4, Tryz.ntmps4
  go_wp2_with fail
  go_loopw [3, 4] (fun s i wr => ∃ k : Nat, k ≤ n ∧ s = .int .i64 (((l.take k).sum : Nat) : Int) ∧ (l.take k).sum ≤ 1048576 ∧ i = .int .i64 (k : Int) ∧ wr = w) (fun _ i _ => n - (intOf i).toNat)
  case atStart => exact ⟨0, Nat.zero_le _, rfl, by simp, rfl, rfl⟩
  case round =>
    obtain ⟨k, hk, rfl, hs, rfl, rfl⟩ := hrel
    by_cases hlt : k < n
    · obtain ⟨ad, v, rfl, hb, hv, hc⟩ := h.at_ hlt
      obtain ⟨hkl, rfl⟩ := nats_get hv
      have hx : (l.take (k + 1)).sum ≤ 9223372036854775807 := Nat.le_trans (sum_take_le l _) HL.out
      have hsum := sum_take_succ l k hkl
      have hle := HS.out (k + 1)
      obtain ⟨x, hxx⟩ : ∃ x, l[k] = x := ⟨_, rfl⟩
      obtain ⟨s, hss⟩ : ∃ s, (l.take k).sum = s := ⟨_, rfl⟩
      rw [hsum, hxx, hss] at hx
      rw [hxx] at hc hsum
      rw [hss] at hs hsum
      rw [hss]
      have HSUM := Lib.hid hsum
      have hlt' : (k : Int) < (n : Int) := by omega
      have hk0 : (0 : Int) ≤ (k : Int) := Int.natCast_nonneg _
      have HLE := Lib.hid hle
      clear hv hsum hss hxx hle
      by_cases hbig : 1048576 < s + x
      · have hbig' : (1048576 : Int) < (s : Int) + (x : Int) := by omega
        have E : Hid (decide (1048576 < l.sum) = true) := Lib.hid (decide_eq_true (by have := HLE.out; have := HSUM.out; omega))
        go_wp2_with fail
        go_ret
        exact ⟨by rw [E.out]; rfl, rfl⟩
      · have hbig' : ¬ (1048576 : Int) < (s : Int) + (x : Int) := by omega
        go_wp2_with fail
        go_roundw
        case rel => exact ⟨k + 1, hlt, by rw [HSUM.out]; go_num, by rw [HSUM.out]; omega, by go_num, trivial⟩
        case measure => simp [intOf]; omega
    · obtain rfl : k = n := by omega
      have E : Hid (decide (1048576 < l.sum) = false) := Lib.hid (decide_eq_false (by rw [List.take_of_length_le (by rw [HLEN.out]; exact Nat.le_refl _)] at hs; omega))
      go_wp2_with fail
      go_ret
      exact ⟨by rw [E.out]; rfl, rfl⟩
theorem nats_new (w : World) (t : TypeId) (l : List Nat) : Reads (w.alloc (.cells (nats l).toArray t)) (w.alloc (.cells (nats l).toArray t)).heap.size (some ⟨w.heap.size, 0, none⟩) l.length (nats l) := by
  have h := reads_new w t (nats l)
  have e : (nats l).length = l.length := by unfold nats; simp
  rw [e] at h
  exact h
end Go.Proofs.YtgafjnfplgfajaaGreat
