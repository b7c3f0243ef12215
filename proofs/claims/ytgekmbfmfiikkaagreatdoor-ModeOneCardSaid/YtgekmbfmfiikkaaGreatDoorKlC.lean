/-
  What complex numbers and matrices cost (GaussCost, MatrixCost).
-/
import Derived.Test.YtgekmbfmfiikkaaGreatDoorExFb
import Derived.Test.YtgekmbfmfiikkaaGreatDoorMeg
import Derived.Test.YtgekmbfmfiikkaaGreatDoorLst
set_option maxHeartbeats 6400000
set_option maxRecDepth 100000
namespace Go.Proofs.YtgekmbfmfiikkaaGreatDoor
open Go.RowKit
theorem frac_cost_of (neg neg' : Bool) (A A' : Option Addr) (n c n' c' : Nat) (p : Nat) (w : World) (hn : n ≤ 281474976710656) (hn' : n' ≤ 281474976710656) (hp : Hid (costFr n n' = p)) :
  Calls Tryz.prog 47 #[.agg #[.bool neg, .slice A n c, .bool neg', .slice A' n' c']] w (RetV w (.int .i64 ((p : Nat) : Int))) := by
 have h := frac_cost_any neg neg' A A' n c n' c' w hn hn'
 rwa [hp.out] at h
theorem cost_bound {n n' : Nat} (hn : n ≤ 281474976710656) (hn' : n' ≤ 281474976710656) : costFr n n' ≤ 1125899906842624 := by
 have h1 : min n 1048576 * min n' 1048576 ≤ 1048576 * 1048576 := Nat.mul_le_mul (Nat.min_le_right _ _) (Nat.min_le_right _ _)
 unfold costFr
 generalize min n 1048576 * min n' 1048576 = p at *
 omega
theorem gauss_cost_any (su zu : Bool) (Au Bu : Option Addr) (nu cu mu du : Nat) (sv zv : Bool) (Av Bv : Option Addr) (nv cv mv dv : Nat) (w : World) (hnu : nu ≤ 281474976710656) (hmu : mu ≤ 281474976710656) (hnv : nv ≤ 281474976710656) (hmv : mv ≤ 281474976710656) :
    Calls Tryz.prog 10 #[.agg #[.bool su, .slice Au nu cu, .bool zu, .slice Bu mu du, .bool sv, .slice Av nv cv, .bool zv, .slice Bv mv dv]] w (RetV w (.int .i64 ((costFr nu mu + costFr nv mv : Nat) : Int))) := by
  have K0 := (Mm.nil w).var (g := w.heap.size) rfl [.bool su, .slice Au nu cu, .bool zu, .slice Bu mu du, .bool sv, .slice Av nv cv, .bool zv, .slice Bv mv dv] 30
  have qu := cost_bound hnu hmu
  obtain ⟨pu, hpu⟩ : ∃ p, costFr nu mu = p := ⟨_, rfl⟩
  rw [hpu] at qu
  have HPu := Lib.hid hpu
  have qv := cost_bound hnv hmv
  obtain ⟨pv, hpv⟩ : ∃ p, costFr nv mv = p := ⟨_, rfl⟩
  rw [hpv] at qv
  have HPv := Lib.hid hpv
  rw [hpu, hpv]
  have hw1 : IntKind.i64.wrap ((pu : Int) + (pv : Int)) = (pu : Int) + (pv : Int) := IntWalk.i64_in _ (by omega)
  have HT : Hid ((pu : Int) + (pv : Int) = ((pu + pv : Nat) : Int)) := Lib.hid (by omega)
  clear hpu qu hpv qv
  go_enter Tryz.func10, Tryz.ntmps10
  go_wp2_with fail
  generalize w.alloc (.cells #[.bool su, .slice Au nu cu, .bool zu, .slice Bu mu du, .bool sv, .slice Av nv cv, .bool zv, .slice Bv mv dv] 30) = w0 at K0 ⊢
  obtain ⟨_, _, _, _, _, _, _, _⟩ := (K0.blk (g := w.heap.size) (by repeat constructor)).c8
  go_region_held3 (fun w' => w'.cell? ⟨w.heap.size, 0, none⟩ = some (.bool su) ∧ w'.cell? ⟨w.heap.size, 1, none⟩ = some (.slice Au nu cu) ∧ w'.cell? ⟨w.heap.size, 2, none⟩ = some (.bool zu) ∧ w'.cell? ⟨w.heap.size, 3, none⟩ = some (.slice Bu mu du) ∧ w'.cell? ⟨w.heap.size, 4, none⟩ = some (.bool sv) ∧ w'.cell? ⟨w.heap.size, 5, none⟩ = some (.slice Av nv cv) ∧ w'.cell? ⟨w.heap.size, 6, none⟩ = some (.bool zv) ∧ w'.cell? ⟨w.heap.size, 7, none⟩ = some (.slice Bv mv dv))
    (go_keep)
    (first
      | (go_at_call 47; apply Calls.withMm (w0 := w); (case K => with_reducible repeat (first | exact K0 | apply Mm.drew | apply Mm.drewN)); intro KX; (with_reducible refine (frac_cost_of su zu Au Bu nu cu mu du pu _ hnu hmu HPu).mono ?_); rintro e1 w1 ⟨rfl, hb1⟩; (with_reducible have K1 := KX.next hb1); obtain ⟨_, _, _, _, _, _, _, _⟩ := (K1.blk (mE 0 rfl)).c8; clear KX hb1)
      | (go_at_call 47; apply Calls.withMm (w0 := w); (case K => with_reducible repeat (first | exact K1 | apply Mm.drew | apply Mm.drewN)); intro KX; (with_reducible refine (frac_cost_of sv zv Av Bv nv cv mv dv pv _ hnv hmv HPv).mono ?_); rintro e2 w2 ⟨rfl, hb2⟩; (with_reducible have K2 := KX.next hb2); obtain ⟨_, _, _, _, _, _, _, _⟩ := (K2.blk (mE 0 rfl)).c8; clear KX hb2))
  all_goals
   go_wp2_with fail
   go_ret
   exact ⟨by rw [← HT.out]; rfl, K2.1⟩
theorem matrix_cost_any (sa za : Bool) (Aa Ba : Option Addr) (na ca ma da : Nat) (sb zb : Bool) (Ab Bb : Option Addr) (nb cb mb db : Nat) (sc zc : Bool) (Ac Bc : Option Addr) (nc cc mc dc : Nat) (sd zd : Bool) (Ad Bd : Option Addr) (nd cd md dd : Nat) (w : World) (hna : na ≤ 281474976710656) (hma : ma ≤ 281474976710656) (hnb : nb ≤ 281474976710656) (hmb : mb ≤ 281474976710656) (hnc : nc ≤ 281474976710656) (hmc : mc ≤ 281474976710656) (hnd : nd ≤ 281474976710656) (hmd : md ≤ 281474976710656) :
    Calls Tryz.prog 9 #[.agg #[.bool sa, .slice Aa na ca, .bool za, .slice Ba ma da, .bool sb, .slice Ab nb cb, .bool zb, .slice Bb mb db, .bool sc, .slice Ac nc cc, .bool zc, .slice Bc mc dc, .bool sd, .slice Ad nd cd, .bool zd, .slice Bd md dd]] w (RetV w (.int .i64 ((costFr na ma + costFr nb mb + costFr nc mc + costFr nd md : Nat) : Int))) := by
  have K0 := (Mm.nil w).var (g := w.heap.size) rfl [.bool sa, .slice Aa na ca, .bool za, .slice Ba ma da, .bool sb, .slice Ab nb cb, .bool zb, .slice Bb mb db, .bool sc, .slice Ac nc cc, .bool zc, .slice Bc mc dc, .bool sd, .slice Ad nd cd, .bool zd, .slice Bd md dd] 28
  have qa := cost_bound hna hma
  obtain ⟨pa, hpa⟩ : ∃ p, costFr na ma = p := ⟨_, rfl⟩
  rw [hpa] at qa
  have HPa := Lib.hid hpa
  have qb := cost_bound hnb hmb
  obtain ⟨pb, hpb⟩ : ∃ p, costFr nb mb = p := ⟨_, rfl⟩
  rw [hpb] at qb
  have HPb := Lib.hid hpb
  have qc := cost_bound hnc hmc
  obtain ⟨pc, hpc⟩ : ∃ p, costFr nc mc = p := ⟨_, rfl⟩
  rw [hpc] at qc
  have HPc := Lib.hid hpc
  have qd := cost_bound hnd hmd
  obtain ⟨pd, hpd⟩ : ∃ p, costFr nd md = p := ⟨_, rfl⟩
  rw [hpd] at qd
  have HPd := Lib.hid hpd
  rw [hpa, hpb, hpc, hpd]
  have hw1 : IntKind.i64.wrap ((pa : Int) + (pb : Int)) = (pa : Int) + (pb : Int) := IntWalk.i64_in _ (by omega)
  have hw2 : IntKind.i64.wrap ((pa : Int) + (pb : Int) + (pc : Int)) = (pa : Int) + (pb : Int) + (pc : Int) := IntWalk.i64_in _ (by omega)
  have hw3 : IntKind.i64.wrap ((pa : Int) + (pb : Int) + (pc : Int) + (pd : Int)) = (pa : Int) + (pb : Int) + (pc : Int) + (pd : Int) := IntWalk.i64_in _ (by omega)
  have HT : Hid ((pa : Int) + (pb : Int) + (pc : Int) + (pd : Int) = ((pa + pb + pc + pd : Nat) : Int)) := Lib.hid (by omega)
  clear hpa qa hpb qb hpc qc hpd qd
  go_enter Tryz.func9, Tryz.ntmps9
  go_wp2_with fail
  generalize w.alloc (.cells #[.bool sa, .slice Aa na ca, .bool za, .slice Ba ma da, .bool sb, .slice Ab nb cb, .bool zb, .slice Bb mb db, .bool sc, .slice Ac nc cc, .bool zc, .slice Bc mc dc, .bool sd, .slice Ad nd cd, .bool zd, .slice Bd md dd] 28) = w0 at K0 ⊢
  obtain ⟨_, _, _, _, _, _, _, _, _, _, _, _, _, _, _, _⟩ := (K0.blk (g := w.heap.size) (by repeat constructor)).c16
  go_region_held3 (fun w' => w'.cell? ⟨w.heap.size, 0, none⟩ = some (.bool sa) ∧ w'.cell? ⟨w.heap.size, 1, none⟩ = some (.slice Aa na ca) ∧ w'.cell? ⟨w.heap.size, 2, none⟩ = some (.bool za) ∧ w'.cell? ⟨w.heap.size, 3, none⟩ = some (.slice Ba ma da) ∧ w'.cell? ⟨w.heap.size, 4, none⟩ = some (.bool sb) ∧ w'.cell? ⟨w.heap.size, 5, none⟩ = some (.slice Ab nb cb) ∧ w'.cell? ⟨w.heap.size, 6, none⟩ = some (.bool zb) ∧ w'.cell? ⟨w.heap.size, 7, none⟩ = some (.slice Bb mb db) ∧ w'.cell? ⟨w.heap.size, 8, none⟩ = some (.bool sc) ∧ w'.cell? ⟨w.heap.size, 9, none⟩ = some (.slice Ac nc cc) ∧ w'.cell? ⟨w.heap.size, 10, none⟩ = some (.bool zc) ∧ w'.cell? ⟨w.heap.size, 11, none⟩ = some (.slice Bc mc dc) ∧ w'.cell? ⟨w.heap.size, 12, none⟩ = some (.bool sd) ∧ w'.cell? ⟨w.heap.size, 13, none⟩ = some (.slice Ad nd cd) ∧ w'.cell? ⟨w.heap.size, 14, none⟩ = some (.bool zd) ∧ w'.cell? ⟨w.heap.size, 15, none⟩ = some (.slice Bd md dd))
    (go_keep)
    (first
      | (go_at_call 47; apply Calls.withMm (w0 := w); (case K => with_reducible repeat (first | exact K0 | apply Mm.drew | apply Mm.drewN)); intro KX; (with_reducible refine (frac_cost_of sa za Aa Ba na ca ma da pa _ hna hma HPa).mono ?_); rintro e1 w1 ⟨rfl, hb1⟩; (with_reducible have K1 := KX.next hb1); obtain ⟨_, _, _, _, _, _, _, _, _, _, _, _, _, _, _, _⟩ := (K1.blk (mE 0 rfl)).c16; clear KX hb1)
      | (go_at_call 47; apply Calls.withMm (w0 := w); (case K => with_reducible repeat (first | exact K1 | apply Mm.drew | apply Mm.drewN)); intro KX; (with_reducible refine (frac_cost_of sb zb Ab Bb nb cb mb db pb _ hnb hmb HPb).mono ?_); rintro e2 w2 ⟨rfl, hb2⟩; (with_reducible have K2 := KX.next hb2); obtain ⟨_, _, _, _, _, _, _, _, _, _, _, _, _, _, _, _⟩ := (K2.blk (mE 0 rfl)).c16; clear KX hb2)
      | (go_at_call 47; apply Calls.withMm (w0 := w); (case K => with_reducible repeat (first | exact K2 | apply Mm.drew | apply Mm.drewN)); intro KX; (with_reducible refine (frac_cost_of sc zc Ac Bc nc cc mc dc pc _ hnc hmc HPc).mono ?_); rintro e3 w3 ⟨rfl, hb3⟩; (with_reducible have K3 := KX.next hb3); obtain ⟨_, _, _, _, _, _, _, _, _, _, _, _, _, _, _, _⟩ := (K3.blk (mE 0 rfl)).c16; clear KX hb3)
      | (go_at_call 47; apply Calls.withMm (w0 := w); (case K => with_reducible repeat (first | exact K3 | apply Mm.drew | apply Mm.drewN)); intro KX; (with_reducible refine (frac_cost_of sd zd Ad Bd nd cd md dd pd _ hnd hmd HPd).mono ?_); rintro e4 w4 ⟨rfl, hb4⟩; (with_reducible have K4 := KX.next hb4); obtain ⟨_, _, _, _, _, _, _, _, _, _, _, _, _, _, _, _⟩ := (K4.blk (mE 0 rfl)).c16; clear KX hb4))
  all_goals
   go_wp2_with fail
   go_ret
   exact ⟨by rw [← HT.out]; rfl, K4.1⟩
end Go.Proofs.YtgekmbfmfiikkaaGreatDoor
