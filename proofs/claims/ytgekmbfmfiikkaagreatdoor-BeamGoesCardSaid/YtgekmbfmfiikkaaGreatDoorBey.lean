/-
  What complex numbers and matrices cost (GaussCost, MatrixCost).
  Are the twins of complex numbers and matrices as they were? (LeftGauss, LeftMatrix)
  Whether sizes, taken together, are too many to be copied (polestarlaw01.Beyond).
-/
import Derived.Test.YtgekmbfmfiikkaaGreatDoorExFb
import Derived.Test.YtgekmbfmfiikkaaGreatDoorAnD
import Derived.Test.YtgekmbfmfiikkaaGreatDoorBmA
import Derived.Test.YtgekmbfmfiikkaaGreatDoorExFf
import Derived.Test.YtgekmbfmfiikkaaGreatDoorZero
set_option maxHeartbeats 6400000
set_option maxRecDepth 100000
namespace Go.Proofs.YtgekmbfmfiikkaaGreatDoor
open Go.RowKit
theorem frac_cost_of (neg neg' : Bool) (A A' : Option Addr) (n c n' c' : Nat) (p : Nat) (w : World) (hn : n ≤ 281474976710656) (hn' : n' ≤ 281474976710656) (hp : Hid (costFr n n' = p)) :
  Calls Tryz.prog 47 #[.agg #[.bool neg, .slice A n c, .bool neg', .slice A' n' c']] w (RetV w (.int .i64 ((p : Nat) : Int))) := by
 have h := frac_cost_any neg neg' A A' n c n' c' w hn hn'
 rwa [hp.out] at h
theorem cost_bound {n n' : Nat} (hn : n ≤ 281474976710656) (hn' : n' ≤ 281474976710656) : costFr n n' ≤ 1125899906842624 := by
 have h1 : min n 1048576 * min n' 1048576 ≤ 1048576 * 1048576 := Nat.mul_le_mul (Nat.min_le_right _ _) (Nat.min_le_right _ _)
 unfold costFr
 generalize min n 1048576 * min n' 1048576 = p at *
 omega
theorem gauss_cost_any (su zu : Bool) (Au Bu : Option Addr) (nu cu mu du : Nat) (sv zv : Bool) (Av Bv : Option Addr) (nv cv mv dv : Nat) (w : World) (hnu : nu ≤ 281474976710656) (hmu : mu ≤ 281474976710656) (hnv : nv ≤ 281474976710656) (hmv : mv ≤ 281474976710656) :
    Calls Tryz.prog 10 #[.agg #[.bool su, .slice Au nu cu, .bool zu, .slice Bu mu du, .bool sv, .slice Av nv cv, .bool zv, .slice Bv mv dv]] w (RetV w (.int .i64 ((costFr nu mu + costFr nv mv : Nat) : Int))) := by
  have K0 := (Mm.nil w).var (g := w.heap.size) rfl [.bool su, .slice Au nu cu, .bool zu, .slice Bu mu du, .bool sv, .slice Av nv cv, .bool zv, .slice Bv mv dv] 30
  have qu := cost_bound hnu hmu
  obtain ⟨pu, hpu⟩ : ∃ p, costFr nu mu = p := ⟨_, rfl⟩
  rw [hpu] at qu
  have HPu := Lib.hid hpu
  have qv := cost_bound hnv hmv
  obtain ⟨pv, hpv⟩ : ∃ p, costFr nv mv = p := ⟨_, rfl⟩
  rw [hpv] at qv
  have HPv := Lib.hid hpv
  rw [hpu, hpv]
  have hw1 : IntKind.i64.wrap ((pu : Int) + (pv : Int)) = (pu : Int) + (pv : Int) := IntWalk.i64_in _ (by omega)
  have HT : Hid ((pu : Int) + (pv : Int) = ((pu + pv : Nat) : Int)) := Lib.hid (by omega)
  clear hpu qu hpv qv
  go_enter Tryz.func10, Tryz.ntmps10
  go_wp2_with fail
  generalize w.alloc (.cells #[.bool su, .slice Au nu cu, .bool zu, .slice Bu mu du, .bool sv, .slice Av nv cv, .bool zv, .slice Bv mv dv] 30) = w0 at K0 ⊢
  obtain ⟨_, _, _, _, _, _, _, _⟩ := (K0.blk (g := w.heap.size) (by repeat constructor)).c8
  go_region_held3 (fun w' => w'.cell? ⟨w.heap.size, 0, none⟩ = some (.bool su) ∧ w'.cell? ⟨w.heap.size, 1, none⟩ = some (.slice Au nu cu) ∧ w'.cell? ⟨w.heap.size, 2, none⟩ = some (.bool zu) ∧ w'.cell? ⟨w.heap.size, 3, none⟩ = some (.slice Bu mu du) ∧ w'.cell? ⟨w.heap.size, 4, none⟩ = some (.bool sv) ∧ w'.cell? ⟨w.heap.size, 5, none⟩ = some (.slice Av nv cv) ∧ w'.cell? ⟨w.heap.size, 6, none⟩ = some (.bool zv) ∧ w'.cell? ⟨w.heap.size, 7, none⟩ = some (.slice Bv mv dv))
    (go_keep)
    (first
      | (go_at_call 47; apply Calls.withMm (w0 := w); (case K => with_reducible repeat (first | exact K0 | apply Mm.drew | apply Mm.drewN)); intro KX; (with_reducible refine (frac_cost_of su zu Au Bu nu cu mu du pu _ hnu hmu HPu).mono ?_); rintro e1 w1 ⟨rfl, hb1⟩; (with_reducible have K1 := KX.next hb1); obtain ⟨_, _, _, _, _, _, _, _⟩ := (K1.blk (mE 0 rfl)).c8; clear KX hb1)
      | (go_at_call 47; apply Calls.withMm (w0 := w); (case K => with_reducible repeat (first | exact K1 | apply Mm.drew | apply Mm.drewN)); intro KX; (with_reducible refine (frac_cost_of sv zv Av Bv nv cv mv dv pv _ hnv hmv HPv).mono ?_); rintro e2 w2 ⟨rfl, hb2⟩; (with_reducible have K2 := KX.next hb2); obtain ⟨_, _, _, _, _, _, _, _⟩ := (K2.blk (mE 0 rfl)).c8; clear KX hb2))
  all_goals
   go_wp2_with fail
   go_ret
   exact ⟨by rw [← HT.out]; rfl, K2.1⟩
theorem matrix_cost_any (sa za : Bool) (Aa Ba : Option Addr) (na ca ma da : Nat) (sb zb : Bool) (Ab Bb : Option Addr) (nb cb mb db : Nat) (sc zc : Bool) (Ac Bc : Option Addr) (nc cc mc dc : Nat) (sd zd : Bool) (Ad Bd : Option Addr) (nd cd md dd : Nat) (w : World) (hna : na ≤ 281474976710656) (hma : ma ≤ 281474976710656) (hnb : nb ≤ 281474976710656) (hmb : mb ≤ 281474976710656) (hnc : nc ≤ 281474976710656) (hmc : mc ≤ 281474976710656) (hnd : nd ≤ 281474976710656) (hmd : md ≤ 281474976710656) :
    Calls Tryz.prog 9 #[.agg #[.bool sa, .slice Aa na ca, .bool za, .slice Ba ma da, .bool sb, .slice Ab nb cb, .bool zb, .slice Bb mb db, .bool sc, .slice Ac nc cc, .bool zc, .slice Bc mc dc, .bool sd, .slice Ad nd cd, .bool zd, .slice Bd md dd]] w (RetV w (.int .i64 ((costFr na ma + costFr nb mb + costFr nc mc + costFr nd md : Nat) : Int))) := by
  have K0 := (Mm.nil w).var (g := w.heap.size) rfl [.bool sa, .slice Aa na ca, .bool za, .slice Ba ma da, .bool sb, .slice Ab nb cb, .bool zb, .slice Bb mb db, .bool sc, .slice Ac nc cc, .bool zc, .slice Bc mc dc, .bool sd, .slice Ad nd cd, .bool zd, .slice Bd md dd] 28
  have qa := cost_bound hna hma
  obtain ⟨pa, hpa⟩ : ∃ p, costFr na ma = p := ⟨_, rfl⟩
  rw [hpa] at qa
  have HPa := Lib.hid hpa
  have qb := cost_bound hnb hmb
  obtain ⟨pb, hpb⟩ : ∃ p, costFr nb mb = p := ⟨_, rfl⟩
  rw [hpb] at qb
  have HPb := Lib.hid hpb
  have qc := cost_bound hnc hmc
  obtain ⟨pc, hpc⟩ : ∃ p, costFr nc mc = p := ⟨_, rfl⟩
  rw [hpc] at qc
  have HPc := Lib.hid hpc
  have qd := cost_bound hnd hmd
  obtain ⟨pd, hpd⟩ : ∃ p, costFr nd md = p := ⟨_, rfl⟩
  rw [hpd] at qd
  have HPd := Lib.hid hpd
  rw [hpa, hpb, hpc, hpd]
  have hw1 : IntKind.i64.wrap ((pa : Int) + (pb : Int)) = (pa : Int) + (pb : Int) := IntWalk.i64_in _ (by omega)
  have hw2 : IntKind.i64.wrap ((pa : Int) + (pb : Int) + (pc : Int)) = (pa : Int) + (pb : Int) + (pc : Int) := IntWalk.i64_in _ (by omega)
  have hw3 : IntKind.i64.wrap ((pa : Int) + (pb : Int) + (pc : Int) + (pd : Int)) = (pa : Int) + (pb : Int) + (pc : Int) + (pd : Int) := IntWalk.i64_in _ (by omega)
  have HT : Hid ((pa : Int) + (pb : Int) + (pc : Int) + (pd : Int) = ((pa + pb + pc + pd : Nat) : Int)) := Lib.hid (by omega)
  clear hpa qa hpb qb hpc qc hpd qd
  go_enter Tryz.func9, Tryz.ntmps9
  go_wp2_with fail
  generalize w.alloc (.cells #[.bool sa, .slice Aa na ca, .bool za, .slice Ba ma da, .bool sb, .slice Ab nb cb, .bool zb, .slice Bb mb db, .bool sc, .slice Ac nc cc, .bool zc, .slice Bc mc dc, .bool sd, .slice Ad nd cd, .bool zd, .slice Bd md dd] 28) = w0 at K0 ⊢
  obtain ⟨_, _, _, _, _, _, _, _, _, _, _, _, _, _, _, _⟩ := (K0.blk (g := w.heap.size) (by repeat constructor)).c16
  go_region_held3 (fun w' => w'.cell? ⟨w.heap.size, 0, none⟩ = some (.bool sa) ∧ w'.cell? ⟨w.heap.size, 1, none⟩ = some (.slice Aa na ca) ∧ w'.cell? ⟨w.heap.size, 2, none⟩ = some (.bool za) ∧ w'.cell? ⟨w.heap.size, 3, none⟩ = some (.slice Ba ma da) ∧ w'.cell? ⟨w.heap.size, 4, none⟩ = some (.bool sb) ∧ w'.cell? ⟨w.heap.size, 5, none⟩ = some (.slice Ab nb cb) ∧ w'.cell? ⟨w.heap.size, 6, none⟩ = some (.bool zb) ∧ w'.cell? ⟨w.heap.size, 7, none⟩ = some (.slice Bb mb db) ∧ w'.cell? ⟨w.heap.size, 8, none⟩ = some (.bool sc) ∧ w'.cell? ⟨w.heap.size, 9, none⟩ = some (.slice Ac nc cc) ∧ w'.cell? ⟨w.heap.size, 10, none⟩ = some (.bool zc) ∧ w'.cell? ⟨w.heap.size, 11, none⟩ = some (.slice Bc mc dc) ∧ w'.cell? ⟨w.heap.size, 12, none⟩ = some (.bool sd) ∧ w'.cell? ⟨w.heap.size, 13, none⟩ = some (.slice Ad nd cd) ∧ w'.cell? ⟨w.heap.size, 14, none⟩ = some (.bool zd) ∧ w'.cell? ⟨w.heap.size, 15, none⟩ = some (.slice Bd md dd))
    (go_keep)
    (first
      | (go_at_call 47; apply Calls.withMm (w0 := w); (case K => with_reducible repeat (first | exact K0 | apply Mm.drew | apply Mm.drewN)); intro KX; (with_reducible refine (frac_cost_of sa za Aa Ba na ca ma da pa _ hna hma HPa).mono ?_); rintro e1 w1 ⟨rfl, hb1⟩; (with_reducible have K1 := KX.next hb1); obtain ⟨_, _, _, _, _, _, _, _, _, _, _, _, _, _, _, _⟩ := (K1.blk (mE 0 rfl)).c16; clear KX hb1)
      | (go_at_call 47; apply Calls.withMm (w0 := w); (case K => with_reducible repeat (first | exact K1 | apply Mm.drew | apply Mm.drewN)); intro KX; (with_reducible refine (frac_cost_of sb zb Ab Bb nb cb mb db pb _ hnb hmb HPb).mono ?_); rintro e2 w2 ⟨rfl, hb2⟩; (with_reducible have K2 := KX.next hb2); obtain ⟨_, _, _, _, _, _, _, _, _, _, _, _, _, _, _, _⟩ := (K2.blk (mE 0 rfl)).c16; clear KX hb2)
      | (go_at_call 47; apply Calls.withMm (w0 := w); (case K => with_reducible repeat (first | exact K2 | apply Mm.drew | apply Mm.drewN)); intro KX; (with_reducible refine (frac_cost_of sc zc Ac Bc nc cc mc dc pc _ hnc hmc HPc).mono ?_); rintro e3 w3 ⟨rfl, hb3⟩; (with_reducible have K3 := KX.next hb3); obtain ⟨_, _, _, _, _, _, _, _, _, _, _, _, _, _, _, _⟩ := (K3.blk (mE 0 rfl)).c16; clear KX hb3)
      | (go_at_call 47; apply Calls.withMm (w0 := w); (case K => with_reducible repeat (first | exact K3 | apply Mm.drew | apply Mm.drewN)); intro KX; (with_reducible refine (frac_cost_of sd zd Ad Bd nd cd md dd pd _ hnd hmd HPd).mono ?_); rintro e4 w4 ⟨rfl, hb4⟩; (with_reducible have K4 := KX.next hb4); obtain ⟨_, _, _, _, _, _, _, _, _, _, _, _, _, _, _, _⟩ := (K4.blk (mE 0 rfl)).c16; clear KX hb4))
  all_goals
   go_wp2_with fail
   go_ret
   exact ⟨by rw [← HT.out]; rfl, K4.1⟩
end Go.Proofs.YtgekmbfmfiikkaaGreatDoor
namespace Go.Proofs.YtgekmbfmfiikkaaGreatDoor
open Go.RowKit
theorem left_gauss_any (su : Bool) (Au : Option Addr) (nu cu : Nat) (lu : List Nat) (zu : Bool) (Bu : Option Addr) (mu du : Nat) (ku : List Nat) (sv : Bool) (Av : Option Addr) (nv cv : Nat) (lv : List Nat) (zv : Bool) (Bv : Option Addr) (mv dv : Nat) (kv : List Nat) (gu eu hu fu gv ev hv fv : Nat) (w : World) (Hu : LmE.at_ w ((su, Au, nu, cu, lu), (zu, Bu, mu, du, ku))) (Tu : Twl w gu nu eu lu) (Uu : Twl w hu mu fu ku) (Hv : LmE.at_ w ((sv, Av, nv, cv, lv), (zv, Bv, mv, dv, kv))) (Tv : Twl w gv nv ev lv) (Uv : Twl w hv mv fv kv) :
  Calls Tryz.prog 19 #[.agg #[.bool su, .slice (some ⟨gu, 0, none⟩) nu eu, .bool zu, .slice (some ⟨hu, 0, none⟩) mu fu, .bool sv, .slice (some ⟨gv, 0, none⟩) nv ev, .bool zv, .slice (some ⟨hv, 0, none⟩) mv fv], .agg #[.bool su, .slice Au nu cu, .bool zu, .slice Bu mu du, .bool sv, .slice Av nv cv, .bool zv, .slice Bv mv dv]] w (RetV w (.bool true)) := by
 have K0 := ((Mm.nil w).var (g := w.heap.size) rfl [.bool su, .slice (some ⟨gu, 0, none⟩) nu eu, .bool zu, .slice (some ⟨hu, 0, none⟩) mu fu, .bool sv, .slice (some ⟨gv, 0, none⟩) nv ev, .bool zv, .slice (some ⟨hv, 0, none⟩) mv fv] 30).var (g := w.heap.size + 1) (by simp) [.bool su, .slice Au nu cu, .bool zu, .slice Bu mu du, .bool sv, .slice Av nv cv, .bool zv, .slice Bv mv dv] 30
 have Hu0 := LmE.at_.below Hu K0.1
 have Tu0 := Twl.below Tu K0.1
 have Uu0 := Twl.below Uu K0.1
 have Hv0 := LmE.at_.below Hv K0.1
 have Tv0 := Twl.below Tv K0.1
 have Uv0 := Twl.below Uv K0.1
 clear Hu Tu Uu Hv Tv Uv
 go_enter Tryz.func19, Tryz.ntmps19
 go_wp2_with fail
 refine (left_frac_any su zu Au Bu nu cu mu du gu eu hu fu lu ku _ Hu0.1 Hu0.2.1 Tu0 Uu0 Hu0.2.2.1 Hu0.2.2.2).mono ?_
 rintro e1 w1 ⟨rfl, hB1⟩
 have K1 := K0.next hB1
 have Hv1 := LmE.at_.below Hv0 hB1
 have Tv1 := Twl.below Tv0 hB1
 have Uv1 := Twl.below Uv0 hB1
 obtain ⟨_, _, _, _, _, _, _, _⟩ := (K1.blk (mE 1 rfl)).c8
 obtain ⟨_, _, _, _, _, _, _, _⟩ := (K1.blk (mE 0 rfl)).c8
 clear hB1 K0
 go_wp2_with fail
 refine (left_frac_any sv zv Av Bv nv cv mv dv gv ev hv fv lv kv _ Hv1.1 Hv1.2.1 Tv1 Uv1 Hv1.2.2.1 Hv1.2.2.2).mono ?_
 rintro e2 w2 ⟨rfl, hB2⟩
 have K2 := K1.next hB2
 obtain ⟨_, _, _, _, _, _, _, _⟩ := (K2.blk (mE 1 rfl)).c8
 obtain ⟨_, _, _, _, _, _, _, _⟩ := (K2.blk (mE 0 rfl)).c8
 clear hB2 K1
 go_wp2_with fail
 go_ret
 exact ⟨rfl, K2.1⟩
theorem left_matrix_any (sa : Bool) (Aa : Option Addr) (na ca : Nat) (la : List Nat) (za : Bool) (Ba : Option Addr) (ma da : Nat) (ka : List Nat) (sb : Bool) (Ab : Option Addr) (nb cb : Nat) (lb : List Nat) (zb : Bool) (Bb : Option Addr) (mb db : Nat) (kb : List Nat) (sc : Bool) (Ac : Option Addr) (nc cc : Nat) (lc : List Nat) (zc : Bool) (Bc : Option Addr) (mc dc : Nat) (kc : List Nat) (sd : Bool) (Ad : Option Addr) (nd cd : Nat) (ld : List Nat) (zd : Bool) (Bd : Option Addr) (md dd : Nat) (kd : List Nat) (ga ea ha fa gb eb hb fb gc ec hc fc gd ed hd fd : Nat) (w : World) (Ha : LmE.at_ w ((sa, Aa, na, ca, la), (za, Ba, ma, da, ka))) (Ta : Twl w ga na ea la) (Ua : Twl w ha ma fa ka) (Hb : LmE.at_ w ((sb, Ab, nb, cb, lb), (zb, Bb, mb, db, kb))) (Tb : Twl w gb nb eb lb) (Ub : Twl w hb mb fb kb) (Hc : LmE.at_ w ((sc, Ac, nc, cc, lc), (zc, Bc, mc, dc, kc))) (Tc : Twl w gc nc ec lc) (Uc : Twl w hc mc fc kc) (Hd : LmE.at_ w ((sd, Ad, nd, cd, ld), (zd, Bd, md, dd, kd))) (Td : Twl w gd nd ed ld) (Ud : Twl w hd md fd kd) :
  Calls Tryz.prog 18 #[.agg #[.bool sa, .slice (some ⟨ga, 0, none⟩) na ea, .bool za, .slice (some ⟨ha, 0, none⟩) ma fa, .bool sb, .slice (some ⟨gb, 0, none⟩) nb eb, .bool zb, .slice (some ⟨hb, 0, none⟩) mb fb, .bool sc, .slice (some ⟨gc, 0, none⟩) nc ec, .bool zc, .slice (some ⟨hc, 0, none⟩) mc fc, .bool sd, .slice (some ⟨gd, 0, none⟩) nd ed, .bool zd, .slice (some ⟨hd, 0, none⟩) md fd], .agg #[.bool sa, .slice Aa na ca, .bool za, .slice Ba ma da, .bool sb, .slice Ab nb cb, .bool zb, .slice Bb mb db, .bool sc, .slice Ac nc cc, .bool zc, .slice Bc mc dc, .bool sd, .slice Ad nd cd, .bool zd, .slice Bd md dd]] w (RetV w (.bool true)) := by
 have K0 := ((Mm.nil w).var (g := w.heap.size) rfl [.bool sa, .slice (some ⟨ga, 0, none⟩) na ea, .bool za, .slice (some ⟨ha, 0, none⟩) ma fa, .bool sb, .slice (some ⟨gb, 0, none⟩) nb eb, .bool zb, .slice (some ⟨hb, 0, none⟩) mb fb, .bool sc, .slice (some ⟨gc, 0, none⟩) nc ec, .bool zc, .slice (some ⟨hc, 0, none⟩) mc fc, .bool sd, .slice (some ⟨gd, 0, none⟩) nd ed, .bool zd, .slice (some ⟨hd, 0, none⟩) md fd] 28).var (g := w.heap.size + 1) (by simp) [.bool sa, .slice Aa na ca, .bool za, .slice Ba ma da, .bool sb, .slice Ab nb cb, .bool zb, .slice Bb mb db, .bool sc, .slice Ac nc cc, .bool zc, .slice Bc mc dc, .bool sd, .slice Ad nd cd, .bool zd, .slice Bd md dd] 28
 have Ha0 := LmE.at_.below Ha K0.1
 have Ta0 := Twl.below Ta K0.1
 have Ua0 := Twl.below Ua K0.1
 have Hb0 := LmE.at_.below Hb K0.1
 have Tb0 := Twl.below Tb K0.1
 have Ub0 := Twl.below Ub K0.1
 have Hc0 := LmE.at_.below Hc K0.1
 have Tc0 := Twl.below Tc K0.1
 have Uc0 := Twl.below Uc K0.1
 have Hd0 := LmE.at_.below Hd K0.1
 have Td0 := Twl.below Td K0.1
 have Ud0 := Twl.below Ud K0.1
 clear Ha Ta Ua Hb Tb Ub Hc Tc Uc Hd Td Ud
 go_enter Tryz.func18, Tryz.ntmps18
 go_wp2_with fail
 refine (left_frac_any sa za Aa Ba na ca ma da ga ea ha fa la ka _ Ha0.1 Ha0.2.1 Ta0 Ua0 Ha0.2.2.1 Ha0.2.2.2).mono ?_
 rintro e1 w1 ⟨rfl, hB1⟩
 have K1 := K0.next hB1
 have Hb1 := LmE.at_.below Hb0 hB1
 have Tb1 := Twl.below Tb0 hB1
 have Ub1 := Twl.below Ub0 hB1
 have Hc1 := LmE.at_.below Hc0 hB1
 have Tc1 := Twl.below Tc0 hB1
 have Uc1 := Twl.below Uc0 hB1
 have Hd1 := LmE.at_.below Hd0 hB1
 have Td1 := Twl.below Td0 hB1
 have Ud1 := Twl.below Ud0 hB1
 obtain ⟨_, _, _, _, _, _, _, _, _, _, _, _, _, _, _, _⟩ := (K1.blk (mE 1 rfl)).c16
 obtain ⟨_, _, _, _, _, _, _, _, _, _, _, _, _, _, _, _⟩ := (K1.blk (mE 0 rfl)).c16
 clear hB1 K0
 go_wp2_with fail
 refine (left_frac_any sb zb Ab Bb nb cb mb db gb eb hb fb lb kb _ Hb1.1 Hb1.2.1 Tb1 Ub1 Hb1.2.2.1 Hb1.2.2.2).mono ?_
 rintro e2 w2 ⟨rfl, hB2⟩
 have K2 := K1.next hB2
 have Hc2 := LmE.at_.below Hc1 hB2
 have Tc2 := Twl.below Tc1 hB2
 have Uc2 := Twl.below Uc1 hB2
 have Hd2 := LmE.at_.below Hd1 hB2
 have Td2 := Twl.below Td1 hB2
 have Ud2 := Twl.below Ud1 hB2
 obtain ⟨_, _, _, _, _, _, _, _, _, _, _, _, _, _, _, _⟩ := (K2.blk (mE 1 rfl)).c16
 obtain ⟨_, _, _, _, _, _, _, _, _, _, _, _, _, _, _, _⟩ := (K2.blk (mE 0 rfl)).c16
 clear hB2 K1
 go_wp2_with fail
 refine (left_frac_any sc zc Ac Bc nc cc mc dc gc ec hc fc lc kc _ Hc2.1 Hc2.2.1 Tc2 Uc2 Hc2.2.2.1 Hc2.2.2.2).mono ?_
 rintro e3 w3 ⟨rfl, hB3⟩
 have K3 := K2.next hB3
 have Hd3 := LmE.at_.below Hd2 hB3
 have Td3 := Twl.below Td2 hB3
 have Ud3 := Twl.below Ud2 hB3
 obtain ⟨_, _, _, _, _, _, _, _, _, _, _, _, _, _, _, _⟩ := (K3.blk (mE 1 rfl)).c16
 obtain ⟨_, _, _, _, _, _, _, _, _, _, _, _, _, _, _, _⟩ := (K3.blk (mE 0 rfl)).c16
 clear hB3 K2
 go_wp2_with fail
 refine (left_frac_any sd zd Ad Bd nd cd md dd gd ed hd fd ld kd _ Hd3.1 Hd3.2.1 Td3 Ud3 Hd3.2.2.1 Hd3.2.2.2).mono ?_
 rintro e4 w4 ⟨rfl, hB4⟩
 have K4 := K3.next hB4
 obtain ⟨_, _, _, _, _, _, _, _, _, _, _, _, _, _, _, _⟩ := (K4.blk (mE 1 rfl)).c16
 obtain ⟨_, _, _, _, _, _, _, _, _, _, _, _, _, _, _, _⟩ := (K4.blk (mE 0 rfl)).c16
 clear hB4 K3
 go_wp2_with fail
 go_ret
 exact ⟨rfl, K4.1⟩
end Go.Proofs.YtgekmbfmfiikkaaGreatDoor
namespace Go.Proofs.YtgekmbfmfiikkaaGreatDoor
open Go.RowKit
def nats (l : List Nat) : List Value := l.map fun (x : Nat) => Value.int .i64 (x : Int)
theorem nats_get {l : List Nat} {k : Nat} {u : Value} (h : (nats l)[k]? = some u) : ∃ hk : k < l.length, u = .int .i64 (l[k] : Nat) := by
 unfold nats at h
 rw [List.getElem?_map] at h
 rcases Nat.lt_or_ge k l.length with hk | hk
 ·rw [List.getElem?_eq_getElem hk] at h
  exact ⟨hk, by simpa using h.symm⟩
 ·rw [List.getElem?_eq_none hk] at h; cases h
theorem sum_take_succ (l : List Nat) (k : Nat) (h : k < l.length) : (l.take (k + 1)).sum = (l.take k).sum + l[k] := by
 rw [List.take_succ_eq_append_getElem h, List.sum_append]
 simp
theorem sum_take_le (l : List Nat) (k : Nat) : (l.take k).sum ≤ l.sum := by
 have h : l.sum = (l.take k).sum + (l.drop k).sum := by rw [← List.sum_append, List.take_append_drop]
 omega
theorem beyond_any (A : Option Addr) (n c : Nat) (l : List Nat) (w : World) (h : Reads w w.heap.size A n (nats l)) (hn : n ≤ 1000000) (hl : l.sum ≤ 9223372036854775807) :
  Calls Tryz.prog 8 #[.slice A n c] w fun e w' => e = .returned (.bool (decide (1048576 < l.sum))) ∧ w = w' := by
 have hlen : l.length = n := by have := h.1; unfold nats at this; simpa using this
 have HS := Lib.hid (sum_take_le l)
 have HL := Lib.hid hl
 have HLEN := Lib.hid hlen
 clear hl hlen
 go_enter Tryz.func8, Tryz.ntmps8
 go_wp2_with fail
 go_loopw [3, 4] (fun s i wr => ∃ k : Nat, k ≤ n ∧ s = .int .i64 (((l.take k).sum : Nat) : Int) ∧ (l.take k).sum ≤ 1048576 ∧ i = .int .i64 (k : Int) ∧ wr = w) (fun _ i _ => n - (intOf i).toNat)
 case atStart => exact ⟨0, Nat.zero_le _, rfl, by simp, rfl, rfl⟩
 case round =>
  obtain ⟨k, hk, rfl, hs, rfl, rfl⟩ := hrel
  by_cases hlt : k < n
  ·obtain ⟨ad, v, rfl, hb, hv, hc⟩ := h.at_ hlt
   obtain ⟨hkl, rfl⟩ := nats_get hv
   have hx : (l.take (k + 1)).sum ≤ 9223372036854775807 := Nat.le_trans (sum_take_le l _) HL.out
   have hsum := sum_take_succ l k hkl
   have hle := HS.out (k + 1)
   obtain ⟨x, hxx⟩ : ∃ x, l[k] = x := ⟨_, rfl⟩
   obtain ⟨s, hss⟩ : ∃ s, (l.take k).sum = s := ⟨_, rfl⟩
   rw [hsum, hxx, hss] at hx
   rw [hxx] at hc hsum
   rw [hss] at hs hsum
   rw [hss]
   have HSUM := Lib.hid hsum
   have hlt' : (k : Int) < (n : Int) := by omega
   have hk0 : (0 : Int) ≤ (k : Int) := Int.natCast_nonneg _
   have HLE := Lib.hid hle
   clear hv hsum hss hxx hle
   by_cases hbig : 1048576 < s + x
   ·have hbig' : (1048576 : Int) < (s : Int) + (x : Int) := by omega
    have E : Hid (decide (1048576 < l.sum) = true) := Lib.hid (decide_eq_true (by have := HLE.out; have := HSUM.out; omega))
    go_wp2_with fail
    go_ret
    exact ⟨by rw [E.out]; rfl, rfl⟩
   ·have hbig' : ¬ (1048576 : Int) < (s : Int) + (x : Int) := by omega
    go_wp2_with fail
    go_roundw
    case rel => exact ⟨k + 1, hlt, by rw [HSUM.out]; go_num, by rw [HSUM.out]; omega, by go_num, trivial⟩
    case measure => simp [intOf]; omega
  ·obtain rfl : k = n := by omega
   have E : Hid (decide (1048576 < l.sum) = false) := Lib.hid (decide_eq_false (by rw [List.take_of_length_le (by rw [HLEN.out]; exact Nat.le_refl _)] at hs; omega))
   go_wp2_with fail
   go_ret
   exact ⟨by rw [E.out]; rfl, rfl⟩
theorem nats_new (w : World) (t : TypeId) (l : List Nat) : Reads (w.alloc (.cells (nats l).toArray t)) (w.alloc (.cells (nats l).toArray t)).heap.size (some ⟨w.heap.size, 0, none⟩) l.length (nats l) := by
 have h := reads_new w t (nats l)
 have e : (nats l).length = l.length := by unfold nats; simp
 rw [e] at h
 exact h
end Go.Proofs.YtgekmbfmfiikkaaGreatDoor
