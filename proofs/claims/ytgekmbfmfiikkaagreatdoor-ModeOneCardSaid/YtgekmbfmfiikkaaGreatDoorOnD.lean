/-
  The disc of a cavity whose depth is one and whose middle is nought.
-/
import Derived.Test.YtgekmbfmfiikkaaGreatDoorOnC
import Derived.Test.YtgekmbfmfiikkaaGreatDoorTzF
import Derived.Test.YtgekmbfmfiikkaaGreatDoorBey
import Derived.Test.YtgekmbfmfiikkaaGreatDoorLst
namespace Go.Proofs.YtgekmbfmfiikkaaGreatDoor
open Go.RowKit
@[go_sem] theorem run_store_cxo {P : Program} {w : World} {a : Addr} {m : Mode} (k : FloatKind) (x y : Nat) : (store a (.complex k x y) m).run P w = stored P w a (.complex k x y) m := run_store P w a _ m rfl
set_option maxRecDepth 100000 in
set_option maxHeartbeats 6400000 in
theorem disc1_one (sv : Bool) (Av : Option Addr) (nv cv : Nat) (zv : Bool) (Bv : Option Addr) (mv dv : Nat) (sr : Bool) (Ar : Option Addr) (nr cr : Nat) (zr : Bool) (Br : Option Addr) (mr dr : Nat) (w : World) (Iv : IsInt w sv Av nv cv 1) (Jv : IsInt w zv Bv mv dv 1) (Ir : IsInt w sr Ar nr cr 0) (Jr : IsInt w zr Br mr dr 1) (hT : Tab w) :
  Calls Tryz.prog 242 #[.agg #[.bool sv, .slice Av nv cv, .bool zv, .slice Bv mv dv], .agg #[.bool sr, .slice Ar nr cr, .bool zr, .slice Br mr dr]] w (RetV w (.tuple #[.agg #[.complex .f64 0 fOne, .float .f64 0], .int .i64 0])) := by
 have K0 := (((((((Mm.nil w).int Jr).int Ir).int Jv).int Iv).var (g := w.heap.size) rfl [.bool sv, .slice Av nv cv, .bool zv, .slice Bv mv dv] 26).var (g := w.heap.size + 1) (by simp) [.bool sr, .slice Ar nr cr, .bool zr, .slice Br mr dr] 26).var (g := w.heap.size + 1 + 1) (by simp) [.complex .f64 0 0, .float .f64 0] 131
 have HT := Lib.hid hT
 have X0 := Lib.hid (fun (W : World) (s : Bool) (A : Option Addr) (n c : Nat) (h : IsInt W s A n c 0) => (show IsInt W s A n c (0 : Rat).num from h))
 have X1 := Lib.hid (fun (W : World) (s : Bool) (A : Option Addr) (n c : Nat) (h : IsInt W s A n c 1) => (show IsInt W s A n c (((0 : Rat).den : Nat) : Int) from h))
 have XS : Hid ((0 : Rat) - 0 = 0) := Lib.hid (Rat.sub_self)
 have FN := Lib.hid (fr_nought (v := 0) (by decide +kernel))
 clear Iv Jv Ir Jr hT
 have g01 : ¬ w.heap.size = w.heap.size + 1 := by omega
 have g02 : ¬ w.heap.size = w.heap.size + 1 + 1 := by omega
 have g10 : ¬ w.heap.size + 1 = w.heap.size := by omega
 have g12 : ¬ w.heap.size + 1 = w.heap.size + 1 + 1 := by omega
 have g20 : ¬ w.heap.size + 1 + 1 = w.heap.size := by omega
 have g21 : ¬ w.heap.size + 1 + 1 = w.heap.size + 1 := by omega
 go_enter Tryz.func242, Tryz.ntmps242
 go_upto_region 1 with (fail)
 generalize ((w.alloc (.cells #[.bool sv, .slice Av nv cv, .bool zv, .slice Bv mv dv] 26)).alloc (.cells #[.bool sr, .slice Ar nr cr, .bool zr, .slice Br mr dr] 26)).alloc (.cells #[.complex .f64 0 0, .float .f64 0] 131) = w0 at K0 ⊢
 obtain ⟨⟨q0, q1, q2, q3⟩, ⟨qf0, qf1, qf2, qf3⟩, _⟩ := (K0.blk (mE 1 rfl)).four
 go_wp2_with fail
 refine (nearest_nought sr Ar nr cr zr Br mr dr _ (K0.at_ (mE 2 rfl))).mono ?_
 rintro e1 w1 ⟨rfl, hb⟩
 have K1 := K0.next hb
 clear K0 hb q0 q1 q2 q3 qf0 qf1 qf2 qf3
 obtain ⟨⟨q0, q1, q2, q3⟩, ⟨qf0, qf1, qf2, qf3⟩, _⟩ := (K1.blk (mE 2 rfl)).four
 go_wp2_with fail
 refine (edge_one sv zv Av Bv nv cv mv dv _ (K1.at_ (mE 0 rfl)) (K1.at_ (mE 1 rfl))).mono ?_
 rintro e2 w2 ⟨rfl, hb⟩
 have K2 := K1.next hb
 clear K1 hb q0 q1 q2 q3 qf0 qf1 qf2 qf3
 go_wp2_with fail
 refine (span_root_one _).mono ?_
 rintro e3 w3 ⟨rfl, hb⟩
 have K4 := (K2.next hb).var (g := w3.heap.size) rfl [.float .f64 fOne, .float .f64 fOne] 273
 have z3 : w.heap.size + 1 + 1 < w3.heap.size := ((K2.next hb).blk (mE 0 rfl)).1
 clear K2 hb
 go_upto_region 4 with (fail)
 generalize w3.heap.size = gs at K4 z3 ⊢
 generalize w3.alloc (.cells #[.float .f64 fOne, .float .f64 fOne] 273) = u3 at K4 ⊢
 go_upto_region 6 with (fail)
 have sz4 : gs < u3.heap.size := (K4.blk (mE 0 rfl)).1
 go_cut [12] from 43 to 47 (fun s12 wx => ∃ (g12 : Nat) (so : Bool) (Ao : Option Addr) (no co : Nat) (zo : Bool) (Bo : Option Addr) (mo po : Nat), s12 = .pointer (some ⟨g12, 0, none⟩) ∧ gs < g12 ∧
  Mm w [(g12, [.bool so, .slice Ao no co, .bool zo, .slice Bo mo po]), (gs, [.float .f64 fOne, .float .f64 fOne]), (w.heap.size + 1 + 1, [.complex .f64 0 0, .float .f64 0])] [(so, Ao, no, co, 0), (zo, Bo, mo, po, 1)] wx)
 case first =>
  obtain ⟨⟨q0, q1, q2, q3⟩, ⟨qf0, qf1, qf2, qf3⟩, _⟩ := (K4.blk (mE 2 rfl)).four
  go_region_held3 (fun w' => w'.cell? ⟨w.heap.size + 1, 0, none⟩ = some (.bool sr) ∧ w'.cell? ⟨w.heap.size + 1, 1, none⟩ = some (.slice Ar nr cr) ∧ w'.cell? ⟨w.heap.size + 1, 2, none⟩ = some (.bool zr) ∧ w'.cell? ⟨w.heap.size + 1, 3, none⟩ = some (.slice Br mr dr))
   (go_keep)
   (first
    | (go_at_call 139; apply Calls.withMm (w0 := w); (case K => with_reducible repeat (first | exact K5 | apply Mm.drew | apply Mm.drewN | apply Mm.varz)); intro KX; (try simp only [hszA] at KX); (refine (rat_minus_any sr zr Ar Br nr cr mr dr st zt At Bt nt ct mt dt 0 0 0 1 1 _ (X0.out _ _ _ _ _ (KX.at_ (z := 0) (mE 4 rfl))) (X1.out _ _ _ _ _ (KX.at_ (z := 1) (mE 5 rfl))) (X0.out _ _ _ _ _ (KX.at_ (z := 0) (mE 0 rfl))) (X1.out _ _ _ _ _ (KX.at_ (z := ((1 : Nat) : Int)) (mE 1 rfl))) Sz.zero Sz.zero (by decide) XS).mono ?_); rintro e6 w6 ⟨so, Ao, no, co, zo, Bo, mo, po, rfl, I, J, hb⟩; have K6 := ((KX.next hb).int J).int I; clear KX I J hb; obtain ⟨⟨x0, x1, x2, x3⟩, ⟨xf0, xf1, xf2, xf3⟩, _⟩ := (K6.blk (g := w.heap.size + 1) (by first | exact mE 2 rfl | exact mE 3 rfl)).four; have sz6 : gs < w6.heap.size := (K6.blk (g := gs) (by first | exact mE 0 rfl | exact mE 1 rfl)).1; (try (have V6u3 := K6.blk (g := u3.heap.size) (vs := [.bool false, .slice none 0 0, .bool false, .slice none 0 0]) (by with_reducible exact List.mem_cons_self); obtain ⟨⟨_, _, _, _⟩, ⟨_, _, _, _⟩, _⟩ := V6u3.four; obtain ⟨fa6u30, fb6u30⟩ := nq (a := w.heap.size + 1) (b := u3.heap.size) (by omega); obtain ⟨fa6u31, fb6u31⟩ := nq (a := gs) (b := u3.heap.size) (by omega))); (try (have V6w5 := K6.blk (g := w5.heap.size) (vs := [.bool false, .slice none 0 0, .bool false, .slice none 0 0]) (by with_reducible exact List.mem_cons_self); obtain ⟨⟨_, _, _, _⟩, ⟨_, _, _, _⟩, _⟩ := V6w5.four; obtain ⟨fa6w50, fb6w50⟩ := nq (a := w.heap.size + 1) (b := w5.heap.size) (by omega); obtain ⟨fa6w51, fb6w51⟩ := nq (a := gs) (b := w5.heap.size) (by omega))); skip)
    | (go_at_call 246; apply Calls.withMm (w0 := w); (case K => with_reducible repeat (first | exact K4 | apply Mm.drew | apply Mm.drewN | apply Mm.varz)); intro KX; (try simp only [hszA] at KX); (refine (rat_float_any 0 (by decide) _ (HT.out.next KX.1)).mono ?_); rintro e5 w5 ⟨st, At, nt, ct, zt, Bt, mt, dt, rfl, I, J, hb⟩; rw [FN.out.1] at I; rw [FN.out.2] at J; have K5 := ((KX.next hb).int J).int I; clear KX I J hb; obtain ⟨⟨y0, y1, y2, y3⟩, ⟨yf0, yf1, yf2, yf3⟩, _⟩ := (K5.blk (g := w.heap.size + 1) (by first | exact mE 2 rfl | exact mE 3 rfl)).four; have sz5 : gs < w5.heap.size := (K5.blk (g := gs) (by first | exact mE 0 rfl | exact mE 1 rfl)).1; (try (have V5u3 := K5.blk (g := u3.heap.size) (vs := [.bool false, .slice none 0 0, .bool false, .slice none 0 0]) (by with_reducible exact List.mem_cons_self); obtain ⟨⟨_, _, _, _⟩, ⟨_, _, _, _⟩, _⟩ := V5u3.four; obtain ⟨fa5u30, fb5u30⟩ := nq (a := w.heap.size + 1) (b := u3.heap.size) (by omega); obtain ⟨fa5u31, fb5u31⟩ := nq (a := gs) (b := u3.heap.size) (by omega))); skip)
    | fail)
  all_goals (go_wp2_with fail)
  all_goals go_meet
  all_goals (first
   | with_reducible exact ⟨w6.heap.size, so, Ao, no, co, zo, Bo, mo, po, rfl, sz6, (K6.var (g := w6.heap.size) rfl [.bool so, .slice Ao no co, .bool zo, .slice Bo mo po] 26).pick (L' := [(w6.heap.size, [.bool so, .slice Ao no co, .bool zo, .slice Bo mo po]), (gs, [.float .f64 fOne, .float .f64 fOne]), (w.heap.size + 1 + 1, [.complex .f64 0 0, .float .f64 0])]) (l' := [(so, Ao, no, co, 0), (zo, Bo, mo, po, 1)]) (all_cons (mE 0 rfl) (all_cons (mE 1 rfl) (all_cons (mE 2 rfl) all_nil))) (all_cons (mE 0 rfl) (all_cons (mE 1 rfl) all_nil))⟩
   | with_reducible exact ⟨w5.heap.size, so, Ao, no, co, zo, Bo, mo, po, rfl, (by omega), (K6.pick (L' := [(w5.heap.size, [.bool false, .slice none 0 0, .bool false, .slice none 0 0]), (gs, [.float .f64 fOne, .float .f64 fOne]), (w.heap.size + 1 + 1, [.complex .f64 0 0, .float .f64 0])]) (l' := [(so, Ao, no, co, 0), (zo, Bo, mo, po, 1)]) (all_cons (mE 0 rfl) (all_cons (mE 1 rfl) (all_cons (mE 2 rfl) all_nil))) (all_cons (mE 0 rfl) (all_cons (mE 1 rfl) all_nil))).set4 (all_cons (show w5.heap.size ≠ gs by omega) (all_cons (show w5.heap.size ≠ w.heap.size + 1 + 1 by omega) all_nil)) so Ao no co zo Bo mo po⟩
   | with_reducible exact ⟨u3.heap.size, so, Ao, no, co, zo, Bo, mo, po, rfl, (by omega), (K6.pick (L' := [(u3.heap.size, [.bool false, .slice none 0 0, .bool false, .slice none 0 0]), (gs, [.float .f64 fOne, .float .f64 fOne]), (w.heap.size + 1 + 1, [.complex .f64 0 0, .float .f64 0])]) (l' := [(so, Ao, no, co, 0), (zo, Bo, mo, po, 1)]) (all_cons (mE 0 rfl) (all_cons (mE 1 rfl) (all_cons (mE 2 rfl) all_nil))) (all_cons (mE 0 rfl) (all_cons (mE 1 rfl) all_nil))).set4 (all_cons (show u3.heap.size ≠ gs by omega) (all_cons (show u3.heap.size ≠ w.heap.size + 1 + 1 by omega) all_nil)) so Ao no co zo Bo mo po⟩)
 case rest =>
  obtain ⟨g12, so, Ao, no, co, zo, Bo, mo, po, rfl, hg12, KC⟩ := hcut
  clear K4
  rename World => wc
  obtain rfl : so = false := by have := isInt_neg (KC.at_ (neg := so) (A := Ao) (n := no) (c := co) (z := 0) (mE 0 rfl)); rw [this]; rfl
  have n1 : ¬ g12 = gs := by omega
  have n2 : ¬ gs = g12 := by omega
  have n3 : ¬ g12 = w.heap.size + 1 + 1 := by omega
  have n4 : ¬ w.heap.size + 1 + 1 = g12 := by omega
  have n5 : ¬ gs = w.heap.size + 1 + 1 := by omega
  have n6 : ¬ w.heap.size + 1 + 1 = gs := by omega
  go_upto_region 7 with (fail)
  obtain ⟨⟨x0, x1, x2, x3⟩, ⟨xf0, xf1, xf2, xf3⟩, _⟩ := (KC.blk (mE 0 rfl)).four
  go_upto_region 8 with (fail)
  have K8 : Mm w [(g12, [.bool false, .slice Ao no co, .bool zo, .slice Bo mo po]), (gs, [.float .f64 fOne, .float .f64 fOne]), (w.heap.size + 1 + 1, [.complex .f64 0 0, .float .f64 0])] [(false, Ao, no, co, 0), (zo, Bo, mo, po, 1)] (wc.setCell ⟨g12, 0, none⟩ (.bool false)) := KC.set (all_cons (show g12 ≠ gs by omega) (all_cons (show g12 ≠ w.heap.size + 1 + 1 by omega) all_nil)) (j := 0) (.bool false) (.bool false) rfl (by simp)
  clear KC x0 x1 x2 x3 xf0 xf1 xf2 xf3
  generalize wc.setCell ⟨g12, 0, none⟩ (.bool false) = w8 at K8 ⊢
  obtain ⟨⟨x0, x1, x2, x3⟩, ⟨xf0, xf1, xf2, xf3⟩, _⟩ := (K8.blk (mE 0 rfl)).four
  go_wp2_with fail
  refine (edge_nought false zo Ao Bo no co mo po _ (K8.at_ (mE 0 rfl)) (K8.at_ (mE 1 rfl))).mono ?_
  rintro e9 w9 ⟨rfl, hb⟩
  have K9 := K8.next hb
  clear K8 hb x0 x1 x2 x3 xf0 xf1 xf2 xf3
  obtain ⟨y0, y1, yf0, yf1, _⟩ := (K9.blk (mE 1 rfl)).two
  go_wp2_with fail
  refine (sub_one_one _).mono ?_
  rintro e10 w10 ⟨rfl, hb⟩
  have K10 := K9.next hb
  clear K9 hb y0 y1 yf0 yf1
  go_wp2_with fail
  refine (cabs_nought _).mono ?_
  rintro e11 w11 ⟨rfl, hb⟩
  have K11 := K10.next hb
  clear K10 hb
  obtain ⟨y0, y1, yf0, yf1, _⟩ := (K11.blk (mE 1 rfl)).two
  obtain ⟨z0, z1, zf0, zf1, _⟩ := (K11.blk (mE 2 rfl)).two
  go_wp2_with fail
  exact bodyPost_ret (v := .tuple #[.agg #[.complex .f64 0 fOne, .float .f64 0], .int .i64 0]) (by simp [results, Tryz.results242, go_sem, z0, z1]) rfl ⟨rfl, (((K11.pick (L' := [(w.heap.size + 1 + 1, [.complex .f64 0 0, .float .f64 0])]) (l' := []) (by simp) (by simp)).set (by simp) (j := 0) (.complex .f64 0 0) (.complex .f64 0 fOne) rfl (by simp)).set (by simp) (j := 1) (.float .f64 0) (.float .f64 0) rfl (by simp)).1⟩
end Go.Proofs.YtgekmbfmfiikkaaGreatDoor
