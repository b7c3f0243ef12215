/-
  Beams: sizes and curves, in memory of their own, of any beam.
-/
import Derived.Test.YtmmplomkginadaaGreatDoorOwI
namespace Go.Proofs.YtmmplomkginadaaGreatDoor
open Go.RowKit

set_option maxRecDepth 100000 in
set_option maxHeartbeats 6400000 in
theorem owb_asked_size_ok (su : Bool) (Au : Option Addr) (nu cu : Nat) (lu : List Nat) (zu : Bool) (Bu : Option Addr) (mu du : Nat) (ku : List Nat) (xu : Rat) (sv : Bool) (Av : Option Addr) (nv cv : Nat) (lv : List Nat) (zv : Bool) (Bv : Option Addr) (mv dv : Nat) (kv : List Nat) (xv : Rat) (M : Nat) (r : Rat) (w : World) (ou : OkF w ((su, Au, nu, cu, lu), (zu, Bu, mu, du, ku)) xu) (yu : Sz xu M) (ov : OkF w ((sv, Av, nv, cv, lv), (zv, Bv, mv, dv, kv)) xv) (yv : Sz xv M) (hM : M ≤ 2048) (hv : 0 < xv) (h0 : xv ≠ 0) (hr : Hid ((((xu * xu) + (xv * xv)) / xv) = r)) (hs : Sz r 2048) :
    Calls Tryz.prog 132 #[.agg #[.bool su, .slice Au nu cu, .bool zu, .slice Bu mu du, .bool sv, .slice Av nv cv, .bool zv, .slice Bv mv dv], .func (.func 133) #[] #[]] w (RetF2 w r.num (r.den : Int) 0) := by
  have K0 := ((Mo.nil w).var (g := w.heap.size) rfl [.bool su, .slice Au nu cu, .bool zu, .slice Bu mu du, .bool sv, .slice Av nv cv, .bool zv, .slice Bv mv dv] 30).var (g := w.heap.size + 1) (by simp) [.bool false, .slice none 0 0, .bool false, .slice none 0 0] 26
  have HC := Lib.hid (chkBm_ok ou ov hv)
  have H0 := Lib.hid h0
  have HS := Lib.hid hs
  have SU := Lib.hid yu
  have SV := Lib.hid yv
  have NS : Hid (Sz ((xu * xu) + (xv * xv)) (4 * M + 1)) := Lib.hid ((Sz.add (Sz.mul yu yu) (Sz.mul yv yv)).mono (by omega))
  replace ou := ou.next K0.1
  replace ov := ov.next K0.1
  have g01 : ¬ w.heap.size = w.heap.size + 1 := by omega
  have g10 : ¬ w.heap.size + 1 = w.heap.size := by omega
  clear hv h0 hs yu yv
  go_enter Tryz.func132, Tryz.ntmps132
  go_upto_region 1 with (fail)
  generalize (w.alloc (.cells #[.bool su, .slice Au nu cu, .bool zu, .slice Bu mu du, .bool sv, .slice Av nv cv, .bool zv, .slice Bv mv dv] 30)).alloc (.cells #[.bool false, .slice none 0 0, .bool false, .slice none 0 0] 26) = w0 at K0 ou ov ⊢
  obtain ⟨q0, q1, q2, q3, q4, q5, q6, q7⟩ := (K0.blk (g := w.heap.size) (vs := [.bool su, .slice Au nu cu, .bool zu, .slice Bu mu du, .bool sv, .slice Av nv cv, .bool zv, .slice Bv mv dv]) (by simp)).c8
  go_wp2_with fail
  refine (beam_check_any su Au nu cu lu zu Bu mu du ku sv Av nv cv lv zv Bv mv dv kv _ ou.1 ov.1).mono ?_
  rintro e4 w4 ⟨rfl, hb4⟩
  rw [HC.out]
  have K1 := K0.next hb4
  replace ou := ou.next hb4
  replace ov := ov.next hb4
  clear K0 hb4 q0 q1 q2 q3 q4 q5 q6 q7
  replace K1 := (((K1.int ov.ints.2.1).int ov.ints.1).int ou.ints.2.1).int ou.ints.1
  clear ou ov
  obtain ⟨q0, q1, q2, q3, q4, q5, q6, q7⟩ := (K1.blk (g := w.heap.size) (vs := [.bool su, .slice Au nu cu, .bool zu, .slice Bu mu du, .bool sv, .slice Av nv cv, .bool zv, .slice Bv mv dv]) (by simp)).c8
  have sz4 : w.heap.size + 1 < w4.heap.size := (K1.blk (g := w.heap.size + 1) (vs := [.bool false, .slice none 0 0, .bool false, .slice none 0 0]) (by simp)).1
  go_upto_region 4 with (fail)
  go_cut [7] from 15 to 22 (fun s7 wx => ∃ (g : Nat) (sr : Bool) (Ar : Option Addr) (nr cr : Nat) (zr : Bool) (Br : Option Addr) (mr dr : Nat), s7 = .pointer (some ⟨g, 0, none⟩) ∧ w.heap.size + 1 < g ∧
    Mo w.heap.size w [(g, [.bool sr, .slice Ar nr cr, .bool zr, .slice Br mr dr]), (w.heap.size + 1, [.bool false, .slice none 0 0, .bool false, .slice none 0 0])] [(sr, Ar, nr, cr, r.num), (zr, Br, mr, dr, (r.den : Int))] [(Ar, nr, cr), (Br, mr, dr)] wx)
  case first =>
    go_region_held3 (fun w' => w'.cell? ⟨w.heap.size, 0, none⟩ = some (.bool su) ∧ w'.cell? ⟨w.heap.size, 1, none⟩ = some (.slice Au nu cu) ∧ w'.cell? ⟨w.heap.size, 2, none⟩ = some (.bool zu) ∧ w'.cell? ⟨w.heap.size, 3, none⟩ = some (.slice Bu mu du) ∧ w'.cell? ⟨w.heap.size, 4, none⟩ = some (.bool sv) ∧ w'.cell? ⟨w.heap.size, 5, none⟩ = some (.slice Av nv cv) ∧ w'.cell? ⟨w.heap.size, 6, none⟩ = some (.bool zv) ∧ w'.cell? ⟨w.heap.size, 7, none⟩ = some (.slice Bv mv dv))
      (go_keep)
      (first
        | (go_at_call 133; apply Calls.withMo (w0 := w); (case K => (repeat (first | (with_reducible exact K5) | (with_reducible apply Mo.drewN) | (with_reducible apply Mo.drew) | (with_reducible apply Mo.varz)))); intro KX; (try simp only [hszA] at KX); (with_reducible refine (owb_size1_any su zu Au Bu nu cu mu du xu sv zv Av Bv nv cv mv dv xv sh zh Ah Bh nh ch mh dh ((xu * xu) + (xv * xv)) (4 * M + 1) r _ ?_ ?_ ?_ ?_ ?_ ?_ NS.out (SV.out.mono (by omega)) (by omega) H0.out hr).mono ?_; with_reducible exact KX.at_ (List.mem_of_getElem? (i := 2) rfl); with_reducible exact KX.at_ (List.mem_of_getElem? (i := 3) rfl); with_reducible exact KX.at_ (List.mem_of_getElem? (i := 4) rfl); with_reducible exact KX.at_ (List.mem_of_getElem? (i := 5) rfl); with_reducible exact KX.at_ (List.mem_of_getElem? (i := 0) rfl); with_reducible exact KX.at_ (List.mem_of_getElem? (i := 1) rfl)); rintro e6 w6 ⟨sr, Ar, nr, cr, zr, Br, mr, dr, rfl, I6, J6, O6, hb6⟩; have K6 := ((KX.call2 hb6 O6).int J6).int I6; clear KX; obtain ⟨q6_0, q6_1, q6_2, q6_3, q6_4, q6_5, q6_6, q6_7⟩ := (K6.blk (g := w.heap.size) (vs := [.bool su, .slice Au nu cu, .bool zu, .slice Bu mu du, .bool sv, .slice Av nv cv, .bool zv, .slice Bv mv dv]) (by simp)).c8; have sz6 : w.heap.size + 1 < w6.heap.size := (K6.blk (g := w.heap.size + 1) (vs := [.bool false, .slice none 0 0, .bool false, .slice none 0 0]) (by simp)).1; (try (have V0_6 := K6.blk (g := w4.heap.size) (vs := [.bool false, .slice none 0 0, .bool false, .slice none 0 0]) (by with_reducible (first | exact List.mem_cons_self | exact List.mem_cons_of_mem _ List.mem_cons_self)); obtain ⟨⟨va0_6, vb0_6, vc0_6, vd0_6⟩, ⟨ve0_6, vf0_6, vg0_6, vh0_6⟩, vi0_6⟩ := V0_6.four; have fa0_6 : ¬ w.heap.size = w4.heap.size := (by omega); have fb0_6 : ¬ w4.heap.size = w.heap.size := (by omega); skip)); (try (have V1_6 := K6.blk (g := w5.heap.size) (vs := [.bool false, .slice none 0 0, .bool false, .slice none 0 0]) (by with_reducible (first | exact List.mem_cons_self | exact List.mem_cons_of_mem _ List.mem_cons_self)); obtain ⟨⟨va1_6, vb1_6, vc1_6, vd1_6⟩, ⟨ve1_6, vf1_6, vg1_6, vh1_6⟩, vi1_6⟩ := V1_6.four; have fa1_6 : ¬ w.heap.size = w5.heap.size := (by omega); have fb1_6 : ¬ w5.heap.size = w.heap.size := (by omega); skip)); clear I6 J6 O6 hb6)
        | (go_at_call 178; apply Calls.withMo (w0 := w); (case K => (repeat (first | (with_reducible exact K1) | (with_reducible apply Mo.drewN) | (with_reducible apply Mo.drew) | (with_reducible apply Mo.varz)))); intro KX; (try simp only [hszA] at KX); (with_reducible refine (arg_norm_any su zu Au Bu nu cu mu du xu sv zv Av Bv nv cv mv dv xv M _ ?_ ?_ SU.out ?_ ?_ SV.out (by omega)).mono ?_; with_reducible exact KX.at_ (List.mem_of_getElem? (i := 0) rfl); with_reducible exact KX.at_ (List.mem_of_getElem? (i := 1) rfl); with_reducible exact KX.at_ (List.mem_of_getElem? (i := 2) rfl); with_reducible exact KX.at_ (List.mem_of_getElem? (i := 3) rfl)); rintro e5 w5 ⟨sh, Ah, nh, ch, zh, Bh, mh, dh, rfl, I5, J5, hb5⟩; have K5 := ((KX.next hb5).int J5).int I5; clear KX; obtain ⟨q5_0, q5_1, q5_2, q5_3, q5_4, q5_5, q5_6, q5_7⟩ := (K5.blk (g := w.heap.size) (vs := [.bool su, .slice Au nu cu, .bool zu, .slice Bu mu du, .bool sv, .slice Av nv cv, .bool zv, .slice Bv mv dv]) (by simp)).c8; have sz5 : w.heap.size + 1 < w5.heap.size := (K5.blk (g := w.heap.size + 1) (vs := [.bool false, .slice none 0 0, .bool false, .slice none 0 0]) (by simp)).1; (try (have V0_5 := K5.blk (g := w4.heap.size) (vs := [.bool false, .slice none 0 0, .bool false, .slice none 0 0]) (by with_reducible (first | exact List.mem_cons_self | exact List.mem_cons_of_mem _ List.mem_cons_self)); obtain ⟨⟨va0_5, vb0_5, vc0_5, vd0_5⟩, ⟨ve0_5, vf0_5, vg0_5, vh0_5⟩, vi0_5⟩ := V0_5.four; have fa0_5 : ¬ w.heap.size = w4.heap.size := (by omega); have fb0_5 : ¬ w4.heap.size = w.heap.size := (by omega); skip)); clear I5 J5 hb5)
        | fail)
    all_goals (go_wp2_with fail)
    all_goals go_meet
    all_goals (first
      | (refine ⟨w6.heap.size, sr, Ar, nr, cr, zr, Br, mr, dr, rfl, by assumption, ((K6.var (g := w6.heap.size) rfl [.bool sr, .slice Ar nr cr, .bool zr, .slice Br mr dr] 26).pick (L' := [(w6.heap.size, [.bool sr, .slice Ar nr cr, .bool zr, .slice Br mr dr]), (w.heap.size + 1, [.bool false, .slice none 0 0, .bool false, .slice none 0 0])]) (l' := [(sr, Ar, nr, cr, r.num), (zr, Br, mr, dr, (r.den : Int))]) (by simp) (by simp))⟩)
      | (refine ⟨w5.heap.size, sr, Ar, nr, cr, zr, Br, mr, dr, rfl, by assumption, ((K6.pick (L' := [(w5.heap.size, [.bool false, .slice none 0 0, .bool false, .slice none 0 0]), (w.heap.size + 1, [.bool false, .slice none 0 0, .bool false, .slice none 0 0])]) (l' := [(sr, Ar, nr, cr, r.num), (zr, Br, mr, dr, (r.den : Int))]) (by simp) (by simp)).set4 (by simp; omega) sr Ar nr cr zr Br mr dr)⟩)
      | (refine ⟨w4.heap.size, sr, Ar, nr, cr, zr, Br, mr, dr, rfl, by assumption, ((K6.pick (L' := [(w4.heap.size, [.bool false, .slice none 0 0, .bool false, .slice none 0 0]), (w.heap.size + 1, [.bool false, .slice none 0 0, .bool false, .slice none 0 0])]) (l' := [(sr, Ar, nr, cr, r.num), (zr, Br, mr, dr, (r.den : Int))]) (by simp) (by simp)).set4 (by simp; omega) sr Ar nr cr zr Br mr dr)⟩))
  case rest =>
    obtain ⟨g, sr, Ar, nr, cr, zr, Br, mr, dr, rfl, hg, KC⟩ := hcut
    clear K1 q0 q1 q2 q3 q4 q5 q6 q7 sz4
    rename World => wc
    obtain ⟨lr, kr, or⟩ := okF_of (KC.at_ (neg := sr) (A := Ar) (n := nr) (c := cr) (z := r.num) (by simp)) (KC.at_ (neg := zr) (A := Br) (n := mr) (c := dr) (z := (r.den : Int)) (by simp)) HS.out
    have nr2 := int_len or.ints.1 HS.out.1
    have mr2 := int_len or.ints.2.1 (by rw [Int.natAbs_natCast]; exact HS.out.2)
    have ga : ¬ g = w.heap.size + 1 := by omega
    have gb : ¬ w.heap.size + 1 = g := by omega
    have gc : ¬ g = w.heap.size := by omega
    have gd : ¬ w.heap.size = g := by omega
    obtain ⟨⟨c0, c1, c2, c3⟩, _, _⟩ := (KC.blk (g := g) (vs := [.bool sr, .slice Ar nr cr, .bool zr, .slice Br mr dr]) (by simp)).four
    go_wp2_with fail
    refine (rat_answer_no wc.heap.size sr zr Ar Br nr cr mr dr _ (by simp) (by simp [go_sem]) (by simp [go_sem]) (by simp [go_sem]) (by simp [go_sem]) nr2 mr2).mono ?_
    rintro e8 w8 ⟨rfl, hb8⟩
    have KD := (KC.box (.cells #[.bool sr, .slice Ar nr cr, .bool zr, .slice Br mr dr] 26)).next hb8
    have or := (or.next (w' := wc.alloc (.cells #[.bool sr, .slice Ar nr cr, .bool zr, .slice Br mr dr] 26)) ((Below.refl _ _).alloc (Nat.le_refl _) _)).next hb8
    clear KC hb8 c0 c1 c2 c3
    obtain ⟨⟨c0, c1, c2, c3⟩, _, _⟩ := (KD.blk (g := g) (vs := [.bool sr, .slice Ar nr cr, .bool zr, .slice Br mr dr]) (by simp)).four
    obtain ⟨⟨f0, f1, f2, f3⟩, ⟨ff0, ff1, ff2, ff3⟩, _⟩ := (KD.blk (g := w.heap.size + 1) (vs := [.bool false, .slice none 0 0, .bool false, .slice none 0 0]) (by simp)).four
    go_wp2_with fail
    have K9 := (KD.pick (L' := [(w.heap.size + 1, [.bool false, .slice none 0 0, .bool false, .slice none 0 0])]) (l' := [(sr, Ar, nr, cr, r.num), (zr, Br, mr, dr, (r.den : Int))]) (by simp) (by simp)).set4 (by simp) sr Ar nr cr zr Br mr dr
    exact bodyPost_ret (v := .tuple #[.agg #[.bool sr, .slice Ar nr cr, .bool zr, .slice Br mr dr], .int .i64 0]) (by simp [results, Tryz.results132, go_sem, f0, f1, f2, f3]) rfl ⟨_, _, _, _, _, _, _, _, rfl, K9.at_ (by simp), K9.at_ (by simp), K9.own2 0 1 rfl rfl (by decide), K9.1⟩
set_option maxRecDepth 100000 in
set_option maxHeartbeats 6400000 in
theorem owb_asked_size_long (su : Bool) (Au : Option Addr) (nu cu : Nat) (lu : List Nat) (zu : Bool) (Bu : Option Addr) (mu du : Nat) (ku : List Nat) (xu : Rat) (sv : Bool) (Av : Option Addr) (nv cv : Nat) (lv : List Nat) (zv : Bool) (Bv : Option Addr) (mv dv : Nat) (kv : List Nat) (xv : Rat) (M : Nat) (r : Rat) (w : World) (ou : OkF w ((su, Au, nu, cu, lu), (zu, Bu, mu, du, ku)) xu) (yu : Sz xu M) (ov : OkF w ((sv, Av, nv, cv, lv), (zv, Bv, mv, dv, kv)) xv) (yv : Sz xv M) (hM : M ≤ 2048) (hv : 0 < xv) (h0 : xv ≠ 0) (hr : Hid ((((xu * xu) + (xv * xv)) / xv) = r)) (hs : ¬ Sz r 2048) :
    Calls Tryz.prog 132 #[.agg #[.bool su, .slice Au nu cu, .bool zu, .slice Bu mu du, .bool sv, .slice Av nv cv, .bool zv, .slice Bv mv dv], .func (.func 133) #[] #[]] w (RetF2 w 0 0 4) := by
  have K0 := ((Mo.nil w).var (g := w.heap.size) rfl [.bool su, .slice Au nu cu, .bool zu, .slice Bu mu du, .bool sv, .slice Av nv cv, .bool zv, .slice Bv mv dv] 30).var (g := w.heap.size + 1) (by simp) [.bool false, .slice none 0 0, .bool false, .slice none 0 0] 26
  have HC := Lib.hid (chkBm_ok ou ov hv)
  have H0 := Lib.hid h0
  have HS := Lib.hid hs
  have SR : Hid (Sz r (100 * M + 100)) := Lib.hid (by rw [← hr.out]; exact ((Sz.add (Sz.mul yu yu) (Sz.mul yv yv)).div yv h0).mono (by omega))
  have SU := Lib.hid yu
  have SV := Lib.hid yv
  have NS : Hid (Sz ((xu * xu) + (xv * xv)) (4 * M + 1)) := Lib.hid ((Sz.add (Sz.mul yu yu) (Sz.mul yv yv)).mono (by omega))
  replace ou := ou.next K0.1
  replace ov := ov.next K0.1
  have g01 : ¬ w.heap.size = w.heap.size + 1 := by omega
  have g10 : ¬ w.heap.size + 1 = w.heap.size := by omega
  clear hv h0 hs yu yv
  go_enter Tryz.func132, Tryz.ntmps132
  go_upto_region 1 with (fail)
  generalize (w.alloc (.cells #[.bool su, .slice Au nu cu, .bool zu, .slice Bu mu du, .bool sv, .slice Av nv cv, .bool zv, .slice Bv mv dv] 30)).alloc (.cells #[.bool false, .slice none 0 0, .bool false, .slice none 0 0] 26) = w0 at K0 ou ov ⊢
  obtain ⟨q0, q1, q2, q3, q4, q5, q6, q7⟩ := (K0.blk (g := w.heap.size) (vs := [.bool su, .slice Au nu cu, .bool zu, .slice Bu mu du, .bool sv, .slice Av nv cv, .bool zv, .slice Bv mv dv]) (by simp)).c8
  go_wp2_with fail
  refine (beam_check_any su Au nu cu lu zu Bu mu du ku sv Av nv cv lv zv Bv mv dv kv _ ou.1 ov.1).mono ?_
  rintro e4 w4 ⟨rfl, hb4⟩
  rw [HC.out]
  have K1 := K0.next hb4
  replace ou := ou.next hb4
  replace ov := ov.next hb4
  clear K0 hb4 q0 q1 q2 q3 q4 q5 q6 q7
  replace K1 := (((K1.int ov.ints.2.1).int ov.ints.1).int ou.ints.2.1).int ou.ints.1
  clear ou ov
  obtain ⟨q0, q1, q2, q3, q4, q5, q6, q7⟩ := (K1.blk (g := w.heap.size) (vs := [.bool su, .slice Au nu cu, .bool zu, .slice Bu mu du, .bool sv, .slice Av nv cv, .bool zv, .slice Bv mv dv]) (by simp)).c8
  have sz4 : w.heap.size + 1 < w4.heap.size := (K1.blk (g := w.heap.size + 1) (vs := [.bool false, .slice none 0 0, .bool false, .slice none 0 0]) (by simp)).1
  go_upto_region 4 with (fail)
  go_cut [7] from 15 to 22 (fun s7 wx => ∃ (g : Nat) (sr : Bool) (Ar : Option Addr) (nr cr : Nat) (zr : Bool) (Br : Option Addr) (mr dr : Nat), s7 = .pointer (some ⟨g, 0, none⟩) ∧ w.heap.size + 1 < g ∧
    Mo w.heap.size w [(g, [.bool sr, .slice Ar nr cr, .bool zr, .slice Br mr dr]), (w.heap.size + 1, [.bool false, .slice none 0 0, .bool false, .slice none 0 0])] [(sr, Ar, nr, cr, r.num), (zr, Br, mr, dr, (r.den : Int))] [(Ar, nr, cr), (Br, mr, dr)] wx)
  case first =>
    go_region_held3 (fun w' => w'.cell? ⟨w.heap.size, 0, none⟩ = some (.bool su) ∧ w'.cell? ⟨w.heap.size, 1, none⟩ = some (.slice Au nu cu) ∧ w'.cell? ⟨w.heap.size, 2, none⟩ = some (.bool zu) ∧ w'.cell? ⟨w.heap.size, 3, none⟩ = some (.slice Bu mu du) ∧ w'.cell? ⟨w.heap.size, 4, none⟩ = some (.bool sv) ∧ w'.cell? ⟨w.heap.size, 5, none⟩ = some (.slice Av nv cv) ∧ w'.cell? ⟨w.heap.size, 6, none⟩ = some (.bool zv) ∧ w'.cell? ⟨w.heap.size, 7, none⟩ = some (.slice Bv mv dv))
      (go_keep)
      (first
        | (go_at_call 133; apply Calls.withMo (w0 := w); (case K => (repeat (first | (with_reducible exact K5) | (with_reducible apply Mo.drewN) | (with_reducible apply Mo.drew) | (with_reducible apply Mo.varz)))); intro KX; (try simp only [hszA] at KX); (with_reducible refine (owb_size1_any su zu Au Bu nu cu mu du xu sv zv Av Bv nv cv mv dv xv sh zh Ah Bh nh ch mh dh ((xu * xu) + (xv * xv)) (4 * M + 1) r _ ?_ ?_ ?_ ?_ ?_ ?_ NS.out (SV.out.mono (by omega)) (by omega) H0.out hr).mono ?_; with_reducible exact KX.at_ (List.mem_of_getElem? (i := 2) rfl); with_reducible exact KX.at_ (List.mem_of_getElem? (i := 3) rfl); with_reducible exact KX.at_ (List.mem_of_getElem? (i := 4) rfl); with_reducible exact KX.at_ (List.mem_of_getElem? (i := 5) rfl); with_reducible exact KX.at_ (List.mem_of_getElem? (i := 0) rfl); with_reducible exact KX.at_ (List.mem_of_getElem? (i := 1) rfl)); rintro e6 w6 ⟨sr, Ar, nr, cr, zr, Br, mr, dr, rfl, I6, J6, O6, hb6⟩; have K6 := ((KX.call2 hb6 O6).int J6).int I6; clear KX; obtain ⟨q6_0, q6_1, q6_2, q6_3, q6_4, q6_5, q6_6, q6_7⟩ := (K6.blk (g := w.heap.size) (vs := [.bool su, .slice Au nu cu, .bool zu, .slice Bu mu du, .bool sv, .slice Av nv cv, .bool zv, .slice Bv mv dv]) (by simp)).c8; have sz6 : w.heap.size + 1 < w6.heap.size := (K6.blk (g := w.heap.size + 1) (vs := [.bool false, .slice none 0 0, .bool false, .slice none 0 0]) (by simp)).1; (try (have V0_6 := K6.blk (g := w4.heap.size) (vs := [.bool false, .slice none 0 0, .bool false, .slice none 0 0]) (by with_reducible (first | exact List.mem_cons_self | exact List.mem_cons_of_mem _ List.mem_cons_self)); obtain ⟨⟨va0_6, vb0_6, vc0_6, vd0_6⟩, ⟨ve0_6, vf0_6, vg0_6, vh0_6⟩, vi0_6⟩ := V0_6.four; have fa0_6 : ¬ w.heap.size = w4.heap.size := (by omega); have fb0_6 : ¬ w4.heap.size = w.heap.size := (by omega); skip)); (try (have V1_6 := K6.blk (g := w5.heap.size) (vs := [.bool false, .slice none 0 0, .bool false, .slice none 0 0]) (by with_reducible (first | exact List.mem_cons_self | exact List.mem_cons_of_mem _ List.mem_cons_self)); obtain ⟨⟨va1_6, vb1_6, vc1_6, vd1_6⟩, ⟨ve1_6, vf1_6, vg1_6, vh1_6⟩, vi1_6⟩ := V1_6.four; have fa1_6 : ¬ w.heap.size = w5.heap.size := (by omega); have fb1_6 : ¬ w5.heap.size = w.heap.size := (by omega); skip)); clear I6 J6 O6 hb6)
        | (go_at_call 178; apply Calls.withMo (w0 := w); (case K => (repeat (first | (with_reducible exact K1) | (with_reducible apply Mo.drewN) | (with_reducible apply Mo.drew) | (with_reducible apply Mo.varz)))); intro KX; (try simp only [hszA] at KX); (with_reducible refine (arg_norm_any su zu Au Bu nu cu mu du xu sv zv Av Bv nv cv mv dv xv M _ ?_ ?_ SU.out ?_ ?_ SV.out (by omega)).mono ?_; with_reducible exact KX.at_ (List.mem_of_getElem? (i := 0) rfl); with_reducible exact KX.at_ (List.mem_of_getElem? (i := 1) rfl); with_reducible exact KX.at_ (List.mem_of_getElem? (i := 2) rfl); with_reducible exact KX.at_ (List.mem_of_getElem? (i := 3) rfl)); rintro e5 w5 ⟨sh, Ah, nh, ch, zh, Bh, mh, dh, rfl, I5, J5, hb5⟩; have K5 := ((KX.next hb5).int J5).int I5; clear KX; obtain ⟨q5_0, q5_1, q5_2, q5_3, q5_4, q5_5, q5_6, q5_7⟩ := (K5.blk (g := w.heap.size) (vs := [.bool su, .slice Au nu cu, .bool zu, .slice Bu mu du, .bool sv, .slice Av nv cv, .bool zv, .slice Bv mv dv]) (by simp)).c8; have sz5 : w.heap.size + 1 < w5.heap.size := (K5.blk (g := w.heap.size + 1) (vs := [.bool false, .slice none 0 0, .bool false, .slice none 0 0]) (by simp)).1; (try (have V0_5 := K5.blk (g := w4.heap.size) (vs := [.bool false, .slice none 0 0, .bool false, .slice none 0 0]) (by with_reducible (first | exact List.mem_cons_self | exact List.mem_cons_of_mem _ List.mem_cons_self)); obtain ⟨⟨va0_5, vb0_5, vc0_5, vd0_5⟩, ⟨ve0_5, vf0_5, vg0_5, vh0_5⟩, vi0_5⟩ := V0_5.four; have fa0_5 : ¬ w.heap.size = w4.heap.size := (by omega); have fb0_5 : ¬ w4.heap.size = w.heap.size := (by omega); skip)); clear I5 J5 hb5)
        | fail)
    all_goals (go_wp2_with fail)
    all_goals go_meet
    all_goals (first
      | (refine ⟨w6.heap.size, sr, Ar, nr, cr, zr, Br, mr, dr, rfl, by assumption, ((K6.var (g := w6.heap.size) rfl [.bool sr, .slice Ar nr cr, .bool zr, .slice Br mr dr] 26).pick (L' := [(w6.heap.size, [.bool sr, .slice Ar nr cr, .bool zr, .slice Br mr dr]), (w.heap.size + 1, [.bool false, .slice none 0 0, .bool false, .slice none 0 0])]) (l' := [(sr, Ar, nr, cr, r.num), (zr, Br, mr, dr, (r.den : Int))]) (by simp) (by simp))⟩)
      | (refine ⟨w5.heap.size, sr, Ar, nr, cr, zr, Br, mr, dr, rfl, by assumption, ((K6.pick (L' := [(w5.heap.size, [.bool false, .slice none 0 0, .bool false, .slice none 0 0]), (w.heap.size + 1, [.bool false, .slice none 0 0, .bool false, .slice none 0 0])]) (l' := [(sr, Ar, nr, cr, r.num), (zr, Br, mr, dr, (r.den : Int))]) (by simp) (by simp)).set4 (by simp; omega) sr Ar nr cr zr Br mr dr)⟩)
      | (refine ⟨w4.heap.size, sr, Ar, nr, cr, zr, Br, mr, dr, rfl, by assumption, ((K6.pick (L' := [(w4.heap.size, [.bool false, .slice none 0 0, .bool false, .slice none 0 0]), (w.heap.size + 1, [.bool false, .slice none 0 0, .bool false, .slice none 0 0])]) (l' := [(sr, Ar, nr, cr, r.num), (zr, Br, mr, dr, (r.den : Int))]) (by simp) (by simp)).set4 (by simp; omega) sr Ar nr cr zr Br mr dr)⟩))
  case rest =>
    obtain ⟨g, sr, Ar, nr, cr, zr, Br, mr, dr, rfl, hg, KC⟩ := hcut
    clear K1 q0 q1 q2 q3 q4 q5 q6 q7 sz4
    rename World => wc
    have IR := KC.at_ (neg := sr) (A := Ar) (n := nr) (c := cr) (z := r.num) (by simp)
    have JR := KC.at_ (neg := zr) (A := Br) (n := mr) (c := dr) (z := (r.den : Int)) (by simp)
    obtain ⟨lr, S1, _⟩ := id IR
    obtain ⟨kr, S2, _⟩ := id JR
    have oa : LmE.at_ wc ((sr, Ar, nr, cr, lr), (zr, Br, mr, dr, kr)) := ⟨S1, S2, by show nr ≤ _; have := int_len IR SR.out.1; omega, by show mr ≤ _; have := int_len JR SR.out.2; omega⟩
    have HLG : Hid ((if lgAll (fun _ => ((sr, Ar, nr, cr, lr), (zr, Br, mr, dr, kr))) 1 then (4 : Int) else 0) = 4) := Lib.hid (by rw [show lgAll (fun _ => ((sr, Ar, nr, cr, lr), (zr, Br, mr, dr, kr))) 1 = true by unfold lgAll lgAll; rw [lg_of IR JR HS.out]; rfl]; rfl)
    have HLF := Lib.hid (lfs_one wc (g := wc.heap.size) rfl 26 oa)
    clear IR JR S1 S2 oa
    have ga : ¬ g = w.heap.size + 1 := by omega
    have gb : ¬ w.heap.size + 1 = g := by omega
    have gc : ¬ g = w.heap.size := by omega
    have gd : ¬ w.heap.size = g := by omega
    obtain ⟨⟨c0, c1, c2, c3⟩, _, _⟩ := (KC.blk (g := g) (vs := [.bool sr, .slice Ar nr cr, .bool zr, .slice Br mr dr]) (by simp)).four
    go_wp2_with fail
    refine (rat_answer_any wc.heap.size 1 1 (fun _ => ((sr, Ar, nr, cr, lr), (zr, Br, mr, dr, kr))) 4 _ HLF.out (by decide) (by decide) HLG).mono ?_
    rintro e8 w8 ⟨rfl, hb8⟩
    have KD := (KC.box (.cells #[.bool sr, .slice Ar nr cr, .bool zr, .slice Br mr dr] 26)).next hb8
    clear KC hb8 HLF c0 c1 c2 c3
    obtain ⟨⟨c0, c1, c2, c3⟩, _, _⟩ := (KD.blk (g := g) (vs := [.bool sr, .slice Ar nr cr, .bool zr, .slice Br mr dr]) (by simp)).four
    obtain ⟨⟨f0, f1, f2, f3⟩, ⟨ff0, ff1, ff2, ff3⟩, _⟩ := (KD.blk (g := w.heap.size + 1) (vs := [.bool false, .slice none 0 0, .bool false, .slice none 0 0]) (by simp)).four
    go_wp2_with fail
    have K9 := (KD.pick (L' := [(w.heap.size + 1, [.bool false, .slice none 0 0, .bool false, .slice none 0 0])]) (l' := []) (by simp) (by simp)).set4 (by simp) false none 0 0 false none 0 0
    exact bodyPost_ret (v := .tuple #[.agg #[.bool false, .slice none 0 0, .bool false, .slice none 0 0], .int .i64 4]) (by simp [results, Tryz.results132, go_sem, f0, f1, f2, f3]) rfl ⟨false, none, 0, 0, false, none, 0, 0, rfl, isInt_nought, isInt_nought, owns_nil2 _ _, K9.1⟩
set_option maxRecDepth 100000 in
set_option maxHeartbeats 6400000 in
theorem owb_asked_curve_ok (su : Bool) (Au : Option Addr) (nu cu : Nat) (lu : List Nat) (zu : Bool) (Bu : Option Addr) (mu du : Nat) (ku : List Nat) (xu : Rat) (sv : Bool) (Av : Option Addr) (nv cv : Nat) (lv : List Nat) (zv : Bool) (Bv : Option Addr) (mv dv : Nat) (kv : List Nat) (xv : Rat) (M : Nat) (r : Rat) (w : World) (ou : OkF w ((su, Au, nu, cu, lu), (zu, Bu, mu, du, ku)) xu) (yu : Sz xu M) (ov : OkF w ((sv, Av, nv, cv, lv), (zv, Bv, mv, dv, kv)) xv) (yv : Sz xv M) (hM : M ≤ 2048) (hv : 0 < xv) (h0 : ((xu * xu) + (xv * xv)) ≠ 0) (hr : Hid ((xu / ((xu * xu) + (xv * xv))) = r)) (hs : Sz r 2048) :
    Calls Tryz.prog 132 #[.agg #[.bool su, .slice Au nu cu, .bool zu, .slice Bu mu du, .bool sv, .slice Av nv cv, .bool zv, .slice Bv mv dv], .func (.func 135) #[] #[]] w (RetF2 w r.num (r.den : Int) 0) := by
  have K0 := ((Mo.nil w).var (g := w.heap.size) rfl [.bool su, .slice Au nu cu, .bool zu, .slice Bu mu du, .bool sv, .slice Av nv cv, .bool zv, .slice Bv mv dv] 30).var (g := w.heap.size + 1) (by simp) [.bool false, .slice none 0 0, .bool false, .slice none 0 0] 26
  have HC := Lib.hid (chkBm_ok ou ov hv)
  have H0 := Lib.hid h0
  have HS := Lib.hid hs
  have SU := Lib.hid yu
  have SV := Lib.hid yv
  have NS : Hid (Sz ((xu * xu) + (xv * xv)) (4 * M + 1)) := Lib.hid ((Sz.add (Sz.mul yu yu) (Sz.mul yv yv)).mono (by omega))
  replace ou := ou.next K0.1
  replace ov := ov.next K0.1
  have g01 : ¬ w.heap.size = w.heap.size + 1 := by omega
  have g10 : ¬ w.heap.size + 1 = w.heap.size := by omega
  clear hv h0 hs yu yv
  go_enter Tryz.func132, Tryz.ntmps132
  go_upto_region 1 with (fail)
  generalize (w.alloc (.cells #[.bool su, .slice Au nu cu, .bool zu, .slice Bu mu du, .bool sv, .slice Av nv cv, .bool zv, .slice Bv mv dv] 30)).alloc (.cells #[.bool false, .slice none 0 0, .bool false, .slice none 0 0] 26) = w0 at K0 ou ov ⊢
  obtain ⟨q0, q1, q2, q3, q4, q5, q6, q7⟩ := (K0.blk (g := w.heap.size) (vs := [.bool su, .slice Au nu cu, .bool zu, .slice Bu mu du, .bool sv, .slice Av nv cv, .bool zv, .slice Bv mv dv]) (by simp)).c8
  go_wp2_with fail
  refine (beam_check_any su Au nu cu lu zu Bu mu du ku sv Av nv cv lv zv Bv mv dv kv _ ou.1 ov.1).mono ?_
  rintro e4 w4 ⟨rfl, hb4⟩
  rw [HC.out]
  have K1 := K0.next hb4
  replace ou := ou.next hb4
  replace ov := ov.next hb4
  clear K0 hb4 q0 q1 q2 q3 q4 q5 q6 q7
  replace K1 := (((K1.int ov.ints.2.1).int ov.ints.1).int ou.ints.2.1).int ou.ints.1
  clear ou ov
  obtain ⟨q0, q1, q2, q3, q4, q5, q6, q7⟩ := (K1.blk (g := w.heap.size) (vs := [.bool su, .slice Au nu cu, .bool zu, .slice Bu mu du, .bool sv, .slice Av nv cv, .bool zv, .slice Bv mv dv]) (by simp)).c8
  have sz4 : w.heap.size + 1 < w4.heap.size := (K1.blk (g := w.heap.size + 1) (vs := [.bool false, .slice none 0 0, .bool false, .slice none 0 0]) (by simp)).1
  go_upto_region 4 with (fail)
  go_cut [7] from 15 to 22 (fun s7 wx => ∃ (g : Nat) (sr : Bool) (Ar : Option Addr) (nr cr : Nat) (zr : Bool) (Br : Option Addr) (mr dr : Nat), s7 = .pointer (some ⟨g, 0, none⟩) ∧ w.heap.size + 1 < g ∧
    Mo w.heap.size w [(g, [.bool sr, .slice Ar nr cr, .bool zr, .slice Br mr dr]), (w.heap.size + 1, [.bool false, .slice none 0 0, .bool false, .slice none 0 0])] [(sr, Ar, nr, cr, r.num), (zr, Br, mr, dr, (r.den : Int))] [(Ar, nr, cr), (Br, mr, dr)] wx)
  case first =>
    go_region_held3 (fun w' => w'.cell? ⟨w.heap.size, 0, none⟩ = some (.bool su) ∧ w'.cell? ⟨w.heap.size, 1, none⟩ = some (.slice Au nu cu) ∧ w'.cell? ⟨w.heap.size, 2, none⟩ = some (.bool zu) ∧ w'.cell? ⟨w.heap.size, 3, none⟩ = some (.slice Bu mu du) ∧ w'.cell? ⟨w.heap.size, 4, none⟩ = some (.bool sv) ∧ w'.cell? ⟨w.heap.size, 5, none⟩ = some (.slice Av nv cv) ∧ w'.cell? ⟨w.heap.size, 6, none⟩ = some (.bool zv) ∧ w'.cell? ⟨w.heap.size, 7, none⟩ = some (.slice Bv mv dv))
      (go_keep)
      (first
        | (go_at_call 135; apply Calls.withMo (w0 := w); (case K => (repeat (first | (with_reducible exact K5) | (with_reducible apply Mo.drewN) | (with_reducible apply Mo.drew) | (with_reducible apply Mo.varz)))); intro KX; (try simp only [hszA] at KX); (with_reducible refine (owb_curve1_any su zu Au Bu nu cu mu du xu sv zv Av Bv nv cv mv dv xv sh zh Ah Bh nh ch mh dh ((xu * xu) + (xv * xv)) (4 * M + 1) r _ ?_ ?_ ?_ ?_ ?_ ?_ (SU.out.mono (by omega)) NS.out (by omega) H0.out hr).mono ?_; with_reducible exact KX.at_ (List.mem_of_getElem? (i := 2) rfl); with_reducible exact KX.at_ (List.mem_of_getElem? (i := 3) rfl); with_reducible exact KX.at_ (List.mem_of_getElem? (i := 4) rfl); with_reducible exact KX.at_ (List.mem_of_getElem? (i := 5) rfl); with_reducible exact KX.at_ (List.mem_of_getElem? (i := 0) rfl); with_reducible exact KX.at_ (List.mem_of_getElem? (i := 1) rfl)); rintro e6 w6 ⟨sr, Ar, nr, cr, zr, Br, mr, dr, rfl, I6, J6, O6, hb6⟩; have K6 := ((KX.call2 hb6 O6).int J6).int I6; clear KX; obtain ⟨q6_0, q6_1, q6_2, q6_3, q6_4, q6_5, q6_6, q6_7⟩ := (K6.blk (g := w.heap.size) (vs := [.bool su, .slice Au nu cu, .bool zu, .slice Bu mu du, .bool sv, .slice Av nv cv, .bool zv, .slice Bv mv dv]) (by simp)).c8; have sz6 : w.heap.size + 1 < w6.heap.size := (K6.blk (g := w.heap.size + 1) (vs := [.bool false, .slice none 0 0, .bool false, .slice none 0 0]) (by simp)).1; (try (have V0_6 := K6.blk (g := w4.heap.size) (vs := [.bool false, .slice none 0 0, .bool false, .slice none 0 0]) (by with_reducible (first | exact List.mem_cons_self | exact List.mem_cons_of_mem _ List.mem_cons_self)); obtain ⟨⟨va0_6, vb0_6, vc0_6, vd0_6⟩, ⟨ve0_6, vf0_6, vg0_6, vh0_6⟩, vi0_6⟩ := V0_6.four; have fa0_6 : ¬ w.heap.size = w4.heap.size := (by omega); have fb0_6 : ¬ w4.heap.size = w.heap.size := (by omega); skip)); (try (have V1_6 := K6.blk (g := w5.heap.size) (vs := [.bool false, .slice none 0 0, .bool false, .slice none 0 0]) (by with_reducible (first | exact List.mem_cons_self | exact List.mem_cons_of_mem _ List.mem_cons_self)); obtain ⟨⟨va1_6, vb1_6, vc1_6, vd1_6⟩, ⟨ve1_6, vf1_6, vg1_6, vh1_6⟩, vi1_6⟩ := V1_6.four; have fa1_6 : ¬ w.heap.size = w5.heap.size := (by omega); have fb1_6 : ¬ w5.heap.size = w.heap.size := (by omega); skip)); clear I6 J6 O6 hb6)
        | (go_at_call 178; apply Calls.withMo (w0 := w); (case K => (repeat (first | (with_reducible exact K1) | (with_reducible apply Mo.drewN) | (with_reducible apply Mo.drew) | (with_reducible apply Mo.varz)))); intro KX; (try simp only [hszA] at KX); (with_reducible refine (arg_norm_any su zu Au Bu nu cu mu du xu sv zv Av Bv nv cv mv dv xv M _ ?_ ?_ SU.out ?_ ?_ SV.out (by omega)).mono ?_; with_reducible exact KX.at_ (List.mem_of_getElem? (i := 0) rfl); with_reducible exact KX.at_ (List.mem_of_getElem? (i := 1) rfl); with_reducible exact KX.at_ (List.mem_of_getElem? (i := 2) rfl); with_reducible exact KX.at_ (List.mem_of_getElem? (i := 3) rfl)); rintro e5 w5 ⟨sh, Ah, nh, ch, zh, Bh, mh, dh, rfl, I5, J5, hb5⟩; have K5 := ((KX.next hb5).int J5).int I5; clear KX; obtain ⟨q5_0, q5_1, q5_2, q5_3, q5_4, q5_5, q5_6, q5_7⟩ := (K5.blk (g := w.heap.size) (vs := [.bool su, .slice Au nu cu, .bool zu, .slice Bu mu du, .bool sv, .slice Av nv cv, .bool zv, .slice Bv mv dv]) (by simp)).c8; have sz5 : w.heap.size + 1 < w5.heap.size := (K5.blk (g := w.heap.size + 1) (vs := [.bool false, .slice none 0 0, .bool false, .slice none 0 0]) (by simp)).1; (try (have V0_5 := K5.blk (g := w4.heap.size) (vs := [.bool false, .slice none 0 0, .bool false, .slice none 0 0]) (by with_reducible (first | exact List.mem_cons_self | exact List.mem_cons_of_mem _ List.mem_cons_self)); obtain ⟨⟨va0_5, vb0_5, vc0_5, vd0_5⟩, ⟨ve0_5, vf0_5, vg0_5, vh0_5⟩, vi0_5⟩ := V0_5.four; have fa0_5 : ¬ w.heap.size = w4.heap.size := (by omega); have fb0_5 : ¬ w4.heap.size = w.heap.size := (by omega); skip)); clear I5 J5 hb5)
        | fail)
    all_goals (go_wp2_with fail)
    all_goals go_meet
    all_goals (first
      | (refine ⟨w6.heap.size, sr, Ar, nr, cr, zr, Br, mr, dr, rfl, by assumption, ((K6.var (g := w6.heap.size) rfl [.bool sr, .slice Ar nr cr, .bool zr, .slice Br mr dr] 26).pick (L' := [(w6.heap.size, [.bool sr, .slice Ar nr cr, .bool zr, .slice Br mr dr]), (w.heap.size + 1, [.bool false, .slice none 0 0, .bool false, .slice none 0 0])]) (l' := [(sr, Ar, nr, cr, r.num), (zr, Br, mr, dr, (r.den : Int))]) (by simp) (by simp))⟩)
      | (refine ⟨w5.heap.size, sr, Ar, nr, cr, zr, Br, mr, dr, rfl, by assumption, ((K6.pick (L' := [(w5.heap.size, [.bool false, .slice none 0 0, .bool false, .slice none 0 0]), (w.heap.size + 1, [.bool false, .slice none 0 0, .bool false, .slice none 0 0])]) (l' := [(sr, Ar, nr, cr, r.num), (zr, Br, mr, dr, (r.den : Int))]) (by simp) (by simp)).set4 (by simp; omega) sr Ar nr cr zr Br mr dr)⟩)
      | (refine ⟨w4.heap.size, sr, Ar, nr, cr, zr, Br, mr, dr, rfl, by assumption, ((K6.pick (L' := [(w4.heap.size, [.bool false, .slice none 0 0, .bool false, .slice none 0 0]), (w.heap.size + 1, [.bool false, .slice none 0 0, .bool false, .slice none 0 0])]) (l' := [(sr, Ar, nr, cr, r.num), (zr, Br, mr, dr, (r.den : Int))]) (by simp) (by simp)).set4 (by simp; omega) sr Ar nr cr zr Br mr dr)⟩))
  case rest =>
    obtain ⟨g, sr, Ar, nr, cr, zr, Br, mr, dr, rfl, hg, KC⟩ := hcut
    clear K1 q0 q1 q2 q3 q4 q5 q6 q7 sz4
    rename World => wc
    obtain ⟨lr, kr, or⟩ := okF_of (KC.at_ (neg := sr) (A := Ar) (n := nr) (c := cr) (z := r.num) (by simp)) (KC.at_ (neg := zr) (A := Br) (n := mr) (c := dr) (z := (r.den : Int)) (by simp)) HS.out
    have nr2 := int_len or.ints.1 HS.out.1
    have mr2 := int_len or.ints.2.1 (by rw [Int.natAbs_natCast]; exact HS.out.2)
    have ga : ¬ g = w.heap.size + 1 := by omega
    have gb : ¬ w.heap.size + 1 = g := by omega
    have gc : ¬ g = w.heap.size := by omega
    have gd : ¬ w.heap.size = g := by omega
    obtain ⟨⟨c0, c1, c2, c3⟩, _, _⟩ := (KC.blk (g := g) (vs := [.bool sr, .slice Ar nr cr, .bool zr, .slice Br mr dr]) (by simp)).four
    go_wp2_with fail
    refine (rat_answer_no wc.heap.size sr zr Ar Br nr cr mr dr _ (by simp) (by simp [go_sem]) (by simp [go_sem]) (by simp [go_sem]) (by simp [go_sem]) nr2 mr2).mono ?_
    rintro e8 w8 ⟨rfl, hb8⟩
    have KD := (KC.box (.cells #[.bool sr, .slice Ar nr cr, .bool zr, .slice Br mr dr] 26)).next hb8
    have or := (or.next (w' := wc.alloc (.cells #[.bool sr, .slice Ar nr cr, .bool zr, .slice Br mr dr] 26)) ((Below.refl _ _).alloc (Nat.le_refl _) _)).next hb8
    clear KC hb8 c0 c1 c2 c3
    obtain ⟨⟨c0, c1, c2, c3⟩, _, _⟩ := (KD.blk (g := g) (vs := [.bool sr, .slice Ar nr cr, .bool zr, .slice Br mr dr]) (by simp)).four
    obtain ⟨⟨f0, f1, f2, f3⟩, ⟨ff0, ff1, ff2, ff3⟩, _⟩ := (KD.blk (g := w.heap.size + 1) (vs := [.bool false, .slice none 0 0, .bool false, .slice none 0 0]) (by simp)).four
    go_wp2_with fail
    have K9 := (KD.pick (L' := [(w.heap.size + 1, [.bool false, .slice none 0 0, .bool false, .slice none 0 0])]) (l' := [(sr, Ar, nr, cr, r.num), (zr, Br, mr, dr, (r.den : Int))]) (by simp) (by simp)).set4 (by simp) sr Ar nr cr zr Br mr dr
    exact bodyPost_ret (v := .tuple #[.agg #[.bool sr, .slice Ar nr cr, .bool zr, .slice Br mr dr], .int .i64 0]) (by simp [results, Tryz.results132, go_sem, f0, f1, f2, f3]) rfl ⟨_, _, _, _, _, _, _, _, rfl, K9.at_ (by simp), K9.at_ (by simp), K9.own2 0 1 rfl rfl (by decide), K9.1⟩
set_option maxRecDepth 100000 in
set_option maxHeartbeats 6400000 in
theorem owb_asked_curve_long (su : Bool) (Au : Option Addr) (nu cu : Nat) (lu : List Nat) (zu : Bool) (Bu : Option Addr) (mu du : Nat) (ku : List Nat) (xu : Rat) (sv : Bool) (Av : Option Addr) (nv cv : Nat) (lv : List Nat) (zv : Bool) (Bv : Option Addr) (mv dv : Nat) (kv : List Nat) (xv : Rat) (M : Nat) (r : Rat) (w : World) (ou : OkF w ((su, Au, nu, cu, lu), (zu, Bu, mu, du, ku)) xu) (yu : Sz xu M) (ov : OkF w ((sv, Av, nv, cv, lv), (zv, Bv, mv, dv, kv)) xv) (yv : Sz xv M) (hM : M ≤ 2048) (hv : 0 < xv) (h0 : ((xu * xu) + (xv * xv)) ≠ 0) (hr : Hid ((xu / ((xu * xu) + (xv * xv))) = r)) (hs : ¬ Sz r 2048) :
    Calls Tryz.prog 132 #[.agg #[.bool su, .slice Au nu cu, .bool zu, .slice Bu mu du, .bool sv, .slice Av nv cv, .bool zv, .slice Bv mv dv], .func (.func 135) #[] #[]] w (RetF2 w 0 0 4) := by
  have K0 := ((Mo.nil w).var (g := w.heap.size) rfl [.bool su, .slice Au nu cu, .bool zu, .slice Bu mu du, .bool sv, .slice Av nv cv, .bool zv, .slice Bv mv dv] 30).var (g := w.heap.size + 1) (by simp) [.bool false, .slice none 0 0, .bool false, .slice none 0 0] 26
  have HC := Lib.hid (chkBm_ok ou ov hv)
  have H0 := Lib.hid h0
  have HS := Lib.hid hs
  have SR : Hid (Sz r (100 * M + 100)) := Lib.hid (by rw [← hr.out]; exact (yu.div (Sz.add (Sz.mul yu yu) (Sz.mul yv yv)) h0).mono (by omega))
  have SU := Lib.hid yu
  have SV := Lib.hid yv
  have NS : Hid (Sz ((xu * xu) + (xv * xv)) (4 * M + 1)) := Lib.hid ((Sz.add (Sz.mul yu yu) (Sz.mul yv yv)).mono (by omega))
  replace ou := ou.next K0.1
  replace ov := ov.next K0.1
  have g01 : ¬ w.heap.size = w.heap.size + 1 := by omega
  have g10 : ¬ w.heap.size + 1 = w.heap.size := by omega
  clear hv h0 hs yu yv
  go_enter Tryz.func132, Tryz.ntmps132
  go_upto_region 1 with (fail)
  generalize (w.alloc (.cells #[.bool su, .slice Au nu cu, .bool zu, .slice Bu mu du, .bool sv, .slice Av nv cv, .bool zv, .slice Bv mv dv] 30)).alloc (.cells #[.bool false, .slice none 0 0, .bool false, .slice none 0 0] 26) = w0 at K0 ou ov ⊢
  obtain ⟨q0, q1, q2, q3, q4, q5, q6, q7⟩ := (K0.blk (g := w.heap.size) (vs := [.bool su, .slice Au nu cu, .bool zu, .slice Bu mu du, .bool sv, .slice Av nv cv, .bool zv, .slice Bv mv dv]) (by simp)).c8
  go_wp2_with fail
  refine (beam_check_any su Au nu cu lu zu Bu mu du ku sv Av nv cv lv zv Bv mv dv kv _ ou.1 ov.1).mono ?_
  rintro e4 w4 ⟨rfl, hb4⟩
  rw [HC.out]
  have K1 := K0.next hb4
  replace ou := ou.next hb4
  replace ov := ov.next hb4
  clear K0 hb4 q0 q1 q2 q3 q4 q5 q6 q7
  replace K1 := (((K1.int ov.ints.2.1).int ov.ints.1).int ou.ints.2.1).int ou.ints.1
  clear ou ov
  obtain ⟨q0, q1, q2, q3, q4, q5, q6, q7⟩ := (K1.blk (g := w.heap.size) (vs := [.bool su, .slice Au nu cu, .bool zu, .slice Bu mu du, .bool sv, .slice Av nv cv, .bool zv, .slice Bv mv dv]) (by simp)).c8
  have sz4 : w.heap.size + 1 < w4.heap.size := (K1.blk (g := w.heap.size + 1) (vs := [.bool false, .slice none 0 0, .bool false, .slice none 0 0]) (by simp)).1
  go_upto_region 4 with (fail)
  go_cut [7] from 15 to 22 (fun s7 wx => ∃ (g : Nat) (sr : Bool) (Ar : Option Addr) (nr cr : Nat) (zr : Bool) (Br : Option Addr) (mr dr : Nat), s7 = .pointer (some ⟨g, 0, none⟩) ∧ w.heap.size + 1 < g ∧
    Mo w.heap.size w [(g, [.bool sr, .slice Ar nr cr, .bool zr, .slice Br mr dr]), (w.heap.size + 1, [.bool false, .slice none 0 0, .bool false, .slice none 0 0])] [(sr, Ar, nr, cr, r.num), (zr, Br, mr, dr, (r.den : Int))] [(Ar, nr, cr), (Br, mr, dr)] wx)
  case first =>
    go_region_held3 (fun w' => w'.cell? ⟨w.heap.size, 0, none⟩ = some (.bool su) ∧ w'.cell? ⟨w.heap.size, 1, none⟩ = some (.slice Au nu cu) ∧ w'.cell? ⟨w.heap.size, 2, none⟩ = some (.bool zu) ∧ w'.cell? ⟨w.heap.size, 3, none⟩ = some (.slice Bu mu du) ∧ w'.cell? ⟨w.heap.size, 4, none⟩ = some (.bool sv) ∧ w'.cell? ⟨w.heap.size, 5, none⟩ = some (.slice Av nv cv) ∧ w'.cell? ⟨w.heap.size, 6, none⟩ = some (.bool zv) ∧ w'.cell? ⟨w.heap.size, 7, none⟩ = some (.slice Bv mv dv))
      (go_keep)
      (first
        | (go_at_call 135; apply Calls.withMo (w0 := w); (case K => (repeat (first | (with_reducible exact K5) | (with_reducible apply Mo.drewN) | (with_reducible apply Mo.drew) | (with_reducible apply Mo.varz)))); intro KX; (try simp only [hszA] at KX); (with_reducible refine (owb_curve1_any su zu Au Bu nu cu mu du xu sv zv Av Bv nv cv mv dv xv sh zh Ah Bh nh ch mh dh ((xu * xu) + (xv * xv)) (4 * M + 1) r _ ?_ ?_ ?_ ?_ ?_ ?_ (SU.out.mono (by omega)) NS.out (by omega) H0.out hr).mono ?_; with_reducible exact KX.at_ (List.mem_of_getElem? (i := 2) rfl); with_reducible exact KX.at_ (List.mem_of_getElem? (i := 3) rfl); with_reducible exact KX.at_ (List.mem_of_getElem? (i := 4) rfl); with_reducible exact KX.at_ (List.mem_of_getElem? (i := 5) rfl); with_reducible exact KX.at_ (List.mem_of_getElem? (i := 0) rfl); with_reducible exact KX.at_ (List.mem_of_getElem? (i := 1) rfl)); rintro e6 w6 ⟨sr, Ar, nr, cr, zr, Br, mr, dr, rfl, I6, J6, O6, hb6⟩; have K6 := ((KX.call2 hb6 O6).int J6).int I6; clear KX; obtain ⟨q6_0, q6_1, q6_2, q6_3, q6_4, q6_5, q6_6, q6_7⟩ := (K6.blk (g := w.heap.size) (vs := [.bool su, .slice Au nu cu, .bool zu, .slice Bu mu du, .bool sv, .slice Av nv cv, .bool zv, .slice Bv mv dv]) (by simp)).c8; have sz6 : w.heap.size + 1 < w6.heap.size := (K6.blk (g := w.heap.size + 1) (vs := [.bool false, .slice none 0 0, .bool false, .slice none 0 0]) (by simp)).1; (try (have V0_6 := K6.blk (g := w4.heap.size) (vs := [.bool false, .slice none 0 0, .bool false, .slice none 0 0]) (by with_reducible (first | exact List.mem_cons_self | exact List.mem_cons_of_mem _ List.mem_cons_self)); obtain ⟨⟨va0_6, vb0_6, vc0_6, vd0_6⟩, ⟨ve0_6, vf0_6, vg0_6, vh0_6⟩, vi0_6⟩ := V0_6.four; have fa0_6 : ¬ w.heap.size = w4.heap.size := (by omega); have fb0_6 : ¬ w4.heap.size = w.heap.size := (by omega); skip)); (try (have V1_6 := K6.blk (g := w5.heap.size) (vs := [.bool false, .slice none 0 0, .bool false, .slice none 0 0]) (by with_reducible (first | exact List.mem_cons_self | exact List.mem_cons_of_mem _ List.mem_cons_self)); obtain ⟨⟨va1_6, vb1_6, vc1_6, vd1_6⟩, ⟨ve1_6, vf1_6, vg1_6, vh1_6⟩, vi1_6⟩ := V1_6.four; have fa1_6 : ¬ w.heap.size = w5.heap.size := (by omega); have fb1_6 : ¬ w5.heap.size = w.heap.size := (by omega); skip)); clear I6 J6 O6 hb6)
        | (go_at_call 178; apply Calls.withMo (w0 := w); (case K => (repeat (first | (with_reducible exact K1) | (with_reducible apply Mo.drewN) | (with_reducible apply Mo.drew) | (with_reducible apply Mo.varz)))); intro KX; (try simp only [hszA] at KX); (with_reducible refine (arg_norm_any su zu Au Bu nu cu mu du xu sv zv Av Bv nv cv mv dv xv M _ ?_ ?_ SU.out ?_ ?_ SV.out (by omega)).mono ?_; with_reducible exact KX.at_ (List.mem_of_getElem? (i := 0) rfl); with_reducible exact KX.at_ (List.mem_of_getElem? (i := 1) rfl); with_reducible exact KX.at_ (List.mem_of_getElem? (i := 2) rfl); with_reducible exact KX.at_ (List.mem_of_getElem? (i := 3) rfl)); rintro e5 w5 ⟨sh, Ah, nh, ch, zh, Bh, mh, dh, rfl, I5, J5, hb5⟩; have K5 := ((KX.next hb5).int J5).int I5; clear KX; obtain ⟨q5_0, q5_1, q5_2, q5_3, q5_4, q5_5, q5_6, q5_7⟩ := (K5.blk (g := w.heap.size) (vs := [.bool su, .slice Au nu cu, .bool zu, .slice Bu mu du, .bool sv, .slice Av nv cv, .bool zv, .slice Bv mv dv]) (by simp)).c8; have sz5 : w.heap.size + 1 < w5.heap.size := (K5.blk (g := w.heap.size + 1) (vs := [.bool false, .slice none 0 0, .bool false, .slice none 0 0]) (by simp)).1; (try (have V0_5 := K5.blk (g := w4.heap.size) (vs := [.bool false, .slice none 0 0, .bool false, .slice none 0 0]) (by with_reducible (first | exact List.mem_cons_self | exact List.mem_cons_of_mem _ List.mem_cons_self)); obtain ⟨⟨va0_5, vb0_5, vc0_5, vd0_5⟩, ⟨ve0_5, vf0_5, vg0_5, vh0_5⟩, vi0_5⟩ := V0_5.four; have fa0_5 : ¬ w.heap.size = w4.heap.size := (by omega); have fb0_5 : ¬ w4.heap.size = w.heap.size := (by omega); skip)); clear I5 J5 hb5)
        | fail)
    all_goals (go_wp2_with fail)
    all_goals go_meet
    all_goals (first
      | (refine ⟨w6.heap.size, sr, Ar, nr, cr, zr, Br, mr, dr, rfl, by assumption, ((K6.var (g := w6.heap.size) rfl [.bool sr, .slice Ar nr cr, .bool zr, .slice Br mr dr] 26).pick (L' := [(w6.heap.size, [.bool sr, .slice Ar nr cr, .bool zr, .slice Br mr dr]), (w.heap.size + 1, [.bool false, .slice none 0 0, .bool false, .slice none 0 0])]) (l' := [(sr, Ar, nr, cr, r.num), (zr, Br, mr, dr, (r.den : Int))]) (by simp) (by simp))⟩)
      | (refine ⟨w5.heap.size, sr, Ar, nr, cr, zr, Br, mr, dr, rfl, by assumption, ((K6.pick (L' := [(w5.heap.size, [.bool false, .slice none 0 0, .bool false, .slice none 0 0]), (w.heap.size + 1, [.bool false, .slice none 0 0, .bool false, .slice none 0 0])]) (l' := [(sr, Ar, nr, cr, r.num), (zr, Br, mr, dr, (r.den : Int))]) (by simp) (by simp)).set4 (by simp; omega) sr Ar nr cr zr Br mr dr)⟩)
      | (refine ⟨w4.heap.size, sr, Ar, nr, cr, zr, Br, mr, dr, rfl, by assumption, ((K6.pick (L' := [(w4.heap.size, [.bool false, .slice none 0 0, .bool false, .slice none 0 0]), (w.heap.size + 1, [.bool false, .slice none 0 0, .bool false, .slice none 0 0])]) (l' := [(sr, Ar, nr, cr, r.num), (zr, Br, mr, dr, (r.den : Int))]) (by simp) (by simp)).set4 (by simp; omega) sr Ar nr cr zr Br mr dr)⟩))
  case rest =>
    obtain ⟨g, sr, Ar, nr, cr, zr, Br, mr, dr, rfl, hg, KC⟩ := hcut
    clear K1 q0 q1 q2 q3 q4 q5 q6 q7 sz4
    rename World => wc
    have IR := KC.at_ (neg := sr) (A := Ar) (n := nr) (c := cr) (z := r.num) (by simp)
    have JR := KC.at_ (neg := zr) (A := Br) (n := mr) (c := dr) (z := (r.den : Int)) (by simp)
    obtain ⟨lr, S1, _⟩ := id IR
    obtain ⟨kr, S2, _⟩ := id JR
    have oa : LmE.at_ wc ((sr, Ar, nr, cr, lr), (zr, Br, mr, dr, kr)) := ⟨S1, S2, by show nr ≤ _; have := int_len IR SR.out.1; omega, by show mr ≤ _; have := int_len JR SR.out.2; omega⟩
    have HLG : Hid ((if lgAll (fun _ => ((sr, Ar, nr, cr, lr), (zr, Br, mr, dr, kr))) 1 then (4 : Int) else 0) = 4) := Lib.hid (by rw [show lgAll (fun _ => ((sr, Ar, nr, cr, lr), (zr, Br, mr, dr, kr))) 1 = true by unfold lgAll lgAll; rw [lg_of IR JR HS.out]; rfl]; rfl)
    have HLF := Lib.hid (lfs_one wc (g := wc.heap.size) rfl 26 oa)
    clear IR JR S1 S2 oa
    have ga : ¬ g = w.heap.size + 1 := by omega
    have gb : ¬ w.heap.size + 1 = g := by omega
    have gc : ¬ g = w.heap.size := by omega
    have gd : ¬ w.heap.size = g := by omega
    obtain ⟨⟨c0, c1, c2, c3⟩, _, _⟩ := (KC.blk (g := g) (vs := [.bool sr, .slice Ar nr cr, .bool zr, .slice Br mr dr]) (by simp)).four
    go_wp2_with fail
    refine (rat_answer_any wc.heap.size 1 1 (fun _ => ((sr, Ar, nr, cr, lr), (zr, Br, mr, dr, kr))) 4 _ HLF.out (by decide) (by decide) HLG).mono ?_
    rintro e8 w8 ⟨rfl, hb8⟩
    have KD := (KC.box (.cells #[.bool sr, .slice Ar nr cr, .bool zr, .slice Br mr dr] 26)).next hb8
    clear KC hb8 HLF c0 c1 c2 c3
    obtain ⟨⟨c0, c1, c2, c3⟩, _, _⟩ := (KD.blk (g := g) (vs := [.bool sr, .slice Ar nr cr, .bool zr, .slice Br mr dr]) (by simp)).four
    obtain ⟨⟨f0, f1, f2, f3⟩, ⟨ff0, ff1, ff2, ff3⟩, _⟩ := (KD.blk (g := w.heap.size + 1) (vs := [.bool false, .slice none 0 0, .bool false, .slice none 0 0]) (by simp)).four
    go_wp2_with fail
    have K9 := (KD.pick (L' := [(w.heap.size + 1, [.bool false, .slice none 0 0, .bool false, .slice none 0 0])]) (l' := []) (by simp) (by simp)).set4 (by simp) false none 0 0 false none 0 0
    exact bodyPost_ret (v := .tuple #[.agg #[.bool false, .slice none 0 0, .bool false, .slice none 0 0], .int .i64 4]) (by simp [results, Tryz.results132, go_sem, f0, f1, f2, f3]) rfl ⟨false, none, 0, 0, false, none, 0, 0, rfl, isInt_nought, isInt_nought, owns_nil2 _ _, K9.1⟩

set_option maxRecDepth 100000 in
set_option maxHeartbeats 6400000 in
theorem owb_size_of (su : Bool) (Au : Option Addr) (nu cu : Nat) (lu : List Nat) (zu : Bool) (Bu : Option Addr) (mu du : Nat) (ku : List Nat) (sv : Bool) (Av : Option Addr) (nv cv : Nat) (lv : List Nat) (zv : Bool) (Bv : Option Addr) (mv dv : Nat) (kv : List Nat) (x y v : Int) (w : World) (au : LmE.at_ w ((su, Au, nu, cu, lu), (zu, Bu, mu, du, ku))) (av : LmE.at_ w ((sv, Av, nv, cv, lv), (zv, Bv, mv, dv, kv)))
    (hA : ∀ W, LmE.at_ W ((su, Au, nu, cu, lu), (zu, Bu, mu, du, ku)) → LmE.at_ W ((sv, Av, nv, cv, lv), (zv, Bv, mv, dv, kv)) → Calls Tryz.prog 132 #[.agg #[.bool su, .slice Au nu cu, .bool zu, .slice Bu mu du, .bool sv, .slice Av nv cv, .bool zv, .slice Bv mv dv], .func (.func 133) #[] #[]] W (RetF2 W x y v)) :
    Calls Tryz.prog 32 #[.agg #[.bool su, .slice Au nu cu, .bool zu, .slice Bu mu du, .bool sv, .slice Av nv cv, .bool zv, .slice Bv mv dv]] w (RetF2 w x y v) := by
  have K0 := ((Mo.nil w).var (g := w.heap.size) rfl [.bool su, .slice Au nu cu, .bool zu, .slice Bu mu du, .bool sv, .slice Av nv cv, .bool zv, .slice Bv mv dv] 30).var (g := w.heap.size + 1) (by simp) [.bool false, .slice none 0 0, .bool false, .slice none 0 0] 26
  replace au := LmE.at_.below au K0.1
  replace av := LmE.at_.below av K0.1
  have g01 : ¬ w.heap.size = w.heap.size + 1 := by omega
  have g10 : ¬ w.heap.size + 1 = w.heap.size := by omega
  go_enter Tryz.func32, Tryz.ntmps32
  go_upto_region 1 with (fail)
  generalize (w.alloc (.cells #[.bool su, .slice Au nu cu, .bool zu, .slice Bu mu du, .bool sv, .slice Av nv cv, .bool zv, .slice Bv mv dv] 30)).alloc (.cells #[.bool false, .slice none 0 0, .bool false, .slice none 0 0] 26) = w0 at K0 au av ⊢
  obtain ⟨q0, q1, q2, q3, q4, q5, q6, q7⟩ := (K0.blk (g := w.heap.size) (vs := [.bool su, .slice Au nu cu, .bool zu, .slice Bu mu du, .bool sv, .slice Av nv cv, .bool zv, .slice Bv mv dv]) (by simp)).c8
  go_wp2_with fail
  refine (hA _ au av).mono ?_
  rintro e4 w4 ⟨sr, Ar, nr, cr, zr, Br, mr, dr, rfl, I4, J4, O4, hb4⟩
  have K1 := ((K0.call2 hb4 O4).int J4).int I4
  clear K0 hb4 q0 q1 q2 q3 q4 q5 q6 q7 au av hA
  obtain ⟨⟨f0, f1, f2, f3⟩, ⟨ff0, ff1, ff2, ff3⟩, _⟩ := (K1.blk (g := w.heap.size + 1) (vs := [.bool false, .slice none 0 0, .bool false, .slice none 0 0]) (by simp)).four
  go_wp2_with fail
  have K9 := (K1.pick (L' := [(w.heap.size + 1, [.bool false, .slice none 0 0, .bool false, .slice none 0 0])]) (l' := [(sr, Ar, nr, cr, x), (zr, Br, mr, dr, y)]) (by simp) (by simp)).set4 (by simp) sr Ar nr cr zr Br mr dr
  exact bodyPost_ret (v := .tuple #[.agg #[.bool sr, .slice Ar nr cr, .bool zr, .slice Br mr dr], .int .i64 v]) (by simp [results, Tryz.results32, go_sem, f0, f1, f2, f3]) rfl ⟨_, _, _, _, _, _, _, _, rfl, K9.at_ (by simp), K9.at_ (by simp), K9.own2 0 1 rfl rfl (by decide), K9.1⟩

set_option maxRecDepth 100000 in
set_option maxHeartbeats 6400000 in
theorem owb_curve_of (su : Bool) (Au : Option Addr) (nu cu : Nat) (lu : List Nat) (zu : Bool) (Bu : Option Addr) (mu du : Nat) (ku : List Nat) (sv : Bool) (Av : Option Addr) (nv cv : Nat) (lv : List Nat) (zv : Bool) (Bv : Option Addr) (mv dv : Nat) (kv : List Nat) (x y v : Int) (w : World) (au : LmE.at_ w ((su, Au, nu, cu, lu), (zu, Bu, mu, du, ku))) (av : LmE.at_ w ((sv, Av, nv, cv, lv), (zv, Bv, mv, dv, kv)))
    (hA : ∀ W, LmE.at_ W ((su, Au, nu, cu, lu), (zu, Bu, mu, du, ku)) → LmE.at_ W ((sv, Av, nv, cv, lv), (zv, Bv, mv, dv, kv)) → Calls Tryz.prog 132 #[.agg #[.bool su, .slice Au nu cu, .bool zu, .slice Bu mu du, .bool sv, .slice Av nv cv, .bool zv, .slice Bv mv dv], .func (.func 135) #[] #[]] W (RetF2 W x y v)) :
    Calls Tryz.prog 33 #[.agg #[.bool su, .slice Au nu cu, .bool zu, .slice Bu mu du, .bool sv, .slice Av nv cv, .bool zv, .slice Bv mv dv]] w (RetF2 w x y v) := by
  have K0 := ((Mo.nil w).var (g := w.heap.size) rfl [.bool su, .slice Au nu cu, .bool zu, .slice Bu mu du, .bool sv, .slice Av nv cv, .bool zv, .slice Bv mv dv] 30).var (g := w.heap.size + 1) (by simp) [.bool false, .slice none 0 0, .bool false, .slice none 0 0] 26
  replace au := LmE.at_.below au K0.1
  replace av := LmE.at_.below av K0.1
  have g01 : ¬ w.heap.size = w.heap.size + 1 := by omega
  have g10 : ¬ w.heap.size + 1 = w.heap.size := by omega
  go_enter Tryz.func33, Tryz.ntmps33
  go_upto_region 1 with (fail)
  generalize (w.alloc (.cells #[.bool su, .slice Au nu cu, .bool zu, .slice Bu mu du, .bool sv, .slice Av nv cv, .bool zv, .slice Bv mv dv] 30)).alloc (.cells #[.bool false, .slice none 0 0, .bool false, .slice none 0 0] 26) = w0 at K0 au av ⊢
  obtain ⟨q0, q1, q2, q3, q4, q5, q6, q7⟩ := (K0.blk (g := w.heap.size) (vs := [.bool su, .slice Au nu cu, .bool zu, .slice Bu mu du, .bool sv, .slice Av nv cv, .bool zv, .slice Bv mv dv]) (by simp)).c8
  go_wp2_with fail
  refine (hA _ au av).mono ?_
  rintro e4 w4 ⟨sr, Ar, nr, cr, zr, Br, mr, dr, rfl, I4, J4, O4, hb4⟩
  have K1 := ((K0.call2 hb4 O4).int J4).int I4
  clear K0 hb4 q0 q1 q2 q3 q4 q5 q6 q7 au av hA
  obtain ⟨⟨f0, f1, f2, f3⟩, ⟨ff0, ff1, ff2, ff3⟩, _⟩ := (K1.blk (g := w.heap.size + 1) (vs := [.bool false, .slice none 0 0, .bool false, .slice none 0 0]) (by simp)).four
  go_wp2_with fail
  have K9 := (K1.pick (L' := [(w.heap.size + 1, [.bool false, .slice none 0 0, .bool false, .slice none 0 0])]) (l' := [(sr, Ar, nr, cr, x), (zr, Br, mr, dr, y)]) (by simp) (by simp)).set4 (by simp) sr Ar nr cr zr Br mr dr
  exact bodyPost_ret (v := .tuple #[.agg #[.bool sr, .slice Ar nr cr, .bool zr, .slice Br mr dr], .int .i64 v]) (by simp [results, Tryz.results33, go_sem, f0, f1, f2, f3]) rfl ⟨_, _, _, _, _, _, _, _, rfl, K9.at_ (by simp), K9.at_ (by simp), K9.own2 0 1 rfl rfl (by decide), K9.1⟩
end Go.Proofs.YtmmplomkginadaaGreatDoor
