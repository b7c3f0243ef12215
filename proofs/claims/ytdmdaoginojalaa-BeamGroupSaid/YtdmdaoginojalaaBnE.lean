/-
  Beams behind matrices, by name (beam.Through); a beam turned about (polestarlaw15.turned).
-/
import Derived.Test.YtdmdaoginojalaaBnC
import Derived.Test.YtdmdaoginojalaaBgP
import Derived.Test.YtdmdaoginojalaaBmJ
import Derived.Test.YtdmdaoginojalaaAnD
namespace Go.Proofs.Ytdmdaoginojalaa
open Go.RowKit

/-- What a matrix makes of a beam, with what it comes to by name. -/
theorem beam_through_eq (sa : Bool) (Aa : Option Addr) (na ca : Nat) (la : List Nat) (za : Bool) (Ba : Option Addr) (ma da : Nat) (ka : List Nat) (xa : Rat) (sb : Bool) (Ab : Option Addr) (nb cb : Nat) (lb : List Nat) (zb : Bool) (Bb : Option Addr) (mb db : Nat) (kb : List Nat) (xb : Rat) (sc : Bool) (Ac : Option Addr) (nc cc : Nat) (lc : List Nat) (zc : Bool) (Bc : Option Addr) (mc dc : Nat) (kc : List Nat) (xc : Rat) (sd : Bool) (Ad : Option Addr) (nd cd : Nat) (ld : List Nat) (zd : Bool) (Bd : Option Addr) (md dd : Nat) (kd : List Nat) (xd : Rat) (su : Bool) (Au : Option Addr) (nu cu : Nat) (lu : List Nat) (zu : Bool) (Bu : Option Addr) (mu du : Nat) (ku : List Nat) (xu : Rat) (sv : Bool) (Av : Option Addr) (nv cv : Nat) (lv : List Nat) (zv : Bool) (Bv : Option Addr) (mv dv : Nat) (kv : List Nat) (xv : Rat) (r1 r2 : Rat) (w : World) (oa : OkF w ((sa, Aa, na, ca, la), (za, Ba, ma, da, ka)) xa) (ya : Sz xa 1000) (ob : OkF w ((sb, Ab, nb, cb, lb), (zb, Bb, mb, db, kb)) xb) (yb : Sz xb 1000) (oc : OkF w ((sc, Ac, nc, cc, lc), (zc, Bc, mc, dc, kc)) xc) (yc : Sz xc 1000) (od : OkF w ((sd, Ad, nd, cd, ld), (zd, Bd, md, dd, kd)) xd) (yd : Sz xd 1000) (ou : OkF w ((su, Au, nu, cu, lu), (zu, Bu, mu, du, ku)) xu) (yu : Sz xu 1000) (ov : OkF w ((sv, Av, nv, cv, lv), (zv, Bv, mv, dv, kv)) xv) (yv : Sz xv 1000) (hdet : xa * xd - xb * xc = 1) (hv : 0 < xv)
    (e1 : Hid (thR xa xb xc xd xu xv = r1)) (e2 : Hid (thI xc xd xu xv = r2)) (s1 : Sz r1 2048) (s2 : Sz r2 2048) :
    Calls Try.prog 7 #[.agg #[.bool sa, .slice Aa na ca, .bool za, .slice Ba ma da, .bool sb, .slice Ab nb cb, .bool zb, .slice Bb mb db, .bool sc, .slice Ac nc cc, .bool zc, .slice Bc mc dc, .bool sd, .slice Ad nd cd, .bool zd, .slice Bd md dd], .agg #[.bool su, .slice Au nu cu, .bool zu, .slice Bu mu du, .bool sv, .slice Av nv cv, .bool zv, .slice Bv mv dv]] w (RetGk w r1 r2) :=
  beam_through_ok sa Aa na ca la za Ba ma da ka xa sb Ab nb cb lb zb Bb mb db kb xb sc Ac nc cc lc zc Bc mc dc kc xc sd Ad nd cd ld zd Bd md dd kd xd su Au nu cu lu zu Bu mu du ku xu sv Av nv cv lv zv Bv mv dv kv xv 1000 r1 r2 w oa ya ob yb oc yc od yd ou yu ov yv (Nat.le_refl _) hdet hv (thN_ne hdet hv) (Lib.hid e1.out) (Lib.hid e2.out) s1 s2
theorem int_pow {w : World} {neg : Bool} {A : Option Addr} {n c : Nat} {z : Int} (h : IsInt w neg A n c z) : z.natAbs < 2 ^ (32 * n) := by
  have h1 := isInt_lt h
  rwa [show Lm.B ^ n = 2 ^ (32 * n) by rw [Nat.pow_mul]] at h1
theorem den_pow {w : World} {neg : Bool} {A : Option Addr} {n c : Nat} {x : Rat} (h : IsInt w neg A n c (x.den : Int)) : x.den < 2 ^ (32 * n) := by
  have h1 := int_pow h
  rwa [Int.natAbs_natCast] at h1
theorem okM_det {a b c d : LmE} (h : okM a b c d = true) : okB a = true ∧ okB b = true ∧ okB c = true ∧ okB d = true ∧ rv a * rv d - rv b * rv c = 1 := by
  unfold okM at h
  simp only [Bool.and_eq_true, decide_eq_true_eq] at h
  exact ⟨h.1.1.1.1, h.1.1.1.2, h.1.1.2, h.1.2, h.2⟩

set_option maxRecDepth 100000 in
set_option maxHeartbeats 6400000 in
theorem turned15_ok (su : Bool) (Au : Option Addr) (nu cu : Nat) (lu : List Nat) (zu : Bool) (Bu : Option Addr) (mu du : Nat) (ku : List Nat) (xu : Rat) (sv : Bool) (Av : Option Addr) (nv cv : Nat) (lv : List Nat) (zv : Bool) (Bv : Option Addr) (mv dv : Nat) (kv : List Nat) (xv : Rat) (w : World) (ou : OkF w ((su, Au, nu, cu, lu), (zu, Bu, mu, du, ku)) xu) (ov : OkF w ((sv, Av, nv, cv, lv), (zv, Bv, mv, dv, kv)) xv) :
    Calls Try.prog 11 #[.agg #[.bool su, .slice Au nu cu, .bool zu, .slice Bu mu du, .bool sv, .slice Av nv cv, .bool zv, .slice Bv mv dv]] w (RetGv w (-xu) xv) := by
  have K0 := ((Mm.nil w).var (g := w.heap.size) rfl [.bool su, .slice Au nu cu, .bool zu, .slice Bu mu du, .bool sv, .slice Av nv cv, .bool zv, .slice Bv mv dv] 30).var (g := w.heap.size + 1) (by simp) [.bool false, .slice none 0 0, .bool false, .slice none 0 0, .bool false, .slice none 0 0, .bool false, .slice none 0 0] 30
  have OU := Lib.hid ou
  have OV := Lib.hid ov
  have SU : Hid (Sz (-xu) 2048) := Lib.hid (sz_opp2 ou.ints.2.2)
  have HE : Hid ((0 : Rat) - xu = -xu) := Lib.hid (by grind)
  clear ou ov
  have g01 : ¬ w.heap.size = w.heap.size + 1 := by omega
  have g10 : ¬ w.heap.size + 1 = w.heap.size := by omega
  go_enter Try.func11, Try.ntmps11
  go_upto_region 1 with (fail)
  generalize (w.alloc (.cells #[.bool su, .slice Au nu cu, .bool zu, .slice Bu mu du, .bool sv, .slice Av nv cv, .bool zv, .slice Bv mv dv] 30)).alloc (.cells #[.bool false, .slice none 0 0, .bool false, .slice none 0 0, .bool false, .slice none 0 0, .bool false, .slice none 0 0] 30) = w0 at K0 ⊢
  have sz0 : w.heap.size + 1 < w0.heap.size := (K0.blk (g := w.heap.size + 1) (vs := [.bool false, .slice none 0 0, .bool false, .slice none 0 0, .bool false, .slice none 0 0, .bool false, .slice none 0 0]) (by simp)).1
  obtain ⟨q0_0, q0_1, q0_2, q0_3, q0_4, q0_5, q0_6, q0_7⟩ := (K0.blk (g := w.heap.size) (vs := [.bool su, .slice Au nu cu, .bool zu, .slice Bu mu du, .bool sv, .slice Av nv cv, .bool zv, .slice Bv mv dv]) (by simp)).c8
  go_cut [3, 4] from 5 to 13 (fun s3 s4 wx => ∃ (g3 : Nat) (sk : Bool) (Ak : Option Addr) (nk ck : Nat) (zk : Bool) (Bk : Option Addr) (mk dk : Nat), s3 = .pointer (some ⟨g3, 0, none⟩) ∧ s4 = .int .i64 0 ∧ w.heap.size + 1 < g3 ∧
    Mm w [(g3, [.bool sk, .slice Ak nk ck, .bool zk, .slice Bk mk dk]), (w.heap.size, [.bool su, .slice Au nu cu, .bool zu, .slice Bu mu du, .bool sv, .slice Av nv cv, .bool zv, .slice Bv mv dv]), (w.heap.size + 1, [.bool false, .slice none 0 0, .bool false, .slice none 0 0, .bool false, .slice none 0 0, .bool false, .slice none 0 0])] [(sk, Ak, nk, ck, (-xu).num), (zk, Bk, mk, dk, ((-xu).den : Int))] wx)
  case first =>
    go_region_held3 (fun w' => w'.cell? ⟨w.heap.size, 0, none⟩ = some (.bool su) ∧ w'.cell? ⟨w.heap.size, 1, none⟩ = some (.slice Au nu cu) ∧ w'.cell? ⟨w.heap.size, 2, none⟩ = some (.bool zu) ∧ w'.cell? ⟨w.heap.size, 3, none⟩ = some (.slice Bu mu du) ∧ w'.cell? ⟨w.heap.size, 4, none⟩ = some (.bool sv) ∧ w'.cell? ⟨w.heap.size, 5, none⟩ = some (.slice Av nv cv) ∧ w'.cell? ⟨w.heap.size, 6, none⟩ = some (.bool zv) ∧ w'.cell? ⟨w.heap.size, 7, none⟩ = some (.slice Bv mv dv))
      (go_keep)
      (first
        | (go_at_call 38; apply Calls.withMm (w0 := w); (case K => (repeat (first | (with_reducible exact K1) | (with_reducible apply Mm.drewN) | (with_reducible apply Mm.drew) | (with_reducible apply Mm.varz)))); intro KX; (try simp only [hszA] at KX); obtain ⟨li9, ki9, oi⟩ := okF_of (r := 0) (KX.at_ (neg := si) (A := Ai) (n := ni) (c := ci) (z := (0 : Rat).num) (by repeat (first | exact List.mem_cons_self | apply List.mem_cons_of_mem))) (KX.at_ (neg := zi) (A := Bi) (n := mi) (c := di) (z := (((0 : Rat).den : Nat) : Int)) (by repeat (first | exact List.mem_cons_self | apply List.mem_cons_of_mem))) (Sz.zero.mono (by decide)); (refine (frac_sub_any si Ai ni ci li9 zi Bi mi di ki9 su Au nu cu lu zu Bu mu du ku 0 xu (-xu) _ oi (OU.out.next KX.1) SU.out HE).mono ?_); rintro e2 w2 ⟨sk, Ak, nk, ck, lk, zk, Bk, mk, dk, kk, rfl, ok, hb2⟩; have K2 := (((KX.next hb2).int ok.ints.1).int ok.ints.2.1); clear KX oi ok hb2; obtain ⟨q2_0, q2_1, q2_2, q2_3, q2_4, q2_5, q2_6, q2_7⟩ := (K2.blk (g := w.heap.size) (vs := [.bool su, .slice Au nu cu, .bool zu, .slice Bu mu du, .bool sv, .slice Av nv cv, .bool zv, .slice Bv mv dv]) (by simp)).c8; have sz2 : w.heap.size + 1 < w2.heap.size := (K2.blk (g := w.heap.size + 1) (vs := [.bool false, .slice none 0 0, .bool false, .slice none 0 0, .bool false, .slice none 0 0, .bool false, .slice none 0 0]) (by simp)).1; (try (have V0_2 := K2.blk (g := w0.heap.size) (vs := [.bool false, .slice none 0 0, .bool false, .slice none 0 0]) (by with_reducible (first | exact List.mem_cons_self | exact List.mem_cons_of_mem _ List.mem_cons_self)); obtain ⟨⟨va0_2, vb0_2, vc0_2, vd0_2⟩, ⟨ve0_2, vf0_2, vg0_2, vh0_2⟩, vi0_2⟩ := V0_2.four; have fa0_2 : ¬ w.heap.size = w0.heap.size := (by omega); have fb0_2 : ¬ w0.heap.size = w.heap.size := (by omega); skip)); (try (have V1_2 := K2.blk (g := w1.heap.size) (vs := [.bool false, .slice none 0 0, .bool false, .slice none 0 0]) (by with_reducible (first | exact List.mem_cons_self | exact List.mem_cons_of_mem _ List.mem_cons_self)); obtain ⟨⟨va1_2, vb1_2, vc1_2, vd1_2⟩, ⟨ve1_2, vf1_2, vg1_2, vh1_2⟩, vi1_2⟩ := V1_2.four; have fa1_2 : ¬ w.heap.size = w1.heap.size := (by omega); have fb1_2 : ¬ w1.heap.size = w.heap.size := (by omega); skip)); skip)
        | (go_at_call 23; apply Calls.withMm (w0 := w); (case K => (repeat (first | (with_reducible exact K0) | (with_reducible apply Mm.drewN) | (with_reducible apply Mm.drew) | (with_reducible apply Mm.varz)))); intro KX; (try simp only [hszA] at KX); (with_reducible refine (gauss_of_any 0 0 0 0 _ (by decide) (by decide) (Lib.hid (by decide +kernel) : Hid (Rat.divInt 0 1 = (0 : Rat))) (Lib.hid (by decide +kernel) : Hid (Rat.divInt 0 1 = (0 : Rat)))).mono ?_); rintro e1 w1 ⟨si, Ai, ni, ci, li, zi, Bi, mi, di, ki, sj, Aj, nj, cj, lj, zj, Bj, mj, dj, kj, rfl, oi, oj, hb1⟩; have K1 := (((KX.next hb1).int oi.ints.1).int oi.ints.2.1); clear KX oi oj hb1; obtain ⟨q1_0, q1_1, q1_2, q1_3, q1_4, q1_5, q1_6, q1_7⟩ := (K1.blk (g := w.heap.size) (vs := [.bool su, .slice Au nu cu, .bool zu, .slice Bu mu du, .bool sv, .slice Av nv cv, .bool zv, .slice Bv mv dv]) (by simp)).c8; have sz1 : w.heap.size + 1 < w1.heap.size := (K1.blk (g := w.heap.size + 1) (vs := [.bool false, .slice none 0 0, .bool false, .slice none 0 0, .bool false, .slice none 0 0, .bool false, .slice none 0 0]) (by simp)).1; (try (have V0_1 := K1.blk (g := w0.heap.size) (vs := [.bool false, .slice none 0 0, .bool false, .slice none 0 0]) (by with_reducible (first | exact List.mem_cons_self | exact List.mem_cons_of_mem _ List.mem_cons_self)); obtain ⟨⟨va0_1, vb0_1, vc0_1, vd0_1⟩, ⟨ve0_1, vf0_1, vg0_1, vh0_1⟩, vi0_1⟩ := V0_1.four; have fa0_1 : ¬ w.heap.size = w0.heap.size := (by omega); have fb0_1 : ¬ w0.heap.size = w.heap.size := (by omega); skip)); skip)
        | fail)
    all_goals (go_wp2_with fail)
    all_goals go_meet
    all_goals (first
      | (refine ⟨w2.heap.size, sk, Ak, nk, ck, zk, Bk, mk, dk, rfl, rfl, by assumption, ((K2.var (g := w2.heap.size) rfl [.bool sk, .slice Ak nk ck, .bool zk, .slice Bk mk dk] 26).pick (L' := [(w2.heap.size, [.bool sk, .slice Ak nk ck, .bool zk, .slice Bk mk dk]), (w.heap.size, [.bool su, .slice Au nu cu, .bool zu, .slice Bu mu du, .bool sv, .slice Av nv cv, .bool zv, .slice Bv mv dv]), (w.heap.size + 1, [.bool false, .slice none 0 0, .bool false, .slice none 0 0, .bool false, .slice none 0 0, .bool false, .slice none 0 0])]) (l' := [(sk, Ak, nk, ck, (-xu).num), (zk, Bk, mk, dk, ((-xu).den : Int))]) (by simp) (by simp))⟩)
      | (refine ⟨w1.heap.size, sk, Ak, nk, ck, zk, Bk, mk, dk, rfl, rfl, by assumption, ((K2.pick (L' := [(w1.heap.size, [.bool false, .slice none 0 0, .bool false, .slice none 0 0]), (w.heap.size, [.bool su, .slice Au nu cu, .bool zu, .slice Bu mu du, .bool sv, .slice Av nv cv, .bool zv, .slice Bv mv dv]), (w.heap.size + 1, [.bool false, .slice none 0 0, .bool false, .slice none 0 0, .bool false, .slice none 0 0, .bool false, .slice none 0 0])]) (l' := [(sk, Ak, nk, ck, (-xu).num), (zk, Bk, mk, dk, ((-xu).den : Int))]) (by simp) (by simp)).set4 (by simp; omega) sk Ak nk ck zk Bk mk dk)⟩)
      | (refine ⟨w0.heap.size, sk, Ak, nk, ck, zk, Bk, mk, dk, rfl, rfl, by assumption, ((K2.pick (L' := [(w0.heap.size, [.bool false, .slice none 0 0, .bool false, .slice none 0 0]), (w.heap.size, [.bool su, .slice Au nu cu, .bool zu, .slice Bu mu du, .bool sv, .slice Av nv cv, .bool zv, .slice Bv mv dv]), (w.heap.size + 1, [.bool false, .slice none 0 0, .bool false, .slice none 0 0, .bool false, .slice none 0 0, .bool false, .slice none 0 0])]) (l' := [(sk, Ak, nk, ck, (-xu).num), (zk, Bk, mk, dk, ((-xu).den : Int))]) (by simp) (by simp)).set4 (by simp; omega) sk Ak nk ck zk Bk mk dk)⟩))
  case rest =>
    obtain ⟨g3, sk, Ak, nk, ck, zk, Bk, mk, dk, rfl, rfl, hg3, KC⟩ := hcut
    clear K0 sz0 q0_0 q0_1 q0_2 q0_3 q0_4 q0_5 q0_6 q0_7
    rename World => wc
    have ga : ¬ g3 = w.heap.size + 1 := by omega
    have gb : ¬ w.heap.size + 1 = g3 := by omega
    have gc : ¬ g3 = w.heap.size := by omega
    have gd : ¬ w.heap.size = g3 := by omega
    obtain ⟨⟨k0, k1, k2, k3⟩, _, _⟩ := (KC.blk (g := g3) (vs := [.bool sk, .slice Ak nk ck, .bool zk, .slice Bk mk dk]) (by simp)).four
    obtain ⟨q0, q1, q2, q3, q4, q5, q6, q7⟩ := (KC.blk (g := w.heap.size) (vs := [.bool su, .slice Au nu cu, .bool zu, .slice Bu mu du, .bool sv, .slice Av nv cv, .bool zv, .slice Bv mv dv]) (by simp)).c8
    obtain ⟨f0, f1, f2, f3, f4, f5, f6, f7⟩ := (KC.blk (g := w.heap.size + 1) (vs := [.bool false, .slice none 0 0, .bool false, .slice none 0 0, .bool false, .slice none 0 0, .bool false, .slice none 0 0]) (by simp)).c8
    obtain ⟨ff0, ff1, ff2, ff3, ff4, ff5, ff6, ff7, _⟩ := (KC.blk (g := w.heap.size + 1) (vs := [.bool false, .slice none 0 0, .bool false, .slice none 0 0, .bool false, .slice none 0 0, .bool false, .slice none 0 0]) (by simp)).f8
    go_wp2_with fail
    have K9 := (KC.pick (L' := [(w.heap.size + 1, [.bool false, .slice none 0 0, .bool false, .slice none 0 0, .bool false, .slice none 0 0, .bool false, .slice none 0 0])]) (l' := [(sk, Ak, nk, ck, (-xu).num), (zk, Bk, mk, dk, ((-xu).den : Int))]) (by simp) (by simp)).set8 (by simp) sk Ak nk ck zk Bk mk dk sv Av nv cv zv Bv mv dv
    obtain ⟨lk9, kk9, ok9⟩ := okF_of (r := -xu) (K9.at_ (neg := sk) (A := Ak) (n := nk) (c := ck) (z := (-xu).num) (by simp)) (K9.at_ (neg := zk) (A := Bk) (n := mk) (c := dk) (z := (((-xu).den : Nat) : Int)) (by simp)) SU.out
    exact bodyPost_ret (v := .agg #[.bool sk, .slice Ak nk ck, .bool zk, .slice Bk mk dk, .bool sv, .slice Av nv cv, .bool zv, .slice Bv mv dv]) (by simp [results, Try.results11, go_sem, f0, f1, f2, f3, f4, f5, f6, f7]) rfl ⟨_, _, _, _, _, _, _, _, _, _, _, _, _, _, _, _, _, _, _, _, rfl, ok9, OV.out.next K9.1, K9.1⟩
end Go.Proofs.Ytdmdaoginojalaa
