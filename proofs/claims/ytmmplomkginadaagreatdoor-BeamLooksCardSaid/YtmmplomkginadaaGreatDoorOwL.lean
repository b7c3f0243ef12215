/-
  The walk of BeamLooks.
-/
import Derived.Test.YtmmplomkginadaaGreatDoorBmF
import Derived.Test.YtmmplomkginadaaGreatDoorOwM
import Derived.Test.YtmmplomkginadaaGreatDoorOwT
import Derived.Test.YtmmplomkginadaaGreatDoorBkO
import Derived.Test.YtmmplomkginadaaGreatDoorBmJ
namespace Go.Proofs.YtmmplomkginadaaGreatDoor
open Go.RowKit

set_option maxRecDepth 100000 in
set_option maxHeartbeats 6400000 in
theorem law_looks (su : Bool) (Au : Option Addr) (nu cu : Nat) (lu : List Nat) (zu : Bool) (Bu : Option Addr) (mu du : Nat) (ku : List Nat) (sv : Bool) (Av : Option Addr) (nv cv : Nat) (lv : List Nat) (zv : Bool) (Bv : Option Addr) (mv dv : Nat) (kv : List Nat) (w : World) (pu : Sl w Au nu cu lu) (qu : Sl w Bu mu du ku) (hnu : nu ≤ 281474976710656) (hmu : mu ≤ 281474976710656) (pv : Sl w Av nv cv lv) (qv : Sl w Bv mv dv kv) (hnv : nv ≤ 281474976710656) (hmv : mv ≤ 281474976710656) :
    Calls Tryz.prog 5 #[.agg #[.bool su, .slice Au nu cu, .bool zu, .slice Bu mu du, .bool sv, .slice Av nv cv, .bool zv, .slice Bv mv dv]] w (RetV w (.bool true)) := by
  have K0 := (Mo.nil w).var (g := w.heap.size) rfl [.bool su, .slice Au nu cu, .bool zu, .slice Bu mu du, .bool sv, .slice Av nv cv, .bool zv, .slice Bv mv dv] 30
  replace pu := pu.below K0.1
  replace qu := qu.below K0.1
  have yu := cost_bound hnu hmu
  replace pv := pv.below K0.1
  replace qv := qv.below K0.1
  have yv := cost_bound hnv hmv
  obtain ⟨p2, hp2⟩ : ∃ p, costFr nu mu + costFr nv mv = p := ⟨_, rfl⟩
  obtain ⟨big, hbig⟩ : ∃ b, decide (1048576 < p2) = b := ⟨_, rfl⟩
  have HP2 := Lib.hid hp2
  have HBIG := Lib.hid hbig
  have HSUM : Hid (p2 ≤ 9223372036854775807) := Lib.hid (by omega)
  have SMu : Hid (big = false → nu ≤ 1000000000 ∧ mu ≤ 1000000000) := Lib.hid (fun hb => cost_low (by rw [hb] at hbig; have := of_decide_eq_false hbig; omega))
  have SMv : Hid (big = false → nv ≤ 1000000000 ∧ mv ≤ 1000000000) := Lib.hid (fun hb => cost_low (by rw [hb] at hbig; have := of_decide_eq_false hbig; omega))
  clear hp2 hbig yu yv
  go_enter Tryz.func5, Tryz.ntmps5
  go_upto_region 1 with (fail)
  generalize w.alloc (.cells #[.bool su, .slice Au nu cu, .bool zu, .slice Bu mu du, .bool sv, .slice Av nv cv, .bool zv, .slice Bv mv dv] 30) = w0 at K0 pu qu pv qv ⊢

  have rgq := Lib.hid (K0.blk (g := w.heap.size) (vs := [.bool su, .slice Au nu cu, .bool zu, .slice Bu mu du, .bool sv, .slice Av nv cv, .bool zv, .slice Bv mv dv]) (List.mem_of_getElem? (i := 0) rfl)).rng
  go_wp2_with (first | (refine wpList_load_any (by rfl) _ _ rfl (w.heap.size) 0 rfl _ _ rgq.out Tryz.underlying30 rfl size_ga ?_))
  refine (gauss_cost_of su zu Au Bu nu cu mu du sv zv Av Bv nv cv mv dv p2 _ hnu hmu hnv hmv HP2).mono ?_
  rintro e1 w1 ⟨rfl, hb⟩
  have K1 := K0.next hb
  replace pu := pu.below hb
  replace qu := qu.below hb
  replace pv := pv.below hb
  replace qv := qv.below hb
  clear K0 hb rgq
  go_wp2_with fail
  refine (beyond_one w1.heap.size p2 big _ (nats_new w1 _ [p2]) HSUM.out HBIG).mono ?_
  rintro e2 w2 ⟨rfl, hb⟩
  have hb2 := below_box hb
  have K2 := K1.next hb2
  replace pu := pu.below hb2
  replace qu := qu.below hb2
  replace pv := pv.below hb2
  replace qv := qv.below hb2
  clear K1 hb hb2
  cases big with
  | true =>
    go_wp2_with fail
    go_ret
    exact ⟨rfl, K2.1⟩
  | false =>
    obtain ⟨bnu, bmu⟩ := SMu.out rfl
    have Eu : LmE.at_ w2 ((su, Au, nu, cu, lu), (zu, Bu, mu, du, ku)) := ⟨pu, qu, bnu, bmu⟩
    obtain ⟨bnv, bmv⟩ := SMv.out rfl
    have Ev : LmE.at_ w2 ((sv, Av, nv, cv, lv), (zv, Bv, mv, dv, kv)) := ⟨pv, qv, bnv, bmv⟩
    obtain ⟨M, hM0⟩ : ∃ M, M = 2048 := ⟨_, rfl⟩
    have hM : M ≤ 1000000000 := by omega
    obtain ⟨x1, y1, x2, y2, v, sx, sy, sv', cx, cy, cv', hbnd, hall⟩ := looks_all su Au nu cu lu zu Bu mu du ku sv Av nv cv lv zv Bv mv dv kv M hM0 w2 Eu Ev
    have HB := Lib.hid hbnd
    have HA := Lib.hid hall
    clear hbnd hall hM0 pu qu pv qv SMu SMv HP2 HBIG HSUM hnu hmu hnv hmv
    go_upto_region 3 with (fail)
    as_aux_lemma =>
      have rgq := Lib.hid (K2.blk (g := w.heap.size) (vs := [.bool su, .slice Au nu cu, .bool zu, .slice Bu mu du, .bool sv, .slice Av nv cv, .bool zv, .slice Bv mv dv]) (List.mem_of_getElem? (i := 0) rfl)).rng
      go_wp2_with (first | (refine wpList_load_any (by rfl) _ _ rfl (w.heap.size) 0 rfl _ _ rgq.out Tryz.underlying30 rfl size_ga ?_))
      refine (owt_gauss_any su Au nu cu lu zu Bu mu du ku sv Av nv cv lv zv Bv mv dv kv _ Eu Ev).mono ?_
      rintro e3 v3 ⟨gu, eu, hu, fu, gv, ev, hv, fv, rfl, Tu, Uu, Tv, Uv, O, hb⟩
      have K3 := (K2.call4 hb O).var (g := v3.heap.size) rfl [.bool su, .slice (some ⟨gu, 0, none⟩) nu eu, .bool zu, .slice (some ⟨hu, 0, none⟩) mu fu, .bool sv, .slice (some ⟨gv, 0, none⟩) nv ev, .bool zv, .slice (some ⟨hv, 0, none⟩) mv fv] 30
      have hbx : Below v3.heap.size v3 (v3.alloc (.cells #[.bool su, .slice (some ⟨gu, 0, none⟩) nu eu, .bool zu, .slice (some ⟨hu, 0, none⟩) mu fu, .bool sv, .slice (some ⟨gv, 0, none⟩) nv ev, .bool zv, .slice (some ⟨hv, 0, none⟩) mv fv] 30)) := (Below.refl _ _).alloc (Nat.le_refl _) _
      replace Eu := LmE.at_.below (LmE.at_.below Eu hb) hbx
      replace Tu := Twl.below Tu hbx
      replace Uu := Twl.below Uu hbx
      replace Ev := LmE.at_.below (LmE.at_.below Ev hb) hbx
      replace Tv := Twl.below Tv hbx
      replace Uv := Twl.below Uv hbx
      clear K2 hb hbx O rgq
      go_upto_region 4 with (fail)
      generalize v3.heap.size = gz at K3 ⊢
      generalize v3.alloc (.cells #[.bool su, .slice (some ⟨gu, 0, none⟩) nu eu, .bool zu, .slice (some ⟨hu, 0, none⟩) mu fu, .bool sv, .slice (some ⟨gv, 0, none⟩) nv ev, .bool zv, .slice (some ⟨hv, 0, none⟩) mv fv] 30) = u3 at K3 Eu Ev Tu Uu Tv Uv ⊢
      as_aux_lemma =>
        have rgz := Lib.hid (K3.blk (g := gz) (vs := [.bool su, .slice (some ⟨gu, 0, none⟩) nu eu, .bool zu, .slice (some ⟨hu, 0, none⟩) mu fu, .bool sv, .slice (some ⟨gv, 0, none⟩) nv ev, .bool zv, .slice (some ⟨hv, 0, none⟩) mv fv]) (List.mem_of_getElem? (i := 0) rfl)).rng
        go_wp2_with (first | (refine wpList_load_any (by rfl) _ _ rfl (gz) 0 rfl _ _ rgz.out Tryz.underlying30 rfl size_ga ?_))
        refine ((HA.out (some ⟨gu, 0, none⟩) (some ⟨hu, 0, none⟩) nu eu mu fu (some ⟨gv, 0, none⟩) (some ⟨hv, 0, none⟩) nv ev mv fv _ (⟨Tu.2.1, Uu.2.1, bnu, bmu⟩ : LmE.at_ u3 ((su, some ⟨gu, 0, none⟩, nu, eu, lu), (zu, some ⟨hu, 0, none⟩, mu, fu, ku))) (⟨Tv.2.1, Uv.2.1, bnv, bmv⟩ : LmE.at_ u3 ((sv, some ⟨gv, 0, none⟩, nv, ev, lv), (zv, some ⟨hv, 0, none⟩, mv, fv, kv)))).1).mono ?_
        rintro e4 v4 ⟨sa, Aa, na, ca, za, Ba, ma, da, sb, Ab, nb, cb, zb, Bb, mb, db, rfl, I4_0, I4_1, I4_2, I4_3, O, hb⟩
        have hbx : Below v4.heap.size v4 ((v4.alloc (.cells #[.bool sa, .slice Aa na ca, .bool za, .slice Ba ma da] 26)).alloc (.cells #[.bool sb, .slice Ab nb cb, .bool zb, .slice Bb mb db] 26)) := ((Below.refl _ _).alloc (Nat.le_refl _) _).alloc (by simp) _
        have K4 := (((((((K3.call4 hb O).int I4_3).int I4_2).int I4_1).int I4_0).var (g := v4.heap.size) rfl [.bool sa, .slice Aa na ca, .bool za, .slice Ba ma da] 26).var (g := v4.heap.size + 1) (by simp) [.bool sb, .slice Ab nb cb, .bool zb, .slice Bb mb db] 26)
        replace Eu := LmE.at_.below (LmE.at_.below Eu hb) hbx
        replace Ev := LmE.at_.below (LmE.at_.below Ev hb) hbx
        replace Tu := Twl.below (Twl.below Tu hb) hbx
        replace Uu := Twl.below (Twl.below Uu hb) hbx
        replace Tv := Twl.below (Twl.below Tv hb) hbx
        replace Uv := Twl.below (Twl.below Uv hb) hbx
        clear K3 hb hbx O I4_0 I4_1 I4_2 I4_3 rgz
        go_upto_region 5 with (fail)
        generalize v4.heap.size = g4 at K4 ⊢
        generalize (v4.alloc (.cells #[.bool sa, .slice Aa na ca, .bool za, .slice Ba ma da] 26)).alloc (.cells #[.bool sb, .slice Ab nb cb, .bool zb, .slice Bb mb db] 26) = u4 at K4 Eu Ev Tu Uu Tv Uv ⊢
        as_aux_lemma =>
          have rgz := Lib.hid (K4.blk (g := gz) (vs := [.bool su, .slice (some ⟨gu, 0, none⟩) nu eu, .bool zu, .slice (some ⟨hu, 0, none⟩) mu fu, .bool sv, .slice (some ⟨gv, 0, none⟩) nv ev, .bool zv, .slice (some ⟨hv, 0, none⟩) mv fv]) (List.mem_of_getElem? (i := 2) rfl)).rng
          go_wp2_with (first | (refine wpList_load_any (by rfl) _ _ rfl (gz) 0 rfl _ _ rgz.out Tryz.underlying30 rfl size_ga ?_))
          refine ((HA.out (some ⟨gu, 0, none⟩) (some ⟨hu, 0, none⟩) nu eu mu fu (some ⟨gv, 0, none⟩) (some ⟨hv, 0, none⟩) nv ev mv fv _ (⟨Tu.2.1, Uu.2.1, bnu, bmu⟩ : LmE.at_ u4 ((su, some ⟨gu, 0, none⟩, nu, eu, lu), (zu, some ⟨hu, 0, none⟩, mu, fu, ku))) (⟨Tv.2.1, Uv.2.1, bnv, bmv⟩ : LmE.at_ u4 ((sv, some ⟨gv, 0, none⟩, nv, ev, lv), (zv, some ⟨hv, 0, none⟩, mv, fv, kv)))).2.1).mono ?_
          rintro e5 v5 ⟨sg, Ag, ng, cg, zg, Bg, mg, dg, rfl, I5_0, I5_1, O, hb⟩
          have hbx : Below v5.heap.size v5 (v5.alloc (.cells #[.bool sg, .slice Ag ng cg, .bool zg, .slice Bg mg dg] 26)) := (Below.refl _ _).alloc (Nat.le_refl _) _
          have K5 := ((((K4.call2 hb O).int I5_1).int I5_0).var (g := v5.heap.size) rfl [.bool sg, .slice Ag ng cg, .bool zg, .slice Bg mg dg] 26)
          replace Eu := LmE.at_.below (LmE.at_.below Eu hb) hbx
          replace Ev := LmE.at_.below (LmE.at_.below Ev hb) hbx
          replace Tu := Twl.below (Twl.below Tu hb) hbx
          replace Uu := Twl.below (Twl.below Uu hb) hbx
          replace Tv := Twl.below (Twl.below Tv hb) hbx
          replace Uv := Twl.below (Twl.below Uv hb) hbx
          clear K4 hb hbx O I5_0 I5_1 rgz
          go_upto_region 6 with (fail)
          generalize v5.heap.size = g7 at K5 ⊢
          generalize v5.alloc (.cells #[.bool sg, .slice Ag ng cg, .bool zg, .slice Bg mg dg] 26) = u5 at K5 Eu Ev Tu Uu Tv Uv ⊢
          as_aux_lemma =>
            have rgz := Lib.hid (K5.blk (g := gz) (vs := [.bool su, .slice (some ⟨gu, 0, none⟩) nu eu, .bool zu, .slice (some ⟨hu, 0, none⟩) mu fu, .bool sv, .slice (some ⟨gv, 0, none⟩) nv ev, .bool zv, .slice (some ⟨hv, 0, none⟩) mv fv]) (List.mem_of_getElem? (i := 3) rfl)).rng
            go_wp2_with (first | (refine wpList_load_any (by rfl) _ _ rfl (gz) 0 rfl _ _ rgz.out Tryz.underlying30 rfl size_ga ?_))
            refine ((HA.out (some ⟨gu, 0, none⟩) (some ⟨hu, 0, none⟩) nu eu mu fu (some ⟨gv, 0, none⟩) (some ⟨hv, 0, none⟩) nv ev mv fv _ (⟨Tu.2.1, Uu.2.1, bnu, bmu⟩ : LmE.at_ u5 ((su, some ⟨gu, 0, none⟩, nu, eu, lu), (zu, some ⟨hu, 0, none⟩, mu, fu, ku))) (⟨Tv.2.1, Uv.2.1, bnv, bmv⟩ : LmE.at_ u5 ((sv, some ⟨gv, 0, none⟩, nv, ev, lv), (zv, some ⟨hv, 0, none⟩, mv, fv, kv)))).2.2.1).mono ?_
            rintro e6 v6 ⟨sh, Ah, nh, ch, zh, Bh, mh, dh, rfl, I6_0, I6_1, O, hb⟩
            have hbx : Below v6.heap.size v6 (v6.alloc (.cells #[.bool sh, .slice Ah nh ch, .bool zh, .slice Bh mh dh] 26)) := (Below.refl _ _).alloc (Nat.le_refl _) _
            have K6 := ((((K5.call2 hb O).int I6_1).int I6_0).var (g := v6.heap.size) rfl [.bool sh, .slice Ah nh ch, .bool zh, .slice Bh mh dh] 26)
            replace Eu := LmE.at_.below (LmE.at_.below Eu hb) hbx
            replace Ev := LmE.at_.below (LmE.at_.below Ev hb) hbx
            replace Tu := Twl.below (Twl.below Tu hb) hbx
            replace Uu := Twl.below (Twl.below Uu hb) hbx
            replace Tv := Twl.below (Twl.below Tv hb) hbx
            replace Uv := Twl.below (Twl.below Uv hb) hbx
            clear K5 hb hbx O I6_0 I6_1 rgz
            go_upto_region 7 with (fail)
            generalize v6.heap.size = g9 at K6 ⊢
            generalize v6.alloc (.cells #[.bool sh, .slice Ah nh ch, .bool zh, .slice Bh mh dh] 26) = u6 at K6 Eu Ev Tu Uu Tv Uv ⊢
            as_aux_lemma =>
              have rgz := Lib.hid (K6.blk (g := gz) (vs := [.bool su, .slice (some ⟨gu, 0, none⟩) nu eu, .bool zu, .slice (some ⟨hu, 0, none⟩) mu fu, .bool sv, .slice (some ⟨gv, 0, none⟩) nv ev, .bool zv, .slice (some ⟨hv, 0, none⟩) mv fv]) (List.mem_of_getElem? (i := 4) rfl)).rng
              go_wp2_with (first | (refine wpList_load_any (by rfl) _ _ rfl (gz) 0 rfl _ _ rgz.out Tryz.underlying30 rfl size_ga ?_))
              refine ((HA.out (some ⟨gu, 0, none⟩) (some ⟨hu, 0, none⟩) nu eu mu fu (some ⟨gv, 0, none⟩) (some ⟨hv, 0, none⟩) nv ev mv fv _ (⟨Tu.2.1, Uu.2.1, bnu, bmu⟩ : LmE.at_ u6 ((su, some ⟨gu, 0, none⟩, nu, eu, lu), (zu, some ⟨hu, 0, none⟩, mu, fu, ku))) (⟨Tv.2.1, Uv.2.1, bnv, bmv⟩ : LmE.at_ u6 ((sv, some ⟨gv, 0, none⟩, nv, ev, lv), (zv, some ⟨hv, 0, none⟩, mv, fv, kv)))).1).mono ?_
              rintro e7 v7 ⟨si, Ai, ni, ci, zi, Bi, mi, di, sj, Aj, nj, cj, zj, Bj, mj, dj, rfl, I7_0, I7_1, I7_2, I7_3, O, hb⟩
              have hbx : Below v7.heap.size v7 ((v7.alloc (.cells #[.bool si, .slice Ai ni ci, .bool zi, .slice Bi mi di] 26)).alloc (.cells #[.bool sj, .slice Aj nj cj, .bool zj, .slice Bj mj dj] 26)) := ((Below.refl _ _).alloc (Nat.le_refl _) _).alloc (by simp) _
              have K7 := (((((((K6.call4 hb O).int I7_3).int I7_2).int I7_1).int I7_0).var (g := v7.heap.size) rfl [.bool si, .slice Ai ni ci, .bool zi, .slice Bi mi di] 26).var (g := v7.heap.size + 1) (by simp) [.bool sj, .slice Aj nj cj, .bool zj, .slice Bj mj dj] 26)
              replace Eu := LmE.at_.below (LmE.at_.below Eu hb) hbx
              replace Ev := LmE.at_.below (LmE.at_.below Ev hb) hbx
              replace Tu := Twl.below (Twl.below Tu hb) hbx
              replace Uu := Twl.below (Twl.below Uu hb) hbx
              replace Tv := Twl.below (Twl.below Tv hb) hbx
              replace Uv := Twl.below (Twl.below Uv hb) hbx
              clear K6 hb hbx O I7_0 I7_1 I7_2 I7_3 rgz
              go_upto_region 8 with (fail)
              generalize v7.heap.size = g11 at K7 ⊢
              generalize (v7.alloc (.cells #[.bool si, .slice Ai ni ci, .bool zi, .slice Bi mi di] 26)).alloc (.cells #[.bool sj, .slice Aj nj cj, .bool zj, .slice Bj mj dj] 26) = u7 at K7 Eu Ev Tu Uu Tv Uv ⊢
              as_aux_lemma =>
                have rgq := Lib.hid (K7.blk (g := w.heap.size) (vs := [.bool su, .slice Au nu cu, .bool zu, .slice Bu mu du, .bool sv, .slice Av nv cv, .bool zv, .slice Bv mv dv]) (List.mem_of_getElem? (i := 7) rfl)).rng
                go_wp2_with (first | (refine wpList_load_any (by rfl) _ _ rfl (w.heap.size) 0 rfl _ _ rgq.out Tryz.underlying30 rfl size_ga ?_))
                refine ((HA.out Au Bu nu cu mu du Av Bv nv cv mv dv _ Eu Ev).2.2.2.1).mono ?_
                rintro e8 v8 ⟨sp, Ap, np, cp, zp, Bp, mp, dp, sq, Aq, nq, cq, zq, Bq, mq, dq, rfl, I8_0, I8_1, I8_2, I8_3, hb⟩
                have hbx : Below v8.heap.size v8 ((v8.alloc (.cells #[.bool sp, .slice Ap np cp, .bool zp, .slice Bp mp dp] 26)).alloc (.cells #[.bool sq, .slice Aq nq cq, .bool zq, .slice Bq mq dq] 26)) := ((Below.refl _ _).alloc (Nat.le_refl _) _).alloc (by simp) _
                have K8 := (((((((K7.next hb).int I8_3).int I8_2).int I8_1).int I8_0).var (g := v8.heap.size) rfl [.bool sp, .slice Ap np cp, .bool zp, .slice Bp mp dp] 26).var (g := v8.heap.size + 1) (by simp) [.bool sq, .slice Aq nq cq, .bool zq, .slice Bq mq dq] 26)
                replace Eu := LmE.at_.below (LmE.at_.below Eu hb) hbx
                replace Ev := LmE.at_.below (LmE.at_.below Ev hb) hbx
                replace Tu := Twl.below (Twl.below Tu hb) hbx
                replace Uu := Twl.below (Twl.below Uu hb) hbx
                replace Tv := Twl.below (Twl.below Tv hb) hbx
                replace Uv := Twl.below (Twl.below Uv hb) hbx
                clear K7 hb hbx I8_0 I8_1 I8_2 I8_3 rgq
                go_upto_region 9 with (fail)
                generalize v8.heap.size = g14 at K8 ⊢
                generalize (v8.alloc (.cells #[.bool sp, .slice Ap np cp, .bool zp, .slice Bp mp dp] 26)).alloc (.cells #[.bool sq, .slice Aq nq cq, .bool zq, .slice Bq mq dq] 26) = u8 at K8 Eu Ev Tu Uu Tv Uv ⊢
                as_aux_lemma =>
                  have rgq := Lib.hid (K8.blk (g := w.heap.size) (vs := [.bool su, .slice Au nu cu, .bool zu, .slice Bu mu du, .bool sv, .slice Av nv cv, .bool zv, .slice Bv mv dv]) (List.mem_of_getElem? (i := 9) rfl)).rng
                  go_wp2_with (first | (refine wpList_load_any (by rfl) _ _ rfl (w.heap.size) 0 rfl _ _ rgq.out Tryz.underlying30 rfl size_ga ?_))
                  refine ((HA.out Au Bu nu cu mu du Av Bv nv cv mv dv _ Eu Ev).2.2.2.2.1).mono ?_
                  rintro e9 v9 ⟨sr, Ar, nr, cr, zr, Br, mr, dr, rfl, I9_0, I9_1, hb⟩
                  have hbx : Below v9.heap.size v9 (v9.alloc (.cells #[.bool sr, .slice Ar nr cr, .bool zr, .slice Br mr dr] 26)) := (Below.refl _ _).alloc (Nat.le_refl _) _
                  have K9 := ((((K8.next hb).int I9_1).int I9_0).var (g := v9.heap.size) rfl [.bool sr, .slice Ar nr cr, .bool zr, .slice Br mr dr] 26)
                  replace Eu := LmE.at_.below (LmE.at_.below Eu hb) hbx
                  replace Ev := LmE.at_.below (LmE.at_.below Ev hb) hbx
                  replace Tu := Twl.below (Twl.below Tu hb) hbx
                  replace Uu := Twl.below (Twl.below Uu hb) hbx
                  replace Tv := Twl.below (Twl.below Tv hb) hbx
                  replace Uv := Twl.below (Twl.below Uv hb) hbx
                  clear K8 hb hbx I9_0 I9_1 rgq
                  go_upto_region 10 with (fail)
                  generalize v9.heap.size = g17 at K9 ⊢
                  generalize v9.alloc (.cells #[.bool sr, .slice Ar nr cr, .bool zr, .slice Br mr dr] 26) = u9 at K9 Eu Ev Tu Uu Tv Uv ⊢
                  as_aux_lemma =>
                    have rgq := Lib.hid (K9.blk (g := w.heap.size) (vs := [.bool su, .slice Au nu cu, .bool zu, .slice Bu mu du, .bool sv, .slice Av nv cv, .bool zv, .slice Bv mv dv]) (List.mem_of_getElem? (i := 10) rfl)).rng
                    go_wp2_with (first | (refine wpList_load_any (by rfl) _ _ rfl (w.heap.size) 0 rfl _ _ rgq.out Tryz.underlying30 rfl size_ga ?_))
                    refine ((HA.out Au Bu nu cu mu du Av Bv nv cv mv dv _ Eu Ev).2.2.2.2.2).mono ?_
                    rintro e10 v10 ⟨st, At, nt, ct, zt, Bt, mt, dt, rfl, I10_0, I10_1, hb⟩
                    have hbx : Below v10.heap.size v10 (v10.alloc (.cells #[.bool st, .slice At nt ct, .bool zt, .slice Bt mt dt] 26)) := (Below.refl _ _).alloc (Nat.le_refl _) _
                    have K10 := ((((K9.next hb).int I10_1).int I10_0).var (g := v10.heap.size) rfl [.bool st, .slice At nt ct, .bool zt, .slice Bt mt dt] 26)
                    replace Eu := LmE.at_.below (LmE.at_.below Eu hb) hbx
                    replace Ev := LmE.at_.below (LmE.at_.below Ev hb) hbx
                    replace Tu := Twl.below (Twl.below Tu hb) hbx
                    replace Uu := Twl.below (Twl.below Uu hb) hbx
                    replace Tv := Twl.below (Twl.below Tv hb) hbx
                    replace Uv := Twl.below (Twl.below Uv hb) hbx
                    clear K9 hb hbx I10_0 I10_1 rgq
                    go_upto_region 11 with (fail)
                    generalize v10.heap.size = g19 at K10 ⊢
                    generalize v10.alloc (.cells #[.bool st, .slice At nt ct, .bool zt, .slice Bt mt dt] 26) = u10 at K10 Eu Ev Tu Uu Tv Uv ⊢
                    clear HA
                    have bna := int_len (K10.at_ (List.mem_of_getElem? (i := 16) rfl)) HB.out.1
                    have bma := int_len (K10.at_ (List.mem_of_getElem? (i := 17) rfl)) HB.out.2.1
                    have bnb := int_len (K10.at_ (List.mem_of_getElem? (i := 18) rfl)) HB.out.2.2.1
                    have bmb := int_len (K10.at_ (List.mem_of_getElem? (i := 19) rfl)) HB.out.2.2.2.1
                    have bng := int_len (K10.at_ (List.mem_of_getElem? (i := 14) rfl)) HB.out.2.2.2.2.1
                    have bmg := int_len (K10.at_ (List.mem_of_getElem? (i := 15) rfl)) HB.out.2.2.2.2.2.1
                    have bnh := int_len (K10.at_ (List.mem_of_getElem? (i := 12) rfl)) HB.out.2.2.2.2.2.2.1
                    have bmh := int_len (K10.at_ (List.mem_of_getElem? (i := 13) rfl)) HB.out.2.2.2.2.2.2.2
                    have bni := int_len (K10.at_ (List.mem_of_getElem? (i := 8) rfl)) HB.out.1
                    have bmi := int_len (K10.at_ (List.mem_of_getElem? (i := 9) rfl)) HB.out.2.1
                    have bnj := int_len (K10.at_ (List.mem_of_getElem? (i := 10) rfl)) HB.out.2.2.1
                    have bmj := int_len (K10.at_ (List.mem_of_getElem? (i := 11) rfl)) HB.out.2.2.2.1
                    clear HB
                    as_aux_lemma =>
                      have rga := Lib.hid (K10.blk (g := g4) (vs := [.bool sa, .slice Aa na ca, .bool za, .slice Ba ma da]) (List.mem_of_getElem? (i := 9) rfl)).rng
                      have rgb := Lib.hid (K10.blk (g := g14) (vs := [.bool sp, .slice Ap np cp, .bool zp, .slice Bp mp dp]) (List.mem_of_getElem? (i := 3) rfl)).rng
                      go_wp2_with (first | (refine wpList_load_any (by rfl) _ _ rfl (g4) 0 rfl _ _ rga.out Tryz.underlying26 rfl size_fr ?_) | (refine wpList_load_any (by rfl) _ _ rfl (g14) 0 rfl _ _ rgb.out Tryz.underlying26 rfl size_fr ?_))
                      refine (same_frac_int sa za Aa Ba na ca ma da sp zp Ap Bp np cp mp dp x1 y1 _ (K10.at_ (List.mem_of_getElem? (i := 16) rfl)) (K10.at_ (List.mem_of_getElem? (i := 17) rfl)) (K10.at_ (List.mem_of_getElem? (i := 4) rfl)) (K10.at_ (List.mem_of_getElem? (i := 5) rfl)) (by omega) (by omega)).mono ?_
                      rintro e11 v11 ⟨rfl, hb⟩
                      have K11 := K10.next hb
                      replace Eu := LmE.at_.below Eu hb
                      replace Ev := LmE.at_.below Ev hb
                      replace Tu := Twl.below Tu hb
                      replace Uu := Twl.below Uu hb
                      replace Tv := Twl.below Tv hb
                      replace Uv := Twl.below Uv hb
                      clear K10 hb rga rgb
                      as_aux_lemma =>
                        have rga := Lib.hid (K11.blk (g := g4 + 1) (vs := [.bool sb, .slice Ab nb cb, .bool zb, .slice Bb mb db]) (List.mem_of_getElem? (i := 8) rfl)).rng
                        have rgb := Lib.hid (K11.blk (g := g14 + 1) (vs := [.bool sq, .slice Aq nq cq, .bool zq, .slice Bq mq dq]) (List.mem_of_getElem? (i := 2) rfl)).rng
                        go_wp2_with (first | (refine wpList_load_any (by rfl) _ _ rfl (g4 + 1) 0 rfl _ _ rga.out Tryz.underlying26 rfl size_fr ?_) | (refine wpList_load_any (by rfl) _ _ rfl (g14 + 1) 0 rfl _ _ rgb.out Tryz.underlying26 rfl size_fr ?_))
                        refine (same_frac_int sb zb Ab Bb nb cb mb db sq zq Aq Bq nq cq mq dq x2 y2 _ (K11.at_ (List.mem_of_getElem? (i := 18) rfl)) (K11.at_ (List.mem_of_getElem? (i := 19) rfl)) (K11.at_ (List.mem_of_getElem? (i := 6) rfl)) (K11.at_ (List.mem_of_getElem? (i := 7) rfl)) (by omega) (by omega)).mono ?_
                        rintro e12 v12 ⟨rfl, hb⟩
                        have K12 := K11.next hb
                        replace Eu := LmE.at_.below Eu hb
                        replace Ev := LmE.at_.below Ev hb
                        replace Tu := Twl.below Tu hb
                        replace Uu := Twl.below Uu hb
                        replace Tv := Twl.below Tv hb
                        replace Uv := Twl.below Uv hb
                        clear K11 hb rga rgb
                        as_aux_lemma =>
                          have rga := Lib.hid (K12.blk (g := g11) (vs := [.bool si, .slice Ai ni ci, .bool zi, .slice Bi mi di]) (List.mem_of_getElem? (i := 5) rfl)).rng
                          have rgb := Lib.hid (K12.blk (g := g14) (vs := [.bool sp, .slice Ap np cp, .bool zp, .slice Bp mp dp]) (List.mem_of_getElem? (i := 3) rfl)).rng
                          go_wp2_with (first | (refine wpList_load_any (by rfl) _ _ rfl (g11) 0 rfl _ _ rga.out Tryz.underlying26 rfl size_fr ?_) | (refine wpList_load_any (by rfl) _ _ rfl (g14) 0 rfl _ _ rgb.out Tryz.underlying26 rfl size_fr ?_))
                          refine (same_frac_int si zi Ai Bi ni ci mi di sp zp Ap Bp np cp mp dp x1 y1 _ (K12.at_ (List.mem_of_getElem? (i := 8) rfl)) (K12.at_ (List.mem_of_getElem? (i := 9) rfl)) (K12.at_ (List.mem_of_getElem? (i := 4) rfl)) (K12.at_ (List.mem_of_getElem? (i := 5) rfl)) (by omega) (by omega)).mono ?_
                          rintro e13 v13 ⟨rfl, hb⟩
                          have K13 := K12.next hb
                          replace Eu := LmE.at_.below Eu hb
                          replace Ev := LmE.at_.below Ev hb
                          replace Tu := Twl.below Tu hb
                          replace Uu := Twl.below Uu hb
                          replace Tv := Twl.below Tv hb
                          replace Uv := Twl.below Uv hb
                          clear K12 hb rga rgb
                          as_aux_lemma =>
                            have rga := Lib.hid (K13.blk (g := g11 + 1) (vs := [.bool sj, .slice Aj nj cj, .bool zj, .slice Bj mj dj]) (List.mem_of_getElem? (i := 4) rfl)).rng
                            have rgb := Lib.hid (K13.blk (g := g14 + 1) (vs := [.bool sq, .slice Aq nq cq, .bool zq, .slice Bq mq dq]) (List.mem_of_getElem? (i := 2) rfl)).rng
                            go_wp2_with (first | (refine wpList_load_any (by rfl) _ _ rfl (g11 + 1) 0 rfl _ _ rga.out Tryz.underlying26 rfl size_fr ?_) | (refine wpList_load_any (by rfl) _ _ rfl (g14 + 1) 0 rfl _ _ rgb.out Tryz.underlying26 rfl size_fr ?_))
                            refine (same_frac_int sj zj Aj Bj nj cj mj dj sq zq Aq Bq nq cq mq dq x2 y2 _ (K13.at_ (List.mem_of_getElem? (i := 10) rfl)) (K13.at_ (List.mem_of_getElem? (i := 11) rfl)) (K13.at_ (List.mem_of_getElem? (i := 6) rfl)) (K13.at_ (List.mem_of_getElem? (i := 7) rfl)) (by omega) (by omega)).mono ?_
                            rintro e14 v14 ⟨rfl, hb⟩
                            have K14 := K13.next hb
                            replace Eu := LmE.at_.below Eu hb
                            replace Ev := LmE.at_.below Ev hb
                            replace Tu := Twl.below Tu hb
                            replace Uu := Twl.below Uu hb
                            replace Tv := Twl.below Tv hb
                            replace Uv := Twl.below Uv hb
                            clear K13 hb rga rgb
                            as_aux_lemma =>
                              have rga := Lib.hid (K14.blk (g := g7) (vs := [.bool sg, .slice Ag ng cg, .bool zg, .slice Bg mg dg]) (List.mem_of_getElem? (i := 7) rfl)).rng
                              have rgb := Lib.hid (K14.blk (g := g17) (vs := [.bool sr, .slice Ar nr cr, .bool zr, .slice Br mr dr]) (List.mem_of_getElem? (i := 1) rfl)).rng
                              go_wp2_with (first | (refine wpList_load_any (by rfl) _ _ rfl (g7) 0 rfl _ _ rga.out Tryz.underlying26 rfl size_fr ?_) | (refine wpList_load_any (by rfl) _ _ rfl (g17) 0 rfl _ _ rgb.out Tryz.underlying26 rfl size_fr ?_))
                              refine (same_frac_int sg zg Ag Bg ng cg mg dg sr zr Ar Br nr cr mr dr sx sy _ (K14.at_ (List.mem_of_getElem? (i := 14) rfl)) (K14.at_ (List.mem_of_getElem? (i := 15) rfl)) (K14.at_ (List.mem_of_getElem? (i := 2) rfl)) (K14.at_ (List.mem_of_getElem? (i := 3) rfl)) (by omega) (by omega)).mono ?_
                              rintro e15 v15 ⟨rfl, hb⟩
                              have K15 := K14.next hb
                              replace Eu := LmE.at_.below Eu hb
                              replace Ev := LmE.at_.below Ev hb
                              replace Tu := Twl.below Tu hb
                              replace Uu := Twl.below Uu hb
                              replace Tv := Twl.below Tv hb
                              replace Uv := Twl.below Uv hb
                              clear K14 hb rga rgb
                              as_aux_lemma =>
                                have rga := Lib.hid (K15.blk (g := g9) (vs := [.bool sh, .slice Ah nh ch, .bool zh, .slice Bh mh dh]) (List.mem_of_getElem? (i := 6) rfl)).rng
                                have rgb := Lib.hid (K15.blk (g := g19) (vs := [.bool st, .slice At nt ct, .bool zt, .slice Bt mt dt]) (List.mem_of_getElem? (i := 0) rfl)).rng
                                go_wp2_with (first | (refine wpList_load_any (by rfl) _ _ rfl (g9) 0 rfl _ _ rga.out Tryz.underlying26 rfl size_fr ?_) | (refine wpList_load_any (by rfl) _ _ rfl (g19) 0 rfl _ _ rgb.out Tryz.underlying26 rfl size_fr ?_))
                                refine (same_frac_int sh zh Ah Bh nh ch mh dh st zt At Bt nt ct mt dt cx cy _ (K15.at_ (List.mem_of_getElem? (i := 12) rfl)) (K15.at_ (List.mem_of_getElem? (i := 13) rfl)) (K15.at_ (List.mem_of_getElem? (i := 0) rfl)) (K15.at_ (List.mem_of_getElem? (i := 1) rfl)) (by omega) (by omega)).mono ?_
                                rintro e16 v16 ⟨rfl, hb⟩
                                have K16 := K15.next hb
                                replace Eu := LmE.at_.below Eu hb
                                replace Ev := LmE.at_.below Ev hb
                                replace Tu := Twl.below Tu hb
                                replace Uu := Twl.below Uu hb
                                replace Tv := Twl.below Tv hb
                                replace Uv := Twl.below Uv hb
                                clear K15 hb rga rgb
                                as_aux_lemma =>
                                  have rgz := Lib.hid (K16.blk (g := gz) (vs := [.bool su, .slice (some ⟨gu, 0, none⟩) nu eu, .bool zu, .slice (some ⟨hu, 0, none⟩) mu fu, .bool sv, .slice (some ⟨gv, 0, none⟩) nv ev, .bool zv, .slice (some ⟨hv, 0, none⟩) mv fv]) (List.mem_of_getElem? (i := 10) rfl)).rng
                                  have rgq := Lib.hid (K16.blk (g := w.heap.size) (vs := [.bool su, .slice Au nu cu, .bool zu, .slice Bu mu du, .bool sv, .slice Av nv cv, .bool zv, .slice Bv mv dv]) (List.mem_of_getElem? (i := 11) rfl)).rng
                                  go_wp2_with (first | (refine wpList_load_any (by rfl) _ _ rfl (gz) 0 rfl _ _ rgz.out Tryz.underlying30 rfl size_ga ?_) | (refine wpList_load_any (by rfl) _ _ rfl (w.heap.size) 0 rfl _ _ rgq.out Tryz.underlying30 rfl size_ga ?_))
                                  refine (left_gauss_any su Au nu cu lu zu Bu mu du ku sv Av nv cv lv zv Bv mv dv kv gu eu hu fu gv ev hv fv _ Eu Tu Uu Ev Tv Uv).mono ?_
                                  rintro e17 v17 ⟨rfl, hb⟩
                                  have K17 := K16.next hb
                                  clear K16 hb Eu Ev Tu Uu Tv Uv rgz rgq
                                  as_aux_lemma =>
                                    have OB : Owns w.heap.size v17 [(Aa, na, ca), (Ba, ma, da), (Ab, nb, cb), (Bb, mb, db), (Ai, ni, ci), (Bi, mi, di), (Aj, nj, cj), (Bj, mj, dj), (Ag, ng, cg), (Bg, mg, dg), (Ah, nh, ch), (Bh, mh, dh), (some ⟨gu, 0, none⟩, nu, eu), (some ⟨hu, 0, none⟩, mu, fu), (some ⟨gv, 0, none⟩, nv, ev), (some ⟨hv, 0, none⟩, mv, fv)] := K17.all.sel [8, 9, 10, 11, 0, 1, 2, 3, 6, 7, 4, 5, 15, 14, 13, 12] (by decide) (by intro i hi; simp at hi ⊢; omega)
                                    have KB := K17
                                    have k0 := bkL_new w.heap.size v17
                                    have z0 : Below v17.heap.size v17 (v17.alloc (.cells #[.int .i64 0, .slice none 0 0, .slice none 0 0, .slice none 0 0, .slice none 0 0, .slice none 0 0, .slice none 0 0, .slice none 0 0, .slice none 0 0, .slice none 0 0, .slice none 0 0, .slice none 0 0, .slice none 0 0, .slice none 0 0, .slice none 0 0, .slice none 0 0, .slice none 0 0] 59)) := (Below.refl _ _).alloc (Nat.le_refl _) _
                                    go_upto_region 14 with (fail)
                                    obtain ⟨BB, hBB⟩ : ∃ B, v17.heap.size = B := ⟨_, rfl⟩
                                    rw [hBB] at k0 z0 ⊢
                                    generalize v17.alloc (.cells #[.int .i64 0, .slice none 0 0, .slice none 0 0, .slice none 0 0, .slice none 0 0, .slice none 0 0, .slice none 0 0, .slice none 0 0, .slice none 0 0, .slice none 0 0, .slice none 0 0, .slice none 0 0, .slice none 0 0, .slice none 0 0, .slice none 0 0, .slice none 0 0, .slice none 0 0] 59) = b0 at k0 z0 ⊢
                                    as_aux_lemma =>
                                      have z0' := z0
                                      rw [← hBB] at z0'
                                      have KX := KB.next z0'
                                      have rgx := Lib.hid (KX.blk (g := g4) (vs := [.bool sa, .slice Aa na ca, .bool za, .slice Ba ma da]) (List.mem_of_getElem? (i := 9) rfl)).rng
                                      have hsz : BB ≤ b0.heap.size := by have := z0'.size; omega
                                      go_wp2_with (first | (refine wpList_load_any (by rfl) _ _ rfl (g4) 0 rfl _ _ rgx.out Tryz.underlying26 rfl size_fr ?_))
                                      refine (bk_frac BB w.heap.size sa za Aa Ba na ca ma da [] v17 b0 k0 ⟨OB.1 _ (List.mem_of_getElem? (i := 0) rfl), by omega⟩ ⟨OB.1 _ (List.mem_of_getElem? (i := 1) rfl), by omega⟩ (by simp) hsz).mono ?_
                                      rintro e20 b1 ⟨rfl, k1, zz, _⟩
                                      have z1 := z0.trans zz
                                      clear KX zz hsz z0 z0' k0 rgx
                                      replace k1 : BkL w.heap.size v17 b1 BB [(Aa, na, ca), (Ba, ma, da)] := k1
                                      as_aux_lemma =>
                                        have z1' := z1
                                        rw [← hBB] at z1'
                                        have KX := KB.next z1'
                                        have rgx := Lib.hid (KX.blk (g := g4 + 1) (vs := [.bool sb, .slice Ab nb cb, .bool zb, .slice Bb mb db]) (List.mem_of_getElem? (i := 8) rfl)).rng
                                        have hsz : BB ≤ b1.heap.size := by have := z1'.size; omega
                                        go_wp2_with (first | (refine wpList_load_any (by rfl) _ _ rfl (g4 + 1) 0 rfl _ _ rgx.out Tryz.underlying26 rfl size_fr ?_))
                                        refine (bk_frac BB w.heap.size sb zb Ab Bb nb cb mb db [(Aa, na, ca), (Ba, ma, da)] v17 b1 k1 ⟨OB.1 _ (List.mem_of_getElem? (i := 2) rfl), by omega⟩ ⟨OB.1 _ (List.mem_of_getElem? (i := 3) rfl), by omega⟩ (by simp) hsz).mono ?_
                                        rintro e21 b2 ⟨rfl, k2, zz, _⟩
                                        have z2 := z1.trans zz
                                        clear KX zz hsz z1 z1' k1 rgx
                                        replace k2 : BkL w.heap.size v17 b2 BB [(Aa, na, ca), (Ba, ma, da), (Ab, nb, cb), (Bb, mb, db)] := k2
                                        as_aux_lemma =>
                                          have z2' := z2
                                          rw [← hBB] at z2'
                                          have KX := KB.next z2'
                                          have rgx := Lib.hid (KX.blk (g := g11) (vs := [.bool si, .slice Ai ni ci, .bool zi, .slice Bi mi di]) (List.mem_of_getElem? (i := 5) rfl)).rng
                                          have hsz : BB ≤ b2.heap.size := by have := z2'.size; omega
                                          go_wp2_with (first | (refine wpList_load_any (by rfl) _ _ rfl (g11) 0 rfl _ _ rgx.out Tryz.underlying26 rfl size_fr ?_))
                                          refine (bk_frac BB w.heap.size si zi Ai Bi ni ci mi di [(Aa, na, ca), (Ba, ma, da), (Ab, nb, cb), (Bb, mb, db)] v17 b2 k2 ⟨OB.1 _ (List.mem_of_getElem? (i := 4) rfl), by omega⟩ ⟨OB.1 _ (List.mem_of_getElem? (i := 5) rfl), by omega⟩ (by simp) hsz).mono ?_
                                          rintro e22 b3 ⟨rfl, k3, zz, _⟩
                                          have z3 := z2.trans zz
                                          clear KX zz hsz z2 z2' k2 rgx
                                          replace k3 : BkL w.heap.size v17 b3 BB [(Aa, na, ca), (Ba, ma, da), (Ab, nb, cb), (Bb, mb, db), (Ai, ni, ci), (Bi, mi, di)] := k3
                                          as_aux_lemma =>
                                            have z3' := z3
                                            rw [← hBB] at z3'
                                            have KX := KB.next z3'
                                            have rgx := Lib.hid (KX.blk (g := g11 + 1) (vs := [.bool sj, .slice Aj nj cj, .bool zj, .slice Bj mj dj]) (List.mem_of_getElem? (i := 4) rfl)).rng
                                            have hsz : BB ≤ b3.heap.size := by have := z3'.size; omega
                                            go_wp2_with (first | (refine wpList_load_any (by rfl) _ _ rfl (g11 + 1) 0 rfl _ _ rgx.out Tryz.underlying26 rfl size_fr ?_))
                                            refine (bk_frac BB w.heap.size sj zj Aj Bj nj cj mj dj [(Aa, na, ca), (Ba, ma, da), (Ab, nb, cb), (Bb, mb, db), (Ai, ni, ci), (Bi, mi, di)] v17 b3 k3 ⟨OB.1 _ (List.mem_of_getElem? (i := 6) rfl), by omega⟩ ⟨OB.1 _ (List.mem_of_getElem? (i := 7) rfl), by omega⟩ (by simp) hsz).mono ?_
                                            rintro e23 b4 ⟨rfl, k4, zz, _⟩
                                            have z4 := z3.trans zz
                                            clear KX zz hsz z3 z3' k3 rgx
                                            replace k4 : BkL w.heap.size v17 b4 BB [(Aa, na, ca), (Ba, ma, da), (Ab, nb, cb), (Bb, mb, db), (Ai, ni, ci), (Bi, mi, di), (Aj, nj, cj), (Bj, mj, dj)] := k4
                                            as_aux_lemma =>
                                              have z4' := z4
                                              rw [← hBB] at z4'
                                              have KX := KB.next z4'
                                              have rgx := Lib.hid (KX.blk (g := g7) (vs := [.bool sg, .slice Ag ng cg, .bool zg, .slice Bg mg dg]) (List.mem_of_getElem? (i := 7) rfl)).rng
                                              have hsz : BB ≤ b4.heap.size := by have := z4'.size; omega
                                              go_wp2_with (first | (refine wpList_load_any (by rfl) _ _ rfl (g7) 0 rfl _ _ rgx.out Tryz.underlying26 rfl size_fr ?_))
                                              refine (bk_frac BB w.heap.size sg zg Ag Bg ng cg mg dg [(Aa, na, ca), (Ba, ma, da), (Ab, nb, cb), (Bb, mb, db), (Ai, ni, ci), (Bi, mi, di), (Aj, nj, cj), (Bj, mj, dj)] v17 b4 k4 ⟨OB.1 _ (List.mem_of_getElem? (i := 8) rfl), by omega⟩ ⟨OB.1 _ (List.mem_of_getElem? (i := 9) rfl), by omega⟩ (by simp) hsz).mono ?_
                                              rintro e24 b5 ⟨rfl, k5, zz, _⟩
                                              have z5 := z4.trans zz
                                              clear KX zz hsz z4 z4' k4 rgx
                                              replace k5 : BkL w.heap.size v17 b5 BB [(Aa, na, ca), (Ba, ma, da), (Ab, nb, cb), (Bb, mb, db), (Ai, ni, ci), (Bi, mi, di), (Aj, nj, cj), (Bj, mj, dj), (Ag, ng, cg), (Bg, mg, dg)] := k5
                                              as_aux_lemma =>
                                                have z5' := z5
                                                rw [← hBB] at z5'
                                                have KX := KB.next z5'
                                                have rgx := Lib.hid (KX.blk (g := g9) (vs := [.bool sh, .slice Ah nh ch, .bool zh, .slice Bh mh dh]) (List.mem_of_getElem? (i := 6) rfl)).rng
                                                have hsz : BB ≤ b5.heap.size := by have := z5'.size; omega
                                                go_wp2_with (first | (refine wpList_load_any (by rfl) _ _ rfl (g9) 0 rfl _ _ rgx.out Tryz.underlying26 rfl size_fr ?_))
                                                refine (bk_frac BB w.heap.size sh zh Ah Bh nh ch mh dh [(Aa, na, ca), (Ba, ma, da), (Ab, nb, cb), (Bb, mb, db), (Ai, ni, ci), (Bi, mi, di), (Aj, nj, cj), (Bj, mj, dj), (Ag, ng, cg), (Bg, mg, dg)] v17 b5 k5 ⟨OB.1 _ (List.mem_of_getElem? (i := 10) rfl), by omega⟩ ⟨OB.1 _ (List.mem_of_getElem? (i := 11) rfl), by omega⟩ (by simp) hsz).mono ?_
                                                rintro e25 b6 ⟨rfl, k6, zz, _⟩
                                                have z6 := z5.trans zz
                                                clear KX zz hsz z5 z5' k5 rgx
                                                replace k6 : BkL w.heap.size v17 b6 BB [(Aa, na, ca), (Ba, ma, da), (Ab, nb, cb), (Bb, mb, db), (Ai, ni, ci), (Bi, mi, di), (Aj, nj, cj), (Bj, mj, dj), (Ag, ng, cg), (Bg, mg, dg), (Ah, nh, ch), (Bh, mh, dh)] := k6
                                                as_aux_lemma =>
                                                  have z6' := z6
                                                  rw [← hBB] at z6'
                                                  have KX := KB.next z6'
                                                  have rgx := Lib.hid (KX.blk (g := gz) (vs := [.bool su, .slice (some ⟨gu, 0, none⟩) nu eu, .bool zu, .slice (some ⟨hu, 0, none⟩) mu fu, .bool sv, .slice (some ⟨gv, 0, none⟩) nv ev, .bool zv, .slice (some ⟨hv, 0, none⟩) mv fv]) (List.mem_of_getElem? (i := 10) rfl)).rng
                                                  have hsz : BB ≤ b6.heap.size := by have := z6'.size; omega
                                                  go_wp2_with (first | (refine wpList_load_any (by rfl) _ _ rfl (gz) 0 rfl _ _ rgx.out Tryz.underlying30 rfl size_ga ?_))
                                                  refine (bk_gauss BB w.heap.size su zu (some ⟨gu, 0, none⟩) (some ⟨hu, 0, none⟩) nu eu mu fu sv zv (some ⟨gv, 0, none⟩) (some ⟨hv, 0, none⟩) nv ev mv fv [(Aa, na, ca), (Ba, ma, da), (Ab, nb, cb), (Bb, mb, db), (Ai, ni, ci), (Bi, mi, di), (Aj, nj, cj), (Bj, mj, dj), (Ag, ng, cg), (Bg, mg, dg), (Ah, nh, ch), (Bh, mh, dh)] v17 b6 k6 ⟨OB.1 _ (List.mem_of_getElem? (i := 12) rfl), bnu⟩ ⟨OB.1 _ (List.mem_of_getElem? (i := 13) rfl), bmu⟩ ⟨OB.1 _ (List.mem_of_getElem? (i := 14) rfl), bnv⟩ ⟨OB.1 _ (List.mem_of_getElem? (i := 15) rfl), bmv⟩ (by simp) hsz).mono ?_
                                                  rintro e26 b7 ⟨rfl, k7, zz, _⟩
                                                  have z7 := z6.trans zz
                                                  clear KX zz hsz z6 z6' k6 rgx
                                                  replace k7 : BkL w.heap.size v17 b7 BB [(Aa, na, ca), (Ba, ma, da), (Ab, nb, cb), (Bb, mb, db), (Ai, ni, ci), (Bi, mi, di), (Aj, nj, cj), (Bj, mj, dj), (Ag, ng, cg), (Bg, mg, dg), (Ah, nh, ch), (Bh, mh, dh), (some ⟨gu, 0, none⟩, nu, eu), (some ⟨hu, 0, none⟩, mu, fu), (some ⟨gv, 0, none⟩, nv, ev), (some ⟨hv, 0, none⟩, mv, fv)] := k7
                                                  as_aux_lemma =>
                                                    have hlow : w.heap.size ≤ BB := by have := KB.1.size; omega
                                                    go_wp2_with fail
                                                    refine (apartLimb_bk BB w.heap.size [(Aa, na, ca), (Ba, ma, da), (Ab, nb, cb), (Bb, mb, db), (Ai, ni, ci), (Bi, mi, di), (Aj, nj, cj), (Bj, mj, dj), (Ag, ng, cg), (Bg, mg, dg), (Ah, nh, ch), (Bh, mh, dh), (some ⟨gu, 0, none⟩, nu, eu), (some ⟨hu, 0, none⟩, mu, fu), (some ⟨gv, 0, none⟩, nv, ev), (some ⟨hv, 0, none⟩, mv, fv)] v17 b7 k7 (by simp) (by simp) OB z7 hBB.symm hlow).mono ?_
                                                    rintro e30 b8 ⟨rfl, zz⟩
                                                    have hend := (KB.1.trans (z7.mono hlow)).trans zz
                                                    clear KB k7 z7 zz OB
                                                    go_wp2_with fail
                                                    refine (alive15 _).mono ?_
                                                    rintro e31 b9 ⟨rfl, hb9⟩
                                                    go_wp2_with fail
                                                    go_ret
                                                    exact ⟨rfl, below_next hend hb9⟩
end Go.Proofs.YtmmplomkginadaaGreatDoor
