/-
  A beam through one matrix behind another; back again; the other way round (polestarlaw15.BeamGroup): the walk.
-/
import Derived.Test.YtdmdaoginojalaaBnE
import Derived.Test.YtdmdaoginojalaaBnD
import Derived.Test.YtdmdaoginojalaaBmJ
import Derived.Deep.MidRow
import Derived.Deep.WholeRow
namespace Go.Proofs.Ytdmdaoginojalaa
open Go.RowKit

theorem Blk.rng {wr : World} {g : Nat} {vs : List Value} (h : Blk wr g vs) : wr.rangeAt g 0 vs := fun j v hv => by rw [Nat.zero_add]; exact (h.2 j v hv).1
theorem size_ma : (Try.prog.info? 28).map (·.size) = some 16 := by kernel_rfl
theorem size_ga : (Try.prog.info? 30).map (·.size) = some 8 := by kernel_rfl
/-- A load of a whole block, guarded or not. -/
theorem wpList_load_any {P : Program} {ops : Array Oper} {rest : List Oper} {op : Oper} {a : Act} {w : World} {Q : Exit → Act → World → Prop} (hw : Region.wanted op (yielded ops a.tmps) = true) (ty : TypeId) (x : Operand) (ho : op.op = .load ty x)
    (b o : Nat) (hx : a.eval x = .pointer (some ⟨b, o, none⟩)) (cs : List Value) (d : TypeDesc) (hc : w.rangeAt b o cs)
    (hu : P.underlying ty = some d) (hd : d.isRow = true) (hi : (P.info? ty).map (·.size) = some cs.length)
    (h : wpList P ops Q rest (a.put op.dst (.agg cs.toArray)) w) : wpList P ops Q (op :: rest) a w :=
  wpList_step fun K hK => by
    rw [if_pos hw]
    exact wp_load_mid ty x ho b o hx cs d hc hu hd hi (hK _ _ h)
theorem chkBm_yes2 {a b : LmE} (h : chkBm a b = 0) : okB a = true ∧ okB b = true ∧ 0 < rv b := by
  unfold chkBm at h
  cases ha : okB a <;> cases hb : okB b <;> rw [ha, hb] at h
  · exact absurd h (by simp)
  · exact absurd h (by simp)
  · exact absurd h (by simp)
  · by_cases hp : 0 < rv b
    · exact ⟨rfl, rfl, hp⟩
    · rw [if_neg hp] at h; exact absurd h (by decide)
theorem Mm.cons {w wr : World} {L : List (Nat × List Value)} {l : List IntAt} {g : Nat} {vs : List Value} (h : Mm w L l wr) (hg : w.heap.size ≤ g) (hB : Blk wr g vs) : Mm w ((g, vs) :: L) l wr :=
  ⟨h.1, fun b hb => by
    rw [List.mem_cons] at hb
    rcases hb with rfl | hb
    · exact ⟨hg, hB⟩
    · exact h.2.1 b hb, h.2.2⟩
/-- All that the law asks of the numbers. -/
theorem group_facts {xa xb xc xd xe xf xg xh xu xv P1 P2 R1 R2 : Rat} (GM : MatS 292 xa xb xc xd) (GN : MatS 292 xe xf xg xh) (GQ : GauS 146 xu xv) (jm : xa * xd - xb * xc = 1) (jn : xe * xh - xf * xg = 1) (jp : 0 < xv)
    (hP1 : thR xe xf xg xh xu xv = P1) (hP2 : thI xg xh xu xv = P2) (hR1 : thR xa xb xc xd P1 P2 = R1) (hR2 : thI xc xd P1 P2 = R2) :
    (Sz P1 879 ∧ Sz P2 879) ∧ 0 < P2 ∧ (Sz R1 2048 ∧ Sz R2 2048) ∧ (Sz (xa * xe + xb * xg) 585 ∧ Sz (xa * xf + xb * xh) 585 ∧ Sz (xc * xe + xd * xg) 585 ∧ Sz (xc * xf + xd * xh) 585) ∧
    (xa * xe + xb * xg) * (xc * xf + xd * xh) - (xa * xf + xb * xh) * (xc * xe + xd * xg) = 1 ∧
    (thR (xa * xe + xb * xg) (xa * xf + xb * xh) (xc * xe + xd * xg) (xc * xf + xd * xh) xu xv = R1 ∧ thI (xc * xe + xd * xg) (xc * xf + xd * xh) xu xv = R2) ∧
    xh * xe - -xf * -xg = 1 ∧ (thR xh (-xf) (-xg) xe P1 P2 = xu ∧ thI (-xg) xe P1 P2 = xv) ∧
    xh * xe - xf * xg = 1 ∧ (thR xh xf xg xe (-P1) P2 = -xu ∧ thI xg xe (-P1) P2 = xv) ∧ True ∧ True := by
  have hdet : (xa * xe + xb * xg) * (xc * xf + xd * xh) - (xa * xf + xb * xh) * (xc * xe + xd * xg) = 1 := by
    have : (xa * xe + xb * xg) * (xc * xf + xd * xh) - (xa * xf + xb * xh) * (xc * xe + xd * xg) = (xa * xd - xb * xc) * (xe * xh - xf * xg) := by grind
    rw [this, jm, jn]
    exact Rat.mul_one 1
  obtain ⟨c1, c2⟩ := th_comp (u := xu) xa xb xc xd jn jp
  rw [hP1, hP2] at c1 c2
  rw [hR1] at c1
  rw [hR2] at c2
  have MN := GM.mul GN
  have sR := th_sz MN GQ (thN_ne (u := xu) hdet jp)
  rw [← c1, ← c2] at sR
  have sP := th_sz GN GQ (thN_ne (u := xu) jn jp)
  rw [hP1, hP2] at sP
  have hb := th_back (u := xu) jn jp
  have hm := th_mirror (u := xu) jn jp
  rw [hP1, hP2] at hb hm
  have hp := thI_pos (u := xu) jn jp
  rw [hP2] at hp
  exact ⟨sP, hp, ⟨sR.1.mono (by decide), sR.2.mono (by decide)⟩, MN.szs, hdet, ⟨c1.symm, c2.symm⟩, by grind, hb, by grind, hm, trivial, trivial⟩

set_option maxRecDepth 100000 in
set_option maxHeartbeats 6400000 in
theorem law_group (sa : Bool) (Aa : Option Addr) (na ca : Nat) (la : List Nat) (za : Bool) (Ba : Option Addr) (ma da : Nat) (ka : List Nat) (sb : Bool) (Ab : Option Addr) (nb cb : Nat) (lb : List Nat) (zb : Bool) (Bb : Option Addr) (mb db : Nat) (kb : List Nat) (sc : Bool) (Ac : Option Addr) (nc cc : Nat) (lc : List Nat) (zc : Bool) (Bc : Option Addr) (mc dc : Nat) (kc : List Nat) (sd : Bool) (Ad : Option Addr) (nd cd : Nat) (ld : List Nat) (zd : Bool) (Bd : Option Addr) (md dd : Nat) (kd : List Nat) (se : Bool) (Ae : Option Addr) (ne ce : Nat) (le : List Nat) (ze : Bool) (Be : Option Addr) (me de : Nat) (ke : List Nat) (sf : Bool) (Af : Option Addr) (nf cf : Nat) (lf : List Nat) (zf : Bool) (Bf : Option Addr) (mf df : Nat) (kf : List Nat) (sg : Bool) (Ag : Option Addr) (ng cg : Nat) (lg : List Nat) (zg : Bool) (Bg : Option Addr) (mg dg : Nat) (kg : List Nat) (sh : Bool) (Ah : Option Addr) (nh ch : Nat) (lh : List Nat) (zh : Bool) (Bh : Option Addr) (mh dh : Nat) (kh : List Nat) (su : Bool) (Au : Option Addr) (nu cu : Nat) (lu : List Nat) (zu : Bool) (Bu : Option Addr) (mu du : Nat) (ku : List Nat) (sv : Bool) (Av : Option Addr) (nv cv : Nat) (lv : List Nat) (zv : Bool) (Bv : Option Addr) (mv dv : Nat) (kv : List Nat) (w : World) (pa : Sl w Aa na ca la) (qa : Sl w Ba ma da ka) (hna : na ≤ 281474976710656) (hma : ma ≤ 281474976710656) (pb : Sl w Ab nb cb lb) (qb : Sl w Bb mb db kb) (hnb : nb ≤ 281474976710656) (hmb : mb ≤ 281474976710656) (pc : Sl w Ac nc cc lc) (qc : Sl w Bc mc dc kc) (hnc : nc ≤ 281474976710656) (hmc : mc ≤ 281474976710656) (pd : Sl w Ad nd cd ld) (qd : Sl w Bd md dd kd) (hnd : nd ≤ 281474976710656) (hmd : md ≤ 281474976710656) (pe : Sl w Ae ne ce le) (qe : Sl w Be me de ke) (hne : ne ≤ 281474976710656) (hme : me ≤ 281474976710656) (pf : Sl w Af nf cf lf) (qf : Sl w Bf mf df kf) (hnf : nf ≤ 281474976710656) (hmf : mf ≤ 281474976710656) (pg : Sl w Ag ng cg lg) (qg : Sl w Bg mg dg kg) (hng : ng ≤ 281474976710656) (hmg : mg ≤ 281474976710656) (ph : Sl w Ah nh ch lh) (qh : Sl w Bh mh dh kh) (hnh : nh ≤ 281474976710656) (hmh : mh ≤ 281474976710656) (pu : Sl w Au nu cu lu) (qu : Sl w Bu mu du ku) (hnu : nu ≤ 281474976710656) (hmu : mu ≤ 281474976710656) (pv : Sl w Av nv cv lv) (qv : Sl w Bv mv dv kv) (hnv : nv ≤ 281474976710656) (hmv : mv ≤ 281474976710656) :
    Calls Try.prog 3 #[.agg #[.bool sa, .slice Aa na ca, .bool za, .slice Ba ma da, .bool sb, .slice Ab nb cb, .bool zb, .slice Bb mb db, .bool sc, .slice Ac nc cc, .bool zc, .slice Bc mc dc, .bool sd, .slice Ad nd cd, .bool zd, .slice Bd md dd], .agg #[.bool se, .slice Ae ne ce, .bool ze, .slice Be me de, .bool sf, .slice Af nf cf, .bool zf, .slice Bf mf df, .bool sg, .slice Ag ng cg, .bool zg, .slice Bg mg dg, .bool sh, .slice Ah nh ch, .bool zh, .slice Bh mh dh], .agg #[.bool su, .slice Au nu cu, .bool zu, .slice Bu mu du, .bool sv, .slice Av nv cv, .bool zv, .slice Bv mv dv]] w (RetV w (.bool true)) := by
  have K0 := (((Mm.nil w).var (g := w.heap.size) rfl [.bool sa, .slice Aa na ca, .bool za, .slice Ba ma da, .bool sb, .slice Ab nb cb, .bool zb, .slice Bb mb db, .bool sc, .slice Ac nc cc, .bool zc, .slice Bc mc dc, .bool sd, .slice Ad nd cd, .bool zd, .slice Bd md dd] 28).var (g := w.heap.size + 1) (by simp) [.bool se, .slice Ae ne ce, .bool ze, .slice Be me de, .bool sf, .slice Af nf cf, .bool zf, .slice Bf mf df, .bool sg, .slice Ag ng cg, .bool zg, .slice Bg mg dg, .bool sh, .slice Ah nh ch, .bool zh, .slice Bh mh dh] 28).var (g := w.heap.size + 1 + 1) (by simp) [.bool su, .slice Au nu cu, .bool zu, .slice Bu mu du, .bool sv, .slice Av nv cv, .bool zv, .slice Bv mv dv] 30
  replace pa := pa.below K0.1
  replace qa := qa.below K0.1
  replace pb := pb.below K0.1
  replace qb := qb.below K0.1
  replace pc := pc.below K0.1
  replace qc := qc.below K0.1
  replace pd := pd.below K0.1
  replace qd := qd.below K0.1
  replace pe := pe.below K0.1
  replace qe := qe.below K0.1
  replace pf := pf.below K0.1
  replace qf := qf.below K0.1
  replace pg := pg.below K0.1
  replace qg := qg.below K0.1
  replace ph := ph.below K0.1
  replace qh := qh.below K0.1
  replace pu := pu.below K0.1
  replace qu := qu.below K0.1
  replace pv := pv.below K0.1
  replace qv := qv.below K0.1
  have Ha := Lib.hid hna
  have Ia := Lib.hid hma
  have Hb := Lib.hid hnb
  have Ib := Lib.hid hmb
  have Hc := Lib.hid hnc
  have Ic := Lib.hid hmc
  have Hd := Lib.hid hnd
  have Id := Lib.hid hmd
  have He := Lib.hid hne
  have Ie := Lib.hid hme
  have Hf := Lib.hid hnf
  have If := Lib.hid hmf
  have Hg := Lib.hid hng
  have Ig := Lib.hid hmg
  have Hh := Lib.hid hnh
  have Ih := Lib.hid hmh
  have Hu := Lib.hid hnu
  have Iu := Lib.hid hmu
  have Hv := Lib.hid hnv
  have Iv := Lib.hid hmv
  clear hna hma hnb hmb hnc hmc hnd hmd hne hme hnf hmf hng hmg hnh hmh hnu hmu hnv hmv
  obtain ⟨b1, hb1⟩ : ∃ b, mayB ((sa, Aa, na, ca, la), (za, Ba, ma, da, ka)) ((sb, Ab, nb, cb, lb), (zb, Bb, mb, db, kb)) ((sc, Ac, nc, cc, lc), (zc, Bc, mc, dc, kc)) ((sd, Ad, nd, cd, ld), (zd, Bd, md, dd, kd)) ((su, Au, nu, cu, lu), (zu, Bu, mu, du, ku)) ((sv, Av, nv, cv, lv), (zv, Bv, mv, dv, kv)) = b := ⟨_, rfl⟩
  obtain ⟨b2, hb2⟩ : ∃ b, mayB ((se, Ae, ne, ce, le), (ze, Be, me, de, ke)) ((sf, Af, nf, cf, lf), (zf, Bf, mf, df, kf)) ((sg, Ag, ng, cg, lg), (zg, Bg, mg, dg, kg)) ((sh, Ah, nh, ch, lh), (zh, Bh, mh, dh, kh)) ((su, Au, nu, cu, lu), (zu, Bu, mu, du, ku)) ((sv, Av, nv, cv, lv), (zv, Bv, mv, dv, kv)) = b := ⟨_, rfl⟩
  have HB1 := Lib.hid hb1
  have HB2 := Lib.hid hb2
  clear hb1 hb2
  go_enter Try.func3, Try.ntmps3
  go_upto_region 1 with (fail)
  generalize ((w.alloc (.cells #[.bool sa, .slice Aa na ca, .bool za, .slice Ba ma da, .bool sb, .slice Ab nb cb, .bool zb, .slice Bb mb db, .bool sc, .slice Ac nc cc, .bool zc, .slice Bc mc dc, .bool sd, .slice Ad nd cd, .bool zd, .slice Bd md dd] 28)).alloc (.cells #[.bool se, .slice Ae ne ce, .bool ze, .slice Be me de, .bool sf, .slice Af nf cf, .bool zf, .slice Bf mf df, .bool sg, .slice Ag ng cg, .bool zg, .slice Bg mg dg, .bool sh, .slice Ah nh ch, .bool zh, .slice Bh mh dh] 28)).alloc (.cells #[.bool su, .slice Au nu cu, .bool zu, .slice Bu mu du, .bool sv, .slice Av nv cv, .bool zv, .slice Bv mv dv] 30) = w0 at K0 pa qa pb qb pc qc pd qd pe qe pf qf pg qg ph qh pu qu pv qv ⊢
  have rgm := Lib.hid (K0.blk (g := w.heap.size) (vs := [.bool sa, .slice Aa na ca, .bool za, .slice Ba ma da, .bool sb, .slice Ab nb cb, .bool zb, .slice Bb mb db, .bool sc, .slice Ac nc cc, .bool zc, .slice Bc mc dc, .bool sd, .slice Ad nd cd, .bool zd, .slice Bd md dd]) (List.mem_of_getElem? (i := 2) rfl)).rng
  have rgq := Lib.hid (K0.blk (g := w.heap.size + 1 + 1) (vs := [.bool su, .slice Au nu cu, .bool zu, .slice Bu mu du, .bool sv, .slice Av nv cv, .bool zv, .slice Bv mv dv]) (List.mem_of_getElem? (i := 0) rfl)).rng
  go_wp2_with (first | (refine wpList_load_any (by rfl) _ _ rfl (w.heap.size) 0 rfl _ _ rgm.out Try.underlying28 rfl size_ma ?_) | (refine wpList_load_any (by rfl) _ _ rfl (w.heap.size + 1 + 1) 0 rfl _ _ rgq.out Try.underlying30 rfl size_ga ?_))
  refine (may_any sa Aa na ca la za Ba ma da ka sb Ab nb cb lb zb Bb mb db kb sc Ac nc cc lc zc Bc mc dc kc sd Ad nd cd ld zd Bd md dd kd su Au nu cu lu zu Bu mu du ku sv Av nv cv lv zv Bv mv dv kv _ pa qa Ha.out Ia.out pb qb Hb.out Ib.out pc qc Hc.out Ic.out pd qd Hd.out Id.out pu qu Hu.out Iu.out pv qv Hv.out Iv.out).mono ?_
  rintro e1 w1 ⟨rfl, hb⟩
  rw [HB1.out]
  have K1 := K0.next hb
  replace pa := pa.below hb
  replace qa := qa.below hb
  replace pb := pb.below hb
  replace qb := qb.below hb
  replace pc := pc.below hb
  replace qc := qc.below hb
  replace pd := pd.below hb
  replace qd := qd.below hb
  replace pe := pe.below hb
  replace qe := qe.below hb
  replace pf := pf.below hb
  replace qf := qf.below hb
  replace pg := pg.below hb
  replace qg := qg.below hb
  replace ph := ph.below hb
  replace qh := qh.below hb
  replace pu := pu.below hb
  replace qu := qu.below hb
  replace pv := pv.below hb
  replace qv := qv.below hb
  clear K0 hb rgm rgq
  cases b1 with
  | false =>
    go_wp2_with fail
    refine (alive15 _).mono ?_
    rintro e9 w9 ⟨rfl, hb9⟩
    go_wp2_with fail
    go_ret
    exact ⟨rfl, below_next K1.1 hb9⟩
  | true =>
    have rgm := Lib.hid (K1.blk (g := w.heap.size + 1) (vs := [.bool se, .slice Ae ne ce, .bool ze, .slice Be me de, .bool sf, .slice Af nf cf, .bool zf, .slice Bf mf df, .bool sg, .slice Ag ng cg, .bool zg, .slice Bg mg dg, .bool sh, .slice Ah nh ch, .bool zh, .slice Bh mh dh]) (List.mem_of_getElem? (i := 1) rfl)).rng
    have rgq := Lib.hid (K1.blk (g := w.heap.size + 1 + 1) (vs := [.bool su, .slice Au nu cu, .bool zu, .slice Bu mu du, .bool sv, .slice Av nv cv, .bool zv, .slice Bv mv dv]) (List.mem_of_getElem? (i := 0) rfl)).rng
    go_wp2_with (first | (refine wpList_load_any (by rfl) _ _ rfl (w.heap.size + 1) 0 rfl _ _ rgm.out Try.underlying28 rfl size_ma ?_) | (refine wpList_load_any (by rfl) _ _ rfl (w.heap.size + 1 + 1) 0 rfl _ _ rgq.out Try.underlying30 rfl size_ga ?_))
    refine (may_any se Ae ne ce le ze Be me de ke sf Af nf cf lf zf Bf mf df kf sg Ag ng cg lg zg Bg mg dg kg sh Ah nh ch lh zh Bh mh dh kh su Au nu cu lu zu Bu mu du ku sv Av nv cv lv zv Bv mv dv kv _ pe qe He.out Ie.out pf qf Hf.out If.out pg qg Hg.out Ig.out ph qh Hh.out Ih.out pu qu Hu.out Iu.out pv qv Hv.out Iv.out).mono ?_
    rintro e2 w2 ⟨rfl, hb⟩
    rw [HB2.out]
    have K2 := K1.next hb
    replace pa := pa.below hb
    replace qa := qa.below hb
    replace pb := pb.below hb
    replace qb := qb.below hb
    replace pc := pc.below hb
    replace qc := qc.below hb
    replace pd := pd.below hb
    replace qd := qd.below hb
    replace pe := pe.below hb
    replace qe := qe.below hb
    replace pf := pf.below hb
    replace qf := qf.below hb
    replace pg := pg.below hb
    replace qg := qg.below hb
    replace ph := ph.below hb
    replace qh := qh.below hb
    replace pu := pu.below hb
    replace qu := qu.below hb
    replace pv := pv.below hb
    replace qv := qv.below hb
    clear K1 hb rgm rgq
    cases b2 with
    | false =>
      go_wp2_with fail
      refine (alive15 _).mono ?_
      rintro e9 w9 ⟨rfl, hb9⟩
      go_wp2_with fail
      go_ret
      exact ⟨rfl, below_next K2.1 hb9⟩
    | true =>
      obtain ⟨y1, y2, y3, y4⟩ := mayB_yes HB1.out
      obtain ⟨y5, _, y6, _⟩ := mayB_yes HB2.out
      obtain ⟨ja, jb, jc, jd, jm⟩ := okM_det y3
      obtain ⟨je, jf, jg, jh, jn⟩ := okM_det y6
      obtain ⟨ju, jv, jp⟩ := chkBm_yes2 y4
      unfold szF at y1 y2 y5
      simp only at y1 y2 y5
      obtain ⟨xa, hxa⟩ : ∃ x, rv ((sa, Aa, na, ca, la), (za, Ba, ma, da, ka)) = x := ⟨_, rfl⟩
      have oa : OkF w2 ((sa, Aa, na, ca, la), (za, Ba, ma, da, ka)) xa := ⟨⟨pa, qa, show na ≤ 1000000000 by omega, show ma ≤ 1000000000 by omega⟩, ja, hxa⟩
      obtain ⟨xb, hxb⟩ : ∃ x, rv ((sb, Ab, nb, cb, lb), (zb, Bb, mb, db, kb)) = x := ⟨_, rfl⟩
      have ob : OkF w2 ((sb, Ab, nb, cb, lb), (zb, Bb, mb, db, kb)) xb := ⟨⟨pb, qb, show nb ≤ 1000000000 by omega, show mb ≤ 1000000000 by omega⟩, jb, hxb⟩
      obtain ⟨xc, hxc⟩ : ∃ x, rv ((sc, Ac, nc, cc, lc), (zc, Bc, mc, dc, kc)) = x := ⟨_, rfl⟩
      have oc : OkF w2 ((sc, Ac, nc, cc, lc), (zc, Bc, mc, dc, kc)) xc := ⟨⟨pc, qc, show nc ≤ 1000000000 by omega, show mc ≤ 1000000000 by omega⟩, jc, hxc⟩
      obtain ⟨xd, hxd⟩ : ∃ x, rv ((sd, Ad, nd, cd, ld), (zd, Bd, md, dd, kd)) = x := ⟨_, rfl⟩
      have od : OkF w2 ((sd, Ad, nd, cd, ld), (zd, Bd, md, dd, kd)) xd := ⟨⟨pd, qd, show nd ≤ 1000000000 by omega, show md ≤ 1000000000 by omega⟩, jd, hxd⟩
      obtain ⟨xe, hxe⟩ : ∃ x, rv ((se, Ae, ne, ce, le), (ze, Be, me, de, ke)) = x := ⟨_, rfl⟩
      have oe : OkF w2 ((se, Ae, ne, ce, le), (ze, Be, me, de, ke)) xe := ⟨⟨pe, qe, show ne ≤ 1000000000 by omega, show me ≤ 1000000000 by omega⟩, je, hxe⟩
      obtain ⟨xf, hxf⟩ : ∃ x, rv ((sf, Af, nf, cf, lf), (zf, Bf, mf, df, kf)) = x := ⟨_, rfl⟩
      have of : OkF w2 ((sf, Af, nf, cf, lf), (zf, Bf, mf, df, kf)) xf := ⟨⟨pf, qf, show nf ≤ 1000000000 by omega, show mf ≤ 1000000000 by omega⟩, jf, hxf⟩
      obtain ⟨xg, hxg⟩ : ∃ x, rv ((sg, Ag, ng, cg, lg), (zg, Bg, mg, dg, kg)) = x := ⟨_, rfl⟩
      have og : OkF w2 ((sg, Ag, ng, cg, lg), (zg, Bg, mg, dg, kg)) xg := ⟨⟨pg, qg, show ng ≤ 1000000000 by omega, show mg ≤ 1000000000 by omega⟩, jg, hxg⟩
      obtain ⟨xh, hxh⟩ : ∃ x, rv ((sh, Ah, nh, ch, lh), (zh, Bh, mh, dh, kh)) = x := ⟨_, rfl⟩
      have oh : OkF w2 ((sh, Ah, nh, ch, lh), (zh, Bh, mh, dh, kh)) xh := ⟨⟨ph, qh, show nh ≤ 1000000000 by omega, show mh ≤ 1000000000 by omega⟩, jh, hxh⟩
      obtain ⟨xu, hxu⟩ : ∃ x, rv ((su, Au, nu, cu, lu), (zu, Bu, mu, du, ku)) = x := ⟨_, rfl⟩
      have ou : OkF w2 ((su, Au, nu, cu, lu), (zu, Bu, mu, du, ku)) xu := ⟨⟨pu, qu, show nu ≤ 1000000000 by omega, show mu ≤ 1000000000 by omega⟩, ju, hxu⟩
      obtain ⟨xv, hxv⟩ : ∃ x, rv ((sv, Av, nv, cv, lv), (zv, Bv, mv, dv, kv)) = x := ⟨_, rfl⟩
      have ov : OkF w2 ((sv, Av, nv, cv, lv), (zv, Bv, mv, dv, kv)) xv := ⟨⟨pv, qv, show nv ≤ 1000000000 by omega, show mv ≤ 1000000000 by omega⟩, jv, hxv⟩
      rw [hxa, hxb, hxc, hxd] at jm
      rw [hxe, hxf, hxg, hxh] at jn
      rw [hxv] at jp
      have GM : Hid (MatS 292 xa xb xc xd) := Lib.hid ((matS_of (int_pow oa.ints.1) (den_pow oa.ints.2.1) (int_pow ob.ints.1) (den_pow ob.ints.2.1) (int_pow oc.ints.1) (den_pow oc.ints.2.1) (int_pow od.ints.1) (den_pow od.ints.2.1)).mono (by omega))
      have GN : Hid (MatS 292 xe xf xg xh) := Lib.hid ((matS_of (int_pow oe.ints.1) (den_pow oe.ints.2.1) (int_pow of.ints.1) (den_pow of.ints.2.1) (int_pow og.ints.1) (den_pow og.ints.2.1) (int_pow oh.ints.1) (den_pow oh.ints.2.1)).mono (by omega))
      have GQ : Hid (GauS 146 xu xv) := Lib.hid ((gauS_of (int_pow ou.ints.1) (den_pow ou.ints.2.1) (int_pow ov.ints.1) (den_pow ov.ints.2.1)).mono (by omega))
      obtain ⟨P1, hP1⟩ : ∃ x, thR xe xf xg xh xu xv = x := ⟨_, rfl⟩
      obtain ⟨P2, hP2⟩ : ∃ x, thI xg xh xu xv = x := ⟨_, rfl⟩
      obtain ⟨R1, hR1⟩ : ∃ x, thR xa xb xc xd P1 P2 = x := ⟨_, rfl⟩
      obtain ⟨R2, hR2⟩ : ∃ x, thI xc xd P1 P2 = x := ⟨_, rfl⟩
      obtain ⟨X1, X2, X3, X4, X5, X6, X7, X8, X9, X10, X11, X12⟩ := group_facts GM.out GN.out GQ.out jm jn jp hP1 hP2 hR1 hR2
      replace X1 := Lib.hid X1
      replace X2 := Lib.hid X2
      replace X3 := Lib.hid X3
      replace X4 := Lib.hid X4
      replace X5 := Lib.hid X5
      replace X6 := Lib.hid X6
      replace X7 := Lib.hid X7
      replace X8 := Lib.hid X8
      replace X9 := Lib.hid X9
      replace X10 := Lib.hid X10
      replace X11 := Lib.hid X11
      replace X12 := Lib.hid X12
      have JM := Lib.hid jm
      have JN := Lib.hid jn
      have JP := Lib.hid jp
      have HP1 := Lib.hid hP1
      have HP2 := Lib.hid hP2
      have HR1 := Lib.hid hR1
      have HR2 := Lib.hid hR2
      clear y1 y2 y3 y4 y5 y6 jm jn jp hP1 hP2 hR1 hR2 ja hxa pa qa jb hxb pb qb jc hxc pc qc jd hxd pd qd je hxe pe qe jf hxf pf qf jg hxg pg qg jh hxh ph qh ju hxu pu qu jv hxv pv qv
      have rgm := Lib.hid (K2.blk (g := w.heap.size + 1) (vs := [.bool se, .slice Ae ne ce, .bool ze, .slice Be me de, .bool sf, .slice Af nf cf, .bool zf, .slice Bf mf df, .bool sg, .slice Ag ng cg, .bool zg, .slice Bg mg dg, .bool sh, .slice Ah nh ch, .bool zh, .slice Bh mh dh]) (List.mem_of_getElem? (i := 1) rfl)).rng
      have rgq := Lib.hid (K2.blk (g := w.heap.size + 1 + 1) (vs := [.bool su, .slice Au nu cu, .bool zu, .slice Bu mu du, .bool sv, .slice Av nv cv, .bool zv, .slice Bv mv dv]) (List.mem_of_getElem? (i := 0) rfl)).rng
      go_wp2_with (first | (refine wpList_load_any (by rfl) _ _ rfl (w.heap.size + 1) 0 rfl _ _ rgm.out Try.underlying28 rfl size_ma ?_) | (refine wpList_load_any (by rfl) _ _ rfl (w.heap.size + 1 + 1) 0 rfl _ _ rgq.out Try.underlying30 rfl size_ga ?_))
      refine (beam_through_eq se Ae ne ce le ze Be me de ke xe sf Af nf cf lf zf Bf mf df kf xf sg Ag ng cg lg zg Bg mg dg kg xg sh Ah nh ch lh zh Bh mh dh kh xh su Au nu cu lu zu Bu mu du ku xu sv Av nv cv lv zv Bv mv dv kv xv P1 P2 _ oe (GN.out.szs.1.mono (by decide)) of (GN.out.szs.2.1.mono (by decide)) og (GN.out.szs.2.2.1.mono (by decide)) oh (GN.out.szs.2.2.2.mono (by decide)) ou (GQ.out.szs.1.mono (by decide)) ov (GQ.out.szs.2.mono (by decide)) JN.out JP.out HP1 HP2 (X1.out.1.mono (by decide)) (X1.out.2.mono (by decide))).mono ?_
      rintro e3 v3 ⟨sp1, Ap1, np1, cp1, lp1, zp1, Bp1, mp1, dp1, kp1, sp2, Ap2, np2, cp2, lp2, zp2, Bp2, mp2, dp2, kp2, rfl, op1, op2, hb⟩
      have hbx : Below v3.heap.size v3 (v3.alloc (.cells #[.bool sp1, .slice Ap1 np1 cp1, .bool zp1, .slice Bp1 mp1 dp1, .bool sp2, .slice Ap2 np2 cp2, .bool zp2, .slice Bp2 mp2 dp2] 30)) := (Below.refl _ _).alloc (Nat.le_refl _) _
      have K3 := ((K2.next hb).var (g := v3.heap.size) rfl [.bool sp1, .slice Ap1 np1 cp1, .bool zp1, .slice Bp1 mp1 dp1, .bool sp2, .slice Ap2 np2 cp2, .bool zp2, .slice Bp2 mp2 dp2] 30)
      replace op1 := op1.next hbx
      replace op2 := op2.next hbx
      replace oa := (oa.next hb).next hbx
      replace ob := (ob.next hb).next hbx
      replace oc := (oc.next hb).next hbx
      replace od := (od.next hb).next hbx
      replace oe := (oe.next hb).next hbx
      replace of := (of.next hb).next hbx
      replace og := (og.next hb).next hbx
      replace oh := (oh.next hb).next hbx
      replace ou := (ou.next hb).next hbx
      replace ov := (ov.next hb).next hbx
      clear K2 hb hbx rgm rgq
      go_upto_region 4 with (fail)
      generalize v3.heap.size = g7 at K3 ⊢
      generalize v3.alloc (.cells #[.bool sp1, .slice Ap1 np1 cp1, .bool zp1, .slice Bp1 mp1 dp1, .bool sp2, .slice Ap2 np2 cp2, .bool zp2, .slice Bp2 mp2 dp2] 30) = u3 at K3 oa ob oc od oe of og oh ou ov op1 op2 ⊢
      have rgm := Lib.hid (K3.blk (g := w.heap.size) (vs := [.bool sa, .slice Aa na ca, .bool za, .slice Ba ma da, .bool sb, .slice Ab nb cb, .bool zb, .slice Bb mb db, .bool sc, .slice Ac nc cc, .bool zc, .slice Bc mc dc, .bool sd, .slice Ad nd cd, .bool zd, .slice Bd md dd]) (List.mem_of_getElem? (i := 3) rfl)).rng
      have rgq := Lib.hid (K3.blk (g := g7) (vs := [.bool sp1, .slice Ap1 np1 cp1, .bool zp1, .slice Bp1 mp1 dp1, .bool sp2, .slice Ap2 np2 cp2, .bool zp2, .slice Bp2 mp2 dp2]) (List.mem_of_getElem? (i := 0) rfl)).rng
      go_wp2_with (first | (refine wpList_load_any (by rfl) _ _ rfl (w.heap.size) 0 rfl _ _ rgm.out Try.underlying28 rfl size_ma ?_) | (refine wpList_load_any (by rfl) _ _ rfl (g7) 0 rfl _ _ rgq.out Try.underlying30 rfl size_ga ?_))
      refine (beam_through_eq sa Aa na ca la za Ba ma da ka xa sb Ab nb cb lb zb Bb mb db kb xb sc Ac nc cc lc zc Bc mc dc kc xc sd Ad nd cd ld zd Bd md dd kd xd sp1 Ap1 np1 cp1 lp1 zp1 Bp1 mp1 dp1 kp1 P1 sp2 Ap2 np2 cp2 lp2 zp2 Bp2 mp2 dp2 kp2 P2 R1 R2 _ oa (GM.out.szs.1.mono (by decide)) ob (GM.out.szs.2.1.mono (by decide)) oc (GM.out.szs.2.2.1.mono (by decide)) od (GM.out.szs.2.2.2.mono (by decide)) op1 (X1.out.1.mono (by decide)) op2 (X1.out.2.mono (by decide)) JM.out X2.out HR1 HR2 X3.out.1 X3.out.2).mono ?_
      rintro e4 v4 ⟨sr1, Ar1, nr1, cr1, lr1, zr1, Br1, mr1, dr1, kr1, sr2, Ar2, nr2, cr2, lr2, zr2, Br2, mr2, dr2, kr2, rfl, or1, or2, hb⟩
      have hbx : Below v4.heap.size v4 (v4.alloc (.cells #[.bool sr1, .slice Ar1 nr1 cr1, .bool zr1, .slice Br1 mr1 dr1, .bool sr2, .slice Ar2 nr2 cr2, .bool zr2, .slice Br2 mr2 dr2] 30)) := (Below.refl _ _).alloc (Nat.le_refl _) _
      have K4 := ((K3.next hb).var (g := v4.heap.size) rfl [.bool sr1, .slice Ar1 nr1 cr1, .bool zr1, .slice Br1 mr1 dr1, .bool sr2, .slice Ar2 nr2 cr2, .bool zr2, .slice Br2 mr2 dr2] 30)
      replace or1 := or1.next hbx
      replace or2 := or2.next hbx
      replace oa := (oa.next hb).next hbx
      replace ob := (ob.next hb).next hbx
      replace oc := (oc.next hb).next hbx
      replace od := (od.next hb).next hbx
      replace oe := (oe.next hb).next hbx
      replace of := (of.next hb).next hbx
      replace og := (og.next hb).next hbx
      replace oh := (oh.next hb).next hbx
      replace ou := (ou.next hb).next hbx
      replace ov := (ov.next hb).next hbx
      replace op1 := (op1.next hb).next hbx
      replace op2 := (op2.next hb).next hbx
      clear K3 hb hbx rgm rgq
      go_upto_region 5 with (fail)
      generalize v4.heap.size = g9 at K4 ⊢
      generalize v4.alloc (.cells #[.bool sr1, .slice Ar1 nr1 cr1, .bool zr1, .slice Br1 mr1 dr1, .bool sr2, .slice Ar2 nr2 cr2, .bool zr2, .slice Br2 mr2 dr2] 30) = u4 at K4 oa ob oc od oe of og oh ou ov op1 op2 or1 or2 ⊢
      have rgm := Lib.hid (K4.blk (g := w.heap.size) (vs := [.bool sa, .slice Aa na ca, .bool za, .slice Ba ma da, .bool sb, .slice Ab nb cb, .bool zb, .slice Bb mb db, .bool sc, .slice Ac nc cc, .bool zc, .slice Bc mc dc, .bool sd, .slice Ad nd cd, .bool zd, .slice Bd md dd]) (List.mem_of_getElem? (i := 4) rfl)).rng
      have rgn := Lib.hid (K4.blk (g := w.heap.size + 1) (vs := [.bool se, .slice Ae ne ce, .bool ze, .slice Be me de, .bool sf, .slice Af nf cf, .bool zf, .slice Bf mf df, .bool sg, .slice Ag ng cg, .bool zg, .slice Bg mg dg, .bool sh, .slice Ah nh ch, .bool zh, .slice Bh mh dh]) (List.mem_of_getElem? (i := 3) rfl)).rng
      go_wp2_with (first | (refine wpList_load_any (by rfl) _ _ rfl (w.heap.size) 0 rfl _ _ rgm.out Try.underlying28 rfl size_ma ?_) | (refine wpList_load_any (by rfl) _ _ rfl (w.heap.size + 1) 0 rfl _ _ rgn.out Try.underlying28 rfl size_ma ?_))
      refine (ray_mul_ok sa Aa na ca la za Ba ma da ka xa sb Ab nb cb lb zb Bb mb db kb xb sc Ac nc cc lc zc Bc mc dc kc xc sd Ad nd cd ld zd Bd md dd kd xd se Ae ne ce le ze Be me de ke xe sf Af nf cf lf zf Bf mf df kf xf sg Ag ng cg lg zg Bg mg dg kg xg sh Ah nh ch lh zh Bh mh dh kh xh _ oa (GM.out.szs.1.mono (by decide)) ob (GM.out.szs.2.1.mono (by decide)) oc (GM.out.szs.2.2.1.mono (by decide)) od (GM.out.szs.2.2.2.mono (by decide)) oe (GN.out.szs.1.mono (by decide)) of (GN.out.szs.2.1.mono (by decide)) og (GN.out.szs.2.2.1.mono (by decide)) oh (GN.out.szs.2.2.2.mono (by decide)) JM.out JN.out).mono ?_
      rintro e5 v5 ⟨ss1, As1, ns1, cs1, ls1, zs1, Bs1, ms1, ds1, ks1, ss2, As2, ns2, cs2, ls2, zs2, Bs2, ms2, ds2, ks2, ss3, As3, ns3, cs3, ls3, zs3, Bs3, ms3, ds3, ks3, ss4, As4, ns4, cs4, ls4, zs4, Bs4, ms4, ds4, ks4, rfl, os1, os2, os3, os4, hb⟩
      have hbx : Below v5.heap.size v5 (v5.alloc (.cells #[.bool ss1, .slice As1 ns1 cs1, .bool zs1, .slice Bs1 ms1 ds1, .bool ss2, .slice As2 ns2 cs2, .bool zs2, .slice Bs2 ms2 ds2, .bool ss3, .slice As3 ns3 cs3, .bool zs3, .slice Bs3 ms3 ds3, .bool ss4, .slice As4 ns4 cs4, .bool zs4, .slice Bs4 ms4 ds4] 28)) := (Below.refl _ _).alloc (Nat.le_refl _) _
      have K5 := ((K4.next hb).var (g := v5.heap.size) rfl [.bool ss1, .slice As1 ns1 cs1, .bool zs1, .slice Bs1 ms1 ds1, .bool ss2, .slice As2 ns2 cs2, .bool zs2, .slice Bs2 ms2 ds2, .bool ss3, .slice As3 ns3 cs3, .bool zs3, .slice Bs3 ms3 ds3, .bool ss4, .slice As4 ns4 cs4, .bool zs4, .slice Bs4 ms4 ds4] 28)
      replace os1 := os1.next hbx
      replace os2 := os2.next hbx
      replace os3 := os3.next hbx
      replace os4 := os4.next hbx
      replace oa := (oa.next hb).next hbx
      replace ob := (ob.next hb).next hbx
      replace oc := (oc.next hb).next hbx
      replace od := (od.next hb).next hbx
      replace oe := (oe.next hb).next hbx
      replace of := (of.next hb).next hbx
      replace og := (og.next hb).next hbx
      replace oh := (oh.next hb).next hbx
      replace ou := (ou.next hb).next hbx
      replace ov := (ov.next hb).next hbx
      replace op1 := (op1.next hb).next hbx
      replace op2 := (op2.next hb).next hbx
      replace or1 := (or1.next hb).next hbx
      replace or2 := (or2.next hb).next hbx
      clear K4 hb hbx rgm rgn
      go_upto_region 6 with (fail)
      generalize v5.heap.size = g11 at K5 ⊢
      generalize v5.alloc (.cells #[.bool ss1, .slice As1 ns1 cs1, .bool zs1, .slice Bs1 ms1 ds1, .bool ss2, .slice As2 ns2 cs2, .bool zs2, .slice Bs2 ms2 ds2, .bool ss3, .slice As3 ns3 cs3, .bool zs3, .slice Bs3 ms3 ds3, .bool ss4, .slice As4 ns4 cs4, .bool zs4, .slice Bs4 ms4 ds4] 28) = u5 at K5 oa ob oc od oe of og oh ou ov op1 op2 or1 or2 os1 os2 os3 os4 ⊢
      clear oa ob oc od
      replace K5 := K5.pick (L' := [(g11, [.bool ss1, .slice As1 ns1 cs1, .bool zs1, .slice Bs1 ms1 ds1, .bool ss2, .slice As2 ns2 cs2, .bool zs2, .slice Bs2 ms2 ds2, .bool ss3, .slice As3 ns3 cs3, .bool zs3, .slice Bs3 ms3 ds3, .bool ss4, .slice As4 ns4 cs4, .bool zs4, .slice Bs4 ms4 ds4]), (g9, [.bool sr1, .slice Ar1 nr1 cr1, .bool zr1, .slice Br1 mr1 dr1, .bool sr2, .slice Ar2 nr2 cr2, .bool zr2, .slice Br2 mr2 dr2]), (g7, [.bool sp1, .slice Ap1 np1 cp1, .bool zp1, .slice Bp1 mp1 dp1, .bool sp2, .slice Ap2 np2 cp2, .bool zp2, .slice Bp2 mp2 dp2]), (w.heap.size + 1 + 1, [.bool su, .slice Au nu cu, .bool zu, .slice Bu mu du, .bool sv, .slice Av nv cv, .bool zv, .slice Bv mv dv]), (w.heap.size + 1, [.bool se, .slice Ae ne ce, .bool ze, .slice Be me de, .bool sf, .slice Af nf cf, .bool zf, .slice Bf mf df, .bool sg, .slice Ag ng cg, .bool zg, .slice Bg mg dg, .bool sh, .slice Ah nh ch, .bool zh, .slice Bh mh dh])]) (l' := []) (all_cons (List.mem_of_getElem? (i := 0) rfl) (all_cons (List.mem_of_getElem? (i := 1) rfl) (all_cons (List.mem_of_getElem? (i := 2) rfl) (all_cons (List.mem_of_getElem? (i := 3) rfl) (all_cons (List.mem_of_getElem? (i := 4) rfl) all_nil))))) all_nil
      have rgm := Lib.hid (K5.blk (g := g11) (vs := [.bool ss1, .slice As1 ns1 cs1, .bool zs1, .slice Bs1 ms1 ds1, .bool ss2, .slice As2 ns2 cs2, .bool zs2, .slice Bs2 ms2 ds2, .bool ss3, .slice As3 ns3 cs3, .bool zs3, .slice Bs3 ms3 ds3, .bool ss4, .slice As4 ns4 cs4, .bool zs4, .slice Bs4 ms4 ds4]) (List.mem_of_getElem? (i := 0) rfl)).rng
      have rgq := Lib.hid (K5.blk (g := w.heap.size + 1 + 1) (vs := [.bool su, .slice Au nu cu, .bool zu, .slice Bu mu du, .bool sv, .slice Av nv cv, .bool zv, .slice Bv mv dv]) (List.mem_of_getElem? (i := 3) rfl)).rng
      go_wp2_with (first | (refine wpList_load_any (by rfl) _ _ rfl (g11) 0 rfl _ _ rgm.out Try.underlying28 rfl size_ma ?_) | (refine wpList_load_any (by rfl) _ _ rfl (w.heap.size + 1 + 1) 0 rfl _ _ rgq.out Try.underlying30 rfl size_ga ?_))
      refine (beam_through_eq ss1 As1 ns1 cs1 ls1 zs1 Bs1 ms1 ds1 ks1 (xa * xe + xb * xg) ss2 As2 ns2 cs2 ls2 zs2 Bs2 ms2 ds2 ks2 (xa * xf + xb * xh) ss3 As3 ns3 cs3 ls3 zs3 Bs3 ms3 ds3 ks3 (xc * xe + xd * xg) ss4 As4 ns4 cs4 ls4 zs4 Bs4 ms4 ds4 ks4 (xc * xf + xd * xh) su Au nu cu lu zu Bu mu du ku xu sv Av nv cv lv zv Bv mv dv kv xv R1 R2 _ os1 (X4.out.1.mono (by decide)) os2 (X4.out.2.1.mono (by decide)) os3 (X4.out.2.2.1.mono (by decide)) os4 (X4.out.2.2.2.mono (by decide)) ou (GQ.out.szs.1.mono (by decide)) ov (GQ.out.szs.2.mono (by decide)) X5.out JP.out (Lib.hid X6.out.1) (Lib.hid X6.out.2) X3.out.1 X3.out.2).mono ?_
      rintro e6 v6 ⟨st1, At1, nt1, ct1, lt1, zt1, Bt1, mt1, dt1, kt1, st2, At2, nt2, ct2, lt2, zt2, Bt2, mt2, dt2, kt2, rfl, ot1, ot2, hb⟩
      have hbx : Below v6.heap.size v6 (v6.alloc (.cells #[.bool st1, .slice At1 nt1 ct1, .bool zt1, .slice Bt1 mt1 dt1, .bool st2, .slice At2 nt2 ct2, .bool zt2, .slice Bt2 mt2 dt2] 30)) := (Below.refl _ _).alloc (Nat.le_refl _) _
      have K6 := ((K5.next hb).var (g := v6.heap.size) rfl [.bool st1, .slice At1 nt1 ct1, .bool zt1, .slice Bt1 mt1 dt1, .bool st2, .slice At2 nt2 ct2, .bool zt2, .slice Bt2 mt2 dt2] 30)
      replace ot1 := ot1.next hbx
      replace ot2 := ot2.next hbx
      replace oe := (oe.next hb).next hbx
      replace of := (of.next hb).next hbx
      replace og := (og.next hb).next hbx
      replace oh := (oh.next hb).next hbx
      replace ou := (ou.next hb).next hbx
      replace ov := (ov.next hb).next hbx
      replace op1 := (op1.next hb).next hbx
      replace op2 := (op2.next hb).next hbx
      replace or1 := (or1.next hb).next hbx
      replace or2 := (or2.next hb).next hbx
      replace os1 := (os1.next hb).next hbx
      replace os2 := (os2.next hb).next hbx
      replace os3 := (os3.next hb).next hbx
      replace os4 := (os4.next hb).next hbx
      clear K5 hb hbx rgm rgq
      go_upto_region 7 with (fail)
      generalize v6.heap.size = g13 at K6 ⊢
      generalize v6.alloc (.cells #[.bool st1, .slice At1 nt1 ct1, .bool zt1, .slice Bt1 mt1 dt1, .bool st2, .slice At2 nt2 ct2, .bool zt2, .slice Bt2 mt2 dt2] 30) = u6 at K6 oe of og oh ou ov op1 op2 or1 or2 os1 os2 os3 os4 ot1 ot2 ⊢
      clear os1 os2 os3 os4
      replace K6 := K6.pick (L' := [(g13, [.bool st1, .slice At1 nt1 ct1, .bool zt1, .slice Bt1 mt1 dt1, .bool st2, .slice At2 nt2 ct2, .bool zt2, .slice Bt2 mt2 dt2]), (g9, [.bool sr1, .slice Ar1 nr1 cr1, .bool zr1, .slice Br1 mr1 dr1, .bool sr2, .slice Ar2 nr2 cr2, .bool zr2, .slice Br2 mr2 dr2]), (g7, [.bool sp1, .slice Ap1 np1 cp1, .bool zp1, .slice Bp1 mp1 dp1, .bool sp2, .slice Ap2 np2 cp2, .bool zp2, .slice Bp2 mp2 dp2]), (w.heap.size + 1 + 1, [.bool su, .slice Au nu cu, .bool zu, .slice Bu mu du, .bool sv, .slice Av nv cv, .bool zv, .slice Bv mv dv]), (w.heap.size + 1, [.bool se, .slice Ae ne ce, .bool ze, .slice Be me de, .bool sf, .slice Af nf cf, .bool zf, .slice Bf mf df, .bool sg, .slice Ag ng cg, .bool zg, .slice Bg mg dg, .bool sh, .slice Ah nh ch, .bool zh, .slice Bh mh dh])]) (l' := []) (all_cons (List.mem_of_getElem? (i := 0) rfl) (all_cons (List.mem_of_getElem? (i := 2) rfl) (all_cons (List.mem_of_getElem? (i := 3) rfl) (all_cons (List.mem_of_getElem? (i := 4) rfl) (all_cons (List.mem_of_getElem? (i := 5) rfl) all_nil))))) all_nil
      have rgn := Lib.hid (K6.blk (g := w.heap.size + 1) (vs := [.bool se, .slice Ae ne ce, .bool ze, .slice Be me de, .bool sf, .slice Af nf cf, .bool zf, .slice Bf mf df, .bool sg, .slice Ag ng cg, .bool zg, .slice Bg mg dg, .bool sh, .slice Ah nh ch, .bool zh, .slice Bh mh dh]) (List.mem_of_getElem? (i := 4) rfl)).rng
      go_wp2_with (first | (refine wpList_load_any (by rfl) _ _ rfl (w.heap.size + 1) 0 rfl _ _ rgn.out Try.underlying28 rfl size_ma ?_))
      refine (ray_back_ok se Ae ne ce le ze Be me de ke xe sf Af nf cf lf zf Bf mf df kf xf sg Ag ng cg lg zg Bg mg dg kg xg sh Ah nh ch lh zh Bh mh dh kh xh _ oe of og oh JN.out).mono ?_
      rintro e7 v7 ⟨ss1, As1, ns1, cs1, ls1, zs1, Bs1, ms1, ds1, ks1, ss2, As2, ns2, cs2, ls2, zs2, Bs2, ms2, ds2, ks2, ss3, As3, ns3, cs3, ls3, zs3, Bs3, ms3, ds3, ks3, ss4, As4, ns4, cs4, ls4, zs4, Bs4, ms4, ds4, ks4, rfl, os1, os2, os3, os4, hb⟩
      have hbx : Below v7.heap.size v7 (v7.alloc (.cells #[.bool ss1, .slice As1 ns1 cs1, .bool zs1, .slice Bs1 ms1 ds1, .bool ss2, .slice As2 ns2 cs2, .bool zs2, .slice Bs2 ms2 ds2, .bool ss3, .slice As3 ns3 cs3, .bool zs3, .slice Bs3 ms3 ds3, .bool ss4, .slice As4 ns4 cs4, .bool zs4, .slice Bs4 ms4 ds4] 28)) := (Below.refl _ _).alloc (Nat.le_refl _) _
      have K7 := ((K6.next hb).var (g := v7.heap.size) rfl [.bool ss1, .slice As1 ns1 cs1, .bool zs1, .slice Bs1 ms1 ds1, .bool ss2, .slice As2 ns2 cs2, .bool zs2, .slice Bs2 ms2 ds2, .bool ss3, .slice As3 ns3 cs3, .bool zs3, .slice Bs3 ms3 ds3, .bool ss4, .slice As4 ns4 cs4, .bool zs4, .slice Bs4 ms4 ds4] 28)
      replace os1 := os1.next hbx
      replace os2 := os2.next hbx
      replace os3 := os3.next hbx
      replace os4 := os4.next hbx
      replace oe := (oe.next hb).next hbx
      replace of := (of.next hb).next hbx
      replace og := (og.next hb).next hbx
      replace oh := (oh.next hb).next hbx
      replace ou := (ou.next hb).next hbx
      replace ov := (ov.next hb).next hbx
      replace op1 := (op1.next hb).next hbx
      replace op2 := (op2.next hb).next hbx
      replace or1 := (or1.next hb).next hbx
      replace or2 := (or2.next hb).next hbx
      replace ot1 := (ot1.next hb).next hbx
      replace ot2 := (ot2.next hb).next hbx
      clear K6 hb hbx rgn
      go_upto_region 8 with (fail)
      generalize v7.heap.size = g15 at K7 ⊢
      generalize v7.alloc (.cells #[.bool ss1, .slice As1 ns1 cs1, .bool zs1, .slice Bs1 ms1 ds1, .bool ss2, .slice As2 ns2 cs2, .bool zs2, .slice Bs2 ms2 ds2, .bool ss3, .slice As3 ns3 cs3, .bool zs3, .slice Bs3 ms3 ds3, .bool ss4, .slice As4 ns4 cs4, .bool zs4, .slice Bs4 ms4 ds4] 28) = u7 at K7 oe of og oh ou ov op1 op2 or1 or2 ot1 ot2 os1 os2 os3 os4 ⊢
      have rgm := Lib.hid (K7.blk (g := g15) (vs := [.bool ss1, .slice As1 ns1 cs1, .bool zs1, .slice Bs1 ms1 ds1, .bool ss2, .slice As2 ns2 cs2, .bool zs2, .slice Bs2 ms2 ds2, .bool ss3, .slice As3 ns3 cs3, .bool zs3, .slice Bs3 ms3 ds3, .bool ss4, .slice As4 ns4 cs4, .bool zs4, .slice Bs4 ms4 ds4]) (List.mem_of_getElem? (i := 0) rfl)).rng
      have rgq := Lib.hid (K7.blk (g := g7) (vs := [.bool sp1, .slice Ap1 np1 cp1, .bool zp1, .slice Bp1 mp1 dp1, .bool sp2, .slice Ap2 np2 cp2, .bool zp2, .slice Bp2 mp2 dp2]) (List.mem_of_getElem? (i := 3) rfl)).rng
      go_wp2_with (first | (refine wpList_load_any (by rfl) _ _ rfl (g15) 0 rfl _ _ rgm.out Try.underlying28 rfl size_ma ?_) | (refine wpList_load_any (by rfl) _ _ rfl (g7) 0 rfl _ _ rgq.out Try.underlying30 rfl size_ga ?_))
      refine (beam_through_eq ss1 As1 ns1 cs1 ls1 zs1 Bs1 ms1 ds1 ks1 xh ss2 As2 ns2 cs2 ls2 zs2 Bs2 ms2 ds2 ks2 (-xf) ss3 As3 ns3 cs3 ls3 zs3 Bs3 ms3 ds3 ks3 (-xg) ss4 As4 ns4 cs4 ls4 zs4 Bs4 ms4 ds4 ks4 xe sp1 Ap1 np1 cp1 lp1 zp1 Bp1 mp1 dp1 kp1 P1 sp2 Ap2 np2 cp2 lp2 zp2 Bp2 mp2 dp2 kp2 P2 xu xv _ os1 (GN.out.szs.2.2.2.mono (by decide)) os2 (sz_opp2 (GN.out.szs.2.1.mono (by decide))) os3 (sz_opp2 (GN.out.szs.2.2.1.mono (by decide))) os4 (GN.out.szs.1.mono (by decide)) op1 (X1.out.1.mono (by decide)) op2 (X1.out.2.mono (by decide)) X7.out X2.out (Lib.hid X8.out.1) (Lib.hid X8.out.2) (GQ.out.szs.1.mono (by decide)) (GQ.out.szs.2.mono (by decide))).mono ?_
      rintro e8 v8 ⟨sc1, Ac1, nc1, cc1, lc1, zc1, Bc1, mc1, dc1, kc1, sc2, Ac2, nc2, cc2, lc2, zc2, Bc2, mc2, dc2, kc2, rfl, oc1, oc2, hb⟩
      have hbx : Below v8.heap.size v8 (v8.alloc (.cells #[.bool sc1, .slice Ac1 nc1 cc1, .bool zc1, .slice Bc1 mc1 dc1, .bool sc2, .slice Ac2 nc2 cc2, .bool zc2, .slice Bc2 mc2 dc2] 30)) := (Below.refl _ _).alloc (Nat.le_refl _) _
      have K8 := ((K7.next hb).var (g := v8.heap.size) rfl [.bool sc1, .slice Ac1 nc1 cc1, .bool zc1, .slice Bc1 mc1 dc1, .bool sc2, .slice Ac2 nc2 cc2, .bool zc2, .slice Bc2 mc2 dc2] 30)
      replace oc1 := oc1.next hbx
      replace oc2 := oc2.next hbx
      replace oe := (oe.next hb).next hbx
      replace of := (of.next hb).next hbx
      replace og := (og.next hb).next hbx
      replace oh := (oh.next hb).next hbx
      replace ou := (ou.next hb).next hbx
      replace ov := (ov.next hb).next hbx
      replace op1 := (op1.next hb).next hbx
      replace op2 := (op2.next hb).next hbx
      replace or1 := (or1.next hb).next hbx
      replace or2 := (or2.next hb).next hbx
      replace ot1 := (ot1.next hb).next hbx
      replace ot2 := (ot2.next hb).next hbx
      replace os1 := (os1.next hb).next hbx
      replace os2 := (os2.next hb).next hbx
      replace os3 := (os3.next hb).next hbx
      replace os4 := (os4.next hb).next hbx
      clear K7 hb hbx rgm rgq
      go_upto_region 9 with (fail)
      generalize v8.heap.size = g17 at K8 ⊢
      generalize v8.alloc (.cells #[.bool sc1, .slice Ac1 nc1 cc1, .bool zc1, .slice Bc1 mc1 dc1, .bool sc2, .slice Ac2 nc2 cc2, .bool zc2, .slice Bc2 mc2 dc2] 30) = u8 at K8 oe of og oh ou ov op1 op2 or1 or2 ot1 ot2 os1 os2 os3 os4 oc1 oc2 ⊢
      clear os1 os2 os3 os4
      replace K8 := K8.pick (L' := [(g17, [.bool sc1, .slice Ac1 nc1 cc1, .bool zc1, .slice Bc1 mc1 dc1, .bool sc2, .slice Ac2 nc2 cc2, .bool zc2, .slice Bc2 mc2 dc2]), (g13, [.bool st1, .slice At1 nt1 ct1, .bool zt1, .slice Bt1 mt1 dt1, .bool st2, .slice At2 nt2 ct2, .bool zt2, .slice Bt2 mt2 dt2]), (g9, [.bool sr1, .slice Ar1 nr1 cr1, .bool zr1, .slice Br1 mr1 dr1, .bool sr2, .slice Ar2 nr2 cr2, .bool zr2, .slice Br2 mr2 dr2]), (g7, [.bool sp1, .slice Ap1 np1 cp1, .bool zp1, .slice Bp1 mp1 dp1, .bool sp2, .slice Ap2 np2 cp2, .bool zp2, .slice Bp2 mp2 dp2]), (w.heap.size + 1 + 1, [.bool su, .slice Au nu cu, .bool zu, .slice Bu mu du, .bool sv, .slice Av nv cv, .bool zv, .slice Bv mv dv]), (w.heap.size + 1, [.bool se, .slice Ae ne ce, .bool ze, .slice Be me de, .bool sf, .slice Af nf cf, .bool zf, .slice Bf mf df, .bool sg, .slice Ag ng cg, .bool zg, .slice Bg mg dg, .bool sh, .slice Ah nh ch, .bool zh, .slice Bh mh dh])]) (l' := []) (all_cons (List.mem_of_getElem? (i := 0) rfl) (all_cons (List.mem_of_getElem? (i := 2) rfl) (all_cons (List.mem_of_getElem? (i := 3) rfl) (all_cons (List.mem_of_getElem? (i := 4) rfl) (all_cons (List.mem_of_getElem? (i := 5) rfl) (all_cons (List.mem_of_getElem? (i := 6) rfl) all_nil)))))) all_nil
      have rgn := Lib.hid (K8.blk (g := w.heap.size + 1) (vs := [.bool se, .slice Ae ne ce, .bool ze, .slice Be me de, .bool sf, .slice Af nf cf, .bool zf, .slice Bf mf df, .bool sg, .slice Ag ng cg, .bool zg, .slice Bg mg dg, .bool sh, .slice Ah nh ch, .bool zh, .slice Bh mh dh]) (List.mem_of_getElem? (i := 5) rfl)).rng
      go_wp2_with (first | (refine wpList_load_any (by rfl) _ _ rfl (w.heap.size + 1) 0 rfl _ _ rgn.out Try.underlying28 rfl size_ma ?_))
      refine (ray_mirror_ok se Ae ne ce le ze Be me de ke xe sf Af nf cf lf zf Bf mf df kf xf sg Ag ng cg lg zg Bg mg dg kg xg sh Ah nh ch lh zh Bh mh dh kh xh _ oe of og oh JN.out).mono ?_
      rintro e9 v9 ⟨ss1, As1, ns1, cs1, ls1, zs1, Bs1, ms1, ds1, ks1, ss2, As2, ns2, cs2, ls2, zs2, Bs2, ms2, ds2, ks2, ss3, As3, ns3, cs3, ls3, zs3, Bs3, ms3, ds3, ks3, ss4, As4, ns4, cs4, ls4, zs4, Bs4, ms4, ds4, ks4, rfl, os1, os2, os3, os4, hb⟩
      have hbx : Below v9.heap.size v9 (v9.alloc (.cells #[.bool ss1, .slice As1 ns1 cs1, .bool zs1, .slice Bs1 ms1 ds1, .bool ss2, .slice As2 ns2 cs2, .bool zs2, .slice Bs2 ms2 ds2, .bool ss3, .slice As3 ns3 cs3, .bool zs3, .slice Bs3 ms3 ds3, .bool ss4, .slice As4 ns4 cs4, .bool zs4, .slice Bs4 ms4 ds4] 28)) := (Below.refl _ _).alloc (Nat.le_refl _) _
      have K9 := ((K8.next hb).var (g := v9.heap.size) rfl [.bool ss1, .slice As1 ns1 cs1, .bool zs1, .slice Bs1 ms1 ds1, .bool ss2, .slice As2 ns2 cs2, .bool zs2, .slice Bs2 ms2 ds2, .bool ss3, .slice As3 ns3 cs3, .bool zs3, .slice Bs3 ms3 ds3, .bool ss4, .slice As4 ns4 cs4, .bool zs4, .slice Bs4 ms4 ds4] 28)
      replace os1 := os1.next hbx
      replace os2 := os2.next hbx
      replace os3 := os3.next hbx
      replace os4 := os4.next hbx
      replace oe := (oe.next hb).next hbx
      replace of := (of.next hb).next hbx
      replace og := (og.next hb).next hbx
      replace oh := (oh.next hb).next hbx
      replace ou := (ou.next hb).next hbx
      replace ov := (ov.next hb).next hbx
      replace op1 := (op1.next hb).next hbx
      replace op2 := (op2.next hb).next hbx
      replace or1 := (or1.next hb).next hbx
      replace or2 := (or2.next hb).next hbx
      replace ot1 := (ot1.next hb).next hbx
      replace ot2 := (ot2.next hb).next hbx
      replace oc1 := (oc1.next hb).next hbx
      replace oc2 := (oc2.next hb).next hbx
      clear K8 hb hbx rgn
      go_upto_region 10 with (fail)
      generalize v9.heap.size = g19 at K9 ⊢
      generalize v9.alloc (.cells #[.bool ss1, .slice As1 ns1 cs1, .bool zs1, .slice Bs1 ms1 ds1, .bool ss2, .slice As2 ns2 cs2, .bool zs2, .slice Bs2 ms2 ds2, .bool ss3, .slice As3 ns3 cs3, .bool zs3, .slice Bs3 ms3 ds3, .bool ss4, .slice As4 ns4 cs4, .bool zs4, .slice Bs4 ms4 ds4] 28) = u9 at K9 oe of og oh ou ov op1 op2 or1 or2 ot1 ot2 oc1 oc2 os1 os2 os3 os4 ⊢
      clear oe of og oh
      replace K9 := K9.pick (L' := [(g19, [.bool ss1, .slice As1 ns1 cs1, .bool zs1, .slice Bs1 ms1 ds1, .bool ss2, .slice As2 ns2 cs2, .bool zs2, .slice Bs2 ms2 ds2, .bool ss3, .slice As3 ns3 cs3, .bool zs3, .slice Bs3 ms3 ds3, .bool ss4, .slice As4 ns4 cs4, .bool zs4, .slice Bs4 ms4 ds4]), (g17, [.bool sc1, .slice Ac1 nc1 cc1, .bool zc1, .slice Bc1 mc1 dc1, .bool sc2, .slice Ac2 nc2 cc2, .bool zc2, .slice Bc2 mc2 dc2]), (g13, [.bool st1, .slice At1 nt1 ct1, .bool zt1, .slice Bt1 mt1 dt1, .bool st2, .slice At2 nt2 ct2, .bool zt2, .slice Bt2 mt2 dt2]), (g9, [.bool sr1, .slice Ar1 nr1 cr1, .bool zr1, .slice Br1 mr1 dr1, .bool sr2, .slice Ar2 nr2 cr2, .bool zr2, .slice Br2 mr2 dr2]), (g7, [.bool sp1, .slice Ap1 np1 cp1, .bool zp1, .slice Bp1 mp1 dp1, .bool sp2, .slice Ap2 np2 cp2, .bool zp2, .slice Bp2 mp2 dp2]), (w.heap.size + 1 + 1, [.bool su, .slice Au nu cu, .bool zu, .slice Bu mu du, .bool sv, .slice Av nv cv, .bool zv, .slice Bv mv dv])]) (l' := []) (all_cons (List.mem_of_getElem? (i := 0) rfl) (all_cons (List.mem_of_getElem? (i := 1) rfl) (all_cons (List.mem_of_getElem? (i := 2) rfl) (all_cons (List.mem_of_getElem? (i := 3) rfl) (all_cons (List.mem_of_getElem? (i := 4) rfl) (all_cons (List.mem_of_getElem? (i := 5) rfl) all_nil)))))) all_nil
      obtain ⟨m0, m1, m2, m3, m4, m5, m6, m7, m8, m9, m10, m11, m12, m13, m14, m15⟩ := (K9.blk (g := g19) (vs := [.bool ss1, .slice As1 ns1 cs1, .bool zs1, .slice Bs1 ms1 ds1, .bool ss2, .slice As2 ns2 cs2, .bool zs2, .slice Bs2 ms2 ds2, .bool ss3, .slice As3 ns3 cs3, .bool zs3, .slice Bs3 ms3 ds3, .bool ss4, .slice As4 ns4 cs4, .bool zs4, .slice Bs4 ms4 ds4]) (by simp)).c16
      obtain ⟨q0, q1, q2, q3, q4, q5, q6, q7⟩ := (K9.blk (g := g7) (vs := [.bool sp1, .slice Ap1 np1 cp1, .bool zp1, .slice Bp1 mp1 dp1, .bool sp2, .slice Ap2 np2 cp2, .bool zp2, .slice Bp2 mp2 dp2]) (by simp)).c8
      have Ou := Lib.hid ou
      have Ov := Lib.hid ov
      have Op1 := Lib.hid op1
      have Op2 := Lib.hid op2
      have Or1 := Lib.hid or1
      have Or2 := Lib.hid or2
      have Ot1 := Lib.hid ot1
      have Ot2 := Lib.hid ot2
      have Oc1 := Lib.hid oc1
      have Oc2 := Lib.hid oc2
      have Os1 := Lib.hid os1
      have Os2 := Lib.hid os2
      have Os3 := Lib.hid os3
      have Os4 := Lib.hid os4
      clear ou ov op1 op2 or1 or2 ot1 ot2 oc1 oc2 os1 os2 os3 os4
      have KX0 := Mm.nil u9
      have bb_g19 : g19 < u9.heap.size := (K9.blk (g := g19) (vs := [.bool ss1, .slice As1 ns1 cs1, .bool zs1, .slice Bs1 ms1 ds1, .bool ss2, .slice As2 ns2 cs2, .bool zs2, .slice Bs2 ms2 ds2, .bool ss3, .slice As3 ns3 cs3, .bool zs3, .slice Bs3 ms3 ds3, .bool ss4, .slice As4 ns4 cs4, .bool zs4, .slice Bs4 ms4 ds4]) (by simp)).1
      have bb_g17 : g17 < u9.heap.size := (K9.blk (g := g17) (vs := [.bool sc1, .slice Ac1 nc1 cc1, .bool zc1, .slice Bc1 mc1 dc1, .bool sc2, .slice Ac2 nc2 cc2, .bool zc2, .slice Bc2 mc2 dc2]) (by simp)).1
      have bb_g13 : g13 < u9.heap.size := (K9.blk (g := g13) (vs := [.bool st1, .slice At1 nt1 ct1, .bool zt1, .slice Bt1 mt1 dt1, .bool st2, .slice At2 nt2 ct2, .bool zt2, .slice Bt2 mt2 dt2]) (by simp)).1
      have bb_g9 : g9 < u9.heap.size := (K9.blk (g := g9) (vs := [.bool sr1, .slice Ar1 nr1 cr1, .bool zr1, .slice Br1 mr1 dr1, .bool sr2, .slice Ar2 nr2 cr2, .bool zr2, .slice Br2 mr2 dr2]) (by simp)).1
      have bb_g7 : g7 < u9.heap.size := (K9.blk (g := g7) (vs := [.bool sp1, .slice Ap1 np1 cp1, .bool zp1, .slice Bp1 mp1 dp1, .bool sp2, .slice Ap2 np2 cp2, .bool zp2, .slice Bp2 mp2 dp2]) (by simp)).1
      have bb_Wqq : w.heap.size + 1 + 1 < u9.heap.size := (K9.blk (g := w.heap.size + 1 + 1) (vs := [.bool su, .slice Au nu cu, .bool zu, .slice Bu mu du, .bool sv, .slice Av nv cv, .bool zv, .slice Bv mv dv]) (by simp)).1
      go_cut [21, 22] from 74 to 81 (fun s21 s22 wx => ∃ (g21 : Nat) (sd1 : Bool) (Ad1 : Option Addr) (nd1 cd1 : Nat) (zd1 : Bool) (Bd1 : Option Addr) (md1 dd1 : Nat) (sd2 : Bool) (Ad2 : Option Addr) (nd2 cd2 : Nat) (zd2 : Bool) (Bd2 : Option Addr) (md2 dd2 : Nat), s21 = .pointer (some ⟨g21, 0, none⟩) ∧ s22 = .int .i64 0 ∧ u9.heap.size ≤ g21 ∧
        Mm u9 [(g21, [.bool sd1, .slice Ad1 nd1 cd1, .bool zd1, .slice Bd1 md1 dd1, .bool sd2, .slice Ad2 nd2 cd2, .bool zd2, .slice Bd2 md2 dd2])] [(sd1, Ad1, nd1, cd1, (-xu).num), (zd1, Bd1, md1, dd1, ((-xu).den : Int)), (sd2, Ad2, nd2, cd2, xv.num), (zd2, Bd2, md2, dd2, (xv.den : Int))] wx)
      case first =>
        go_region_held3 (fun w' => w'.cell? ⟨g19, 0, none⟩ = some (.bool ss1) ∧ w'.cell? ⟨g19, 1, none⟩ = some (.slice As1 ns1 cs1) ∧ w'.cell? ⟨g19, 2, none⟩ = some (.bool zs1) ∧ w'.cell? ⟨g19, 3, none⟩ = some (.slice Bs1 ms1 ds1) ∧ w'.cell? ⟨g19, 4, none⟩ = some (.bool ss2) ∧ w'.cell? ⟨g19, 5, none⟩ = some (.slice As2 ns2 cs2) ∧ w'.cell? ⟨g19, 6, none⟩ = some (.bool zs2) ∧ w'.cell? ⟨g19, 7, none⟩ = some (.slice Bs2 ms2 ds2) ∧ w'.cell? ⟨g19, 8, none⟩ = some (.bool ss3) ∧ w'.cell? ⟨g19, 9, none⟩ = some (.slice As3 ns3 cs3) ∧ w'.cell? ⟨g19, 10, none⟩ = some (.bool zs3) ∧ w'.cell? ⟨g19, 11, none⟩ = some (.slice Bs3 ms3 ds3) ∧ w'.cell? ⟨g19, 12, none⟩ = some (.bool ss4) ∧ w'.cell? ⟨g19, 13, none⟩ = some (.slice As4 ns4 cs4) ∧ w'.cell? ⟨g19, 14, none⟩ = some (.bool zs4) ∧ w'.cell? ⟨g19, 15, none⟩ = some (.slice Bs4 ms4 ds4) ∧ w'.cell? ⟨g7, 0, none⟩ = some (.bool sp1) ∧ w'.cell? ⟨g7, 1, none⟩ = some (.slice Ap1 np1 cp1) ∧ w'.cell? ⟨g7, 2, none⟩ = some (.bool zp1) ∧ w'.cell? ⟨g7, 3, none⟩ = some (.slice Bp1 mp1 dp1) ∧ w'.cell? ⟨g7, 4, none⟩ = some (.bool sp2) ∧ w'.cell? ⟨g7, 5, none⟩ = some (.slice Ap2 np2 cp2) ∧ w'.cell? ⟨g7, 6, none⟩ = some (.bool zp2) ∧ w'.cell? ⟨g7, 7, none⟩ = some (.slice Bp2 mp2 dp2))
          (go_keep)
          (first
            | (go_at_call 7; apply Calls.withMm (w0 := u9); (case K => (repeat (first | (with_reducible exact Kz1) | (with_reducible apply Mm.drewN) | (with_reducible apply Mm.drew) | (with_reducible apply Mm.varz)))); intro KX; (try simp only [hszA] at KX); obtain ⟨ly19, ky19, oy1⟩ := okF_of (r := (-P1)) (KX.at_ (neg := sy1) (A := Ay1) (n := ny1) (c := cy1) (z := ((-P1) : Rat).num) (by repeat (first | exact List.mem_cons_self | apply List.mem_cons_of_mem))) (KX.at_ (neg := zy1) (A := By1) (n := my1) (c := dy1) (z := ((((-P1) : Rat).den : Nat) : Int)) (by repeat (first | exact List.mem_cons_self | apply List.mem_cons_of_mem))) ((sz_opp2 X1.out.1).mono (by decide)); obtain ⟨ly29, ky29, oy2⟩ := okF_of (r := P2) (KX.at_ (neg := sy2) (A := Ay2) (n := ny2) (c := cy2) (z := (P2 : Rat).num) (by repeat (first | exact List.mem_cons_self | apply List.mem_cons_of_mem))) (KX.at_ (neg := zy2) (A := By2) (n := my2) (c := dy2) (z := (((P2 : Rat).den : Nat) : Int)) (by repeat (first | exact List.mem_cons_self | apply List.mem_cons_of_mem))) (X1.out.2.mono (by decide)); (refine (beam_through_eq ss1 As1 ns1 cs1 ls1 zs1 Bs1 ms1 ds1 ks1 xh ss2 As2 ns2 cs2 ls2 zs2 Bs2 ms2 ds2 ks2 xf ss3 As3 ns3 cs3 ls3 zs3 Bs3 ms3 ds3 ks3 xg ss4 As4 ns4 cs4 ls4 zs4 Bs4 ms4 ds4 ks4 xe sy1 Ay1 ny1 cy1 ly19 zy1 By1 my1 dy1 ky19 (-P1) sy2 Ay2 ny2 cy2 ly29 zy2 By2 my2 dy2 ky29 P2 (-xu) xv _ (Os1.out.next KX.1) (GN.out.szs.2.2.2.mono (by decide)) (Os2.out.next KX.1) (GN.out.szs.2.1.mono (by decide)) (Os3.out.next KX.1) (GN.out.szs.2.2.1.mono (by decide)) (Os4.out.next KX.1) (GN.out.szs.1.mono (by decide)) oy1 ((sz_opp2 X1.out.1).mono (by decide)) oy2 (X1.out.2.mono (by decide)) X9.out X2.out (Lib.hid X10.out.1) (Lib.hid X10.out.2) ((sz_opp2 GQ.out.szs.1).mono (by decide)) (GQ.out.szs.2.mono (by decide))).mono ?_); rintro ez2 wz2 ⟨sd1, Ad1, nd1, cd1, ld1, zd1, Bd1, md1, dd1, kd1, sd2, Ad2, nd2, cd2, ld2, zd2, Bd2, md2, dd2, kd2, rfl, od1, od2, hbz2⟩; have hsz2 := hbz2.size; have hs3 := KX.1.size; have Kz2 := (((((KX.next hbz2).int od1.ints.1).int od1.ints.2.1).int od2.ints.1).int od2.ints.2.1); clear KX oy1 oy2 od1 od2 hbz2; have hzz2 : u9.heap.size ≤ wz2.heap.size := Kz2.1.size; obtain ⟨m2_0, m2_1, m2_2, m2_3, m2_4, m2_5, m2_6, m2_7, m2_8, m2_9, m2_10, m2_11, m2_12, m2_13, m2_14, m2_15⟩ := ((K9.next Kz2.1).blk (g := g19) (vs := [.bool ss1, .slice As1 ns1 cs1, .bool zs1, .slice Bs1 ms1 ds1, .bool ss2, .slice As2 ns2 cs2, .bool zs2, .slice Bs2 ms2 ds2, .bool ss3, .slice As3 ns3 cs3, .bool zs3, .slice Bs3 ms3 ds3, .bool ss4, .slice As4 ns4 cs4, .bool zs4, .slice Bs4 ms4 ds4]) (by simp)).c16; obtain ⟨q2_0, q2_1, q2_2, q2_3, q2_4, q2_5, q2_6, q2_7⟩ := ((K9.next Kz2.1).blk (g := g7) (vs := [.bool sp1, .slice Ap1 np1 cp1, .bool zp1, .slice Bp1 mp1 dp1, .bool sp2, .slice Ap2 np2 cp2, .bool zp2, .slice Bp2 mp2 dp2]) (by simp)).c8; (try (have V0_2 := Kz2.blk (g := u9.heap.size) (vs := [.bool false, .slice none 0 0, .bool false, .slice none 0 0, .bool false, .slice none 0 0, .bool false, .slice none 0 0]) (by with_reducible (first | exact List.mem_cons_self | exact List.mem_cons_of_mem _ List.mem_cons_self)); obtain ⟨va0_2_0, va0_2_1, va0_2_2, va0_2_3, va0_2_4, va0_2_5, va0_2_6, va0_2_7⟩ := V0_2.c8; obtain ⟨vf0_2_0, vf0_2_1, vf0_2_2, vf0_2_3, vf0_2_4, vf0_2_5, vf0_2_6, vf0_2_7, _⟩ := V0_2.f8; have fa0_2 : ¬ g19 = u9.heap.size := (by omega); have fb0_2 : ¬ u9.heap.size = g19 := (by omega); have fc0_2 : ¬ g7 = u9.heap.size := (by omega); have fd0_2 : ¬ u9.heap.size = g7 := (by omega); skip)); (try (have V1_2 := Kz2.blk (g := wz1.heap.size) (vs := [.bool false, .slice none 0 0, .bool false, .slice none 0 0, .bool false, .slice none 0 0, .bool false, .slice none 0 0]) (by with_reducible (first | exact List.mem_cons_self | exact List.mem_cons_of_mem _ List.mem_cons_self)); obtain ⟨va1_2_0, va1_2_1, va1_2_2, va1_2_3, va1_2_4, va1_2_5, va1_2_6, va1_2_7⟩ := V1_2.c8; obtain ⟨vf1_2_0, vf1_2_1, vf1_2_2, vf1_2_3, vf1_2_4, vf1_2_5, vf1_2_6, vf1_2_7, _⟩ := V1_2.f8; have fa1_2 : ¬ g19 = wz1.heap.size := (by omega); have fb1_2 : ¬ wz1.heap.size = g19 := (by omega); have fc1_2 : ¬ g7 = wz1.heap.size := (by omega); have fd1_2 : ¬ wz1.heap.size = g7 := (by omega); skip)); skip)
            | (go_at_call 11; apply Calls.withMm (w0 := u9); (case K => (repeat (first | (with_reducible exact KX0) | (with_reducible apply Mm.drewN) | (with_reducible apply Mm.drew) | (with_reducible apply Mm.varz)))); intro KX; (try simp only [hszA] at KX); (refine (turned15_ok sp1 Ap1 np1 cp1 lp1 zp1 Bp1 mp1 dp1 kp1 P1 sp2 Ap2 np2 cp2 lp2 zp2 Bp2 mp2 dp2 kp2 P2 _ (Op1.out.next KX.1) (Op2.out.next KX.1)).mono ?_); rintro ez1 wz1 ⟨sy1, Ay1, ny1, cy1, ly1, zy1, By1, my1, dy1, ky1, sy2, Ay2, ny2, cy2, ly2, zy2, By2, my2, dy2, ky2, rfl, oy1, oy2, hbz1⟩; have hsz1 := hbz1.size; have hs0 := KX.1.size; have Kz1 := (((((KX.next hbz1).int oy1.ints.1).int oy1.ints.2.1).int oy2.ints.1).int oy2.ints.2.1); clear KX oy1 oy2 hbz1; have hzz1 : u9.heap.size ≤ wz1.heap.size := Kz1.1.size; obtain ⟨m1_0, m1_1, m1_2, m1_3, m1_4, m1_5, m1_6, m1_7, m1_8, m1_9, m1_10, m1_11, m1_12, m1_13, m1_14, m1_15⟩ := ((K9.next Kz1.1).blk (g := g19) (vs := [.bool ss1, .slice As1 ns1 cs1, .bool zs1, .slice Bs1 ms1 ds1, .bool ss2, .slice As2 ns2 cs2, .bool zs2, .slice Bs2 ms2 ds2, .bool ss3, .slice As3 ns3 cs3, .bool zs3, .slice Bs3 ms3 ds3, .bool ss4, .slice As4 ns4 cs4, .bool zs4, .slice Bs4 ms4 ds4]) (by simp)).c16; obtain ⟨q1_0, q1_1, q1_2, q1_3, q1_4, q1_5, q1_6, q1_7⟩ := ((K9.next Kz1.1).blk (g := g7) (vs := [.bool sp1, .slice Ap1 np1 cp1, .bool zp1, .slice Bp1 mp1 dp1, .bool sp2, .slice Ap2 np2 cp2, .bool zp2, .slice Bp2 mp2 dp2]) (by simp)).c8; (try (have V0_1 := Kz1.blk (g := u9.heap.size) (vs := [.bool false, .slice none 0 0, .bool false, .slice none 0 0, .bool false, .slice none 0 0, .bool false, .slice none 0 0]) (by with_reducible (first | exact List.mem_cons_self | exact List.mem_cons_of_mem _ List.mem_cons_self)); obtain ⟨va0_1_0, va0_1_1, va0_1_2, va0_1_3, va0_1_4, va0_1_5, va0_1_6, va0_1_7⟩ := V0_1.c8; obtain ⟨vf0_1_0, vf0_1_1, vf0_1_2, vf0_1_3, vf0_1_4, vf0_1_5, vf0_1_6, vf0_1_7, _⟩ := V0_1.f8; have fa0_1 : ¬ g19 = u9.heap.size := (by omega); have fb0_1 : ¬ u9.heap.size = g19 := (by omega); have fc0_1 : ¬ g7 = u9.heap.size := (by omega); have fd0_1 : ¬ u9.heap.size = g7 := (by omega); skip)); skip)
            | fail)
        all_goals (go_wp2_with fail)
        all_goals go_meet
        all_goals (first
          | with_reducible exact ⟨wz2.heap.size, sd1, Ad1, nd1, cd1, zd1, Bd1, md1, dd1, sd2, Ad2, nd2, cd2, zd2, Bd2, md2, dd2, rfl, rfl, hzz2, (Kz2.var (g := wz2.heap.size) rfl [.bool sd1, .slice Ad1 nd1 cd1, .bool zd1, .slice Bd1 md1 dd1, .bool sd2, .slice Ad2 nd2 cd2, .bool zd2, .slice Bd2 md2 dd2] 30).pick (L' := [(wz2.heap.size, [.bool sd1, .slice Ad1 nd1 cd1, .bool zd1, .slice Bd1 md1 dd1, .bool sd2, .slice Ad2 nd2 cd2, .bool zd2, .slice Bd2 md2 dd2])]) (l' := [(sd1, Ad1, nd1, cd1, (-xu).num), (zd1, Bd1, md1, dd1, ((-xu).den : Int)), (sd2, Ad2, nd2, cd2, xv.num), (zd2, Bd2, md2, dd2, (xv.den : Int))]) (all_cons (List.mem_of_getElem? (i := 0) rfl) all_nil) (all_cons (List.mem_of_getElem? (i := 3) rfl) (all_cons (List.mem_of_getElem? (i := 2) rfl) (all_cons (List.mem_of_getElem? (i := 1) rfl) (all_cons (List.mem_of_getElem? (i := 0) rfl) all_nil))))⟩
          | with_reducible exact ⟨wz1.heap.size, sd1, Ad1, nd1, cd1, zd1, Bd1, md1, dd1, sd2, Ad2, nd2, cd2, zd2, Bd2, md2, dd2, rfl, rfl, hzz1, (Kz2.pick (L' := [(wz1.heap.size, [.bool false, .slice none 0 0, .bool false, .slice none 0 0, .bool false, .slice none 0 0, .bool false, .slice none 0 0])]) (l' := [(sd1, Ad1, nd1, cd1, (-xu).num), (zd1, Bd1, md1, dd1, ((-xu).den : Int)), (sd2, Ad2, nd2, cd2, xv.num), (zd2, Bd2, md2, dd2, (xv.den : Int))]) (all_cons (List.mem_of_getElem? (i := 0) rfl) all_nil) (all_cons (List.mem_of_getElem? (i := 3) rfl) (all_cons (List.mem_of_getElem? (i := 2) rfl) (all_cons (List.mem_of_getElem? (i := 1) rfl) (all_cons (List.mem_of_getElem? (i := 0) rfl) all_nil))))).set8 all_nil sd1 Ad1 nd1 cd1 zd1 Bd1 md1 dd1 sd2 Ad2 nd2 cd2 zd2 Bd2 md2 dd2⟩
          | with_reducible exact ⟨u9.heap.size, sd1, Ad1, nd1, cd1, zd1, Bd1, md1, dd1, sd2, Ad2, nd2, cd2, zd2, Bd2, md2, dd2, rfl, rfl, (Nat.le_refl _), (Kz2.pick (L' := [(u9.heap.size, [.bool false, .slice none 0 0, .bool false, .slice none 0 0, .bool false, .slice none 0 0, .bool false, .slice none 0 0])]) (l' := [(sd1, Ad1, nd1, cd1, (-xu).num), (zd1, Bd1, md1, dd1, ((-xu).den : Int)), (sd2, Ad2, nd2, cd2, xv.num), (zd2, Bd2, md2, dd2, (xv.den : Int))]) (all_cons (List.mem_of_getElem? (i := 0) rfl) all_nil) (all_cons (List.mem_of_getElem? (i := 3) rfl) (all_cons (List.mem_of_getElem? (i := 2) rfl) (all_cons (List.mem_of_getElem? (i := 1) rfl) (all_cons (List.mem_of_getElem? (i := 0) rfl) all_nil))))).set8 all_nil sd1 Ad1 nd1 cd1 zd1 Bd1 md1 dd1 sd2 Ad2 nd2 cd2 zd2 Bd2 md2 dd2⟩
          | fail)
      case rest =>
        obtain ⟨g21, sd1, Ad1, nd1, cd1, zd1, Bd1, md1, dd1, sd2, Ad2, nd2, cd2, zd2, Bd2, md2, dd2, rfl, rfl, hg21, KC⟩ := hcut
        rename World => wc
        obtain ⟨ld1, kd1, od1⟩ := okF_of (r := (-xu)) (KC.at_ (neg := sd1) (A := Ad1) (n := nd1) (c := cd1) (z := ((-xu) : Rat).num) (by simp)) (KC.at_ (neg := zd1) (A := Bd1) (n := md1) (c := dd1) (z := ((((-xu) : Rat).den : Nat) : Int)) (by simp)) ((sz_opp2 GQ.out.szs.1).mono (by decide))
        obtain ⟨ld2, kd2, od2⟩ := okF_of (r := xv) (KC.at_ (neg := sd2) (A := Ad2) (n := nd2) (c := cd2) (z := (xv : Rat).num) (by simp)) (KC.at_ (neg := zd2) (A := Bd2) (n := md2) (c := dd2) (z := (((xv : Rat).den : Nat) : Int)) (by simp)) (GQ.out.szs.2.mono (by decide))
        have ou := Ou.out.next KC.1
        have ov := Ov.out.next KC.1
        have op1 := Op1.out.next KC.1
        have op2 := Op2.out.next KC.1
        have or1 := Or1.out.next KC.1
        have or2 := Or2.out.next KC.1
        have ot1 := Ot1.out.next KC.1
        have ot2 := Ot2.out.next KC.1
        have oc1 := Oc1.out.next KC.1
        have oc2 := Oc2.out.next KC.1
        have K99 : Mm w ((g21, [.bool sd1, .slice Ad1 nd1 cd1, .bool zd1, .slice Bd1 md1 dd1, .bool sd2, .slice Ad2 nd2 cd2, .bool zd2, .slice Bd2 md2 dd2]) :: [(g17, [.bool sc1, .slice Ac1 nc1 cc1, .bool zc1, .slice Bc1 mc1 dc1, .bool sc2, .slice Ac2 nc2 cc2, .bool zc2, .slice Bc2 mc2 dc2]), (g13, [.bool st1, .slice At1 nt1 ct1, .bool zt1, .slice Bt1 mt1 dt1, .bool st2, .slice At2 nt2 ct2, .bool zt2, .slice Bt2 mt2 dt2]), (g9, [.bool sr1, .slice Ar1 nr1 cr1, .bool zr1, .slice Br1 mr1 dr1, .bool sr2, .slice Ar2 nr2 cr2, .bool zr2, .slice Br2 mr2 dr2]), (g7, [.bool sp1, .slice Ap1 np1 cp1, .bool zp1, .slice Bp1 mp1 dp1, .bool sp2, .slice Ap2 np2 cp2, .bool zp2, .slice Bp2 mp2 dp2]), (w.heap.size + 1 + 1, [.bool su, .slice Au nu cu, .bool zu, .slice Bu mu du, .bool sv, .slice Av nv cv, .bool zv, .slice Bv mv dv])]) [] wc := Mm.cons (K9.next KC.1 |>.pick (L' := [(g17, [.bool sc1, .slice Ac1 nc1 cc1, .bool zc1, .slice Bc1 mc1 dc1, .bool sc2, .slice Ac2 nc2 cc2, .bool zc2, .slice Bc2 mc2 dc2]), (g13, [.bool st1, .slice At1 nt1 ct1, .bool zt1, .slice Bt1 mt1 dt1, .bool st2, .slice At2 nt2 ct2, .bool zt2, .slice Bt2 mt2 dt2]), (g9, [.bool sr1, .slice Ar1 nr1 cr1, .bool zr1, .slice Br1 mr1 dr1, .bool sr2, .slice Ar2 nr2 cr2, .bool zr2, .slice Br2 mr2 dr2]), (g7, [.bool sp1, .slice Ap1 np1 cp1, .bool zp1, .slice Bp1 mp1 dp1, .bool sp2, .slice Ap2 np2 cp2, .bool zp2, .slice Bp2 mp2 dp2]), (w.heap.size + 1 + 1, [.bool su, .slice Au nu cu, .bool zu, .slice Bu mu du, .bool sv, .slice Av nv cv, .bool zv, .slice Bv mv dv])]) (l' := []) (by simp) (by simp)) (by have := K9.1.size; omega) (KC.blk (by simp))
        clear K9 KC KX0 hg21 m0 m1 m2 m3 m4 m5 m6 m7 m8 m9 m10 m11 m12 m13 m14 m15 q0 q1 q2 q3 q4 q5 q6 q7 Ou Ov Op1 Op2 Or1 Or2 Ot1 Ot2 Oc1 Oc2 Os1 Os2 Os3 Os4 bb_g19 bb_g17 bb_g13 bb_g9 bb_g7 bb_Wqq
        go_upto_region 13 with (fail)
        as_aux_lemma =>
          obtain ⟨pz0, pz1, pz2, pz3, pz4, pz5, pz6, pz7⟩ := (K99.blk (g := g7) (vs := [.bool sp1, .slice Ap1 np1 cp1, .bool zp1, .slice Bp1 mp1 dp1, .bool sp2, .slice Ap2 np2 cp2, .bool zp2, .slice Bp2 mp2 dp2]) (by simp)).c8
          obtain ⟨rz0, rz1, rz2, rz3, rz4, rz5, rz6, rz7⟩ := (K99.blk (g := g9) (vs := [.bool sr1, .slice Ar1 nr1 cr1, .bool zr1, .slice Br1 mr1 dr1, .bool sr2, .slice Ar2 nr2 cr2, .bool zr2, .slice Br2 mr2 dr2]) (by simp)).c8
          obtain ⟨tz0, tz1, tz2, tz3, tz4, tz5, tz6, tz7⟩ := (K99.blk (g := g13) (vs := [.bool st1, .slice At1 nt1 ct1, .bool zt1, .slice Bt1 mt1 dt1, .bool st2, .slice At2 nt2 ct2, .bool zt2, .slice Bt2 mt2 dt2]) (by simp)).c8
          obtain ⟨cz0, cz1, cz2, cz3, cz4, cz5, cz6, cz7⟩ := (K99.blk (g := g17) (vs := [.bool sc1, .slice Ac1 nc1 cc1, .bool zc1, .slice Bc1 mc1 dc1, .bool sc2, .slice Ac2 nc2 cc2, .bool zc2, .slice Bc2 mc2 dc2]) (by simp)).c8
          obtain ⟨dz0, dz1, dz2, dz3, dz4, dz5, dz6, dz7⟩ := (K99.blk (g := g21) (vs := [.bool sd1, .slice Ad1 nd1 cd1, .bool zd1, .slice Bd1 md1 dd1, .bool sd2, .slice Ad2 nd2 cd2, .bool zd2, .slice Bd2 md2 dd2]) (by simp)).c8
          obtain ⟨qz0, qz1, qz2, qz3, qz4, qz5, qz6, qz7⟩ := (K99.blk (g := w.heap.size + 1 + 1) (vs := [.bool su, .slice Au nu cu, .bool zu, .slice Bu mu du, .bool sv, .slice Av nv cv, .bool zv, .slice Bv mv dv]) (by simp)).c8
          have Ou := Lib.hid ou
          have Ov := Lib.hid ov
          have Op1 := Lib.hid op1
          have Op2 := Lib.hid op2
          have Or1 := Lib.hid or1
          have Or2 := Lib.hid or2
          have Ot1 := Lib.hid ot1
          have Ot2 := Lib.hid ot2
          have Oc1 := Lib.hid oc1
          have Oc2 := Lib.hid oc2
          have Od1 := Lib.hid od1
          have Od2 := Lib.hid od2
          have HC := Lib.hid (chkBm_ok op1 op2 X2.out)
          clear ou ov op1 op2 or1 or2 ot1 ot2 oc1 oc2 od1 od2
          have KY0 := Mm.nil wc
          go_region_held3 (fun w' => w'.cell? ⟨g7, 0, none⟩ = some (.bool sp1) ∧ w'.cell? ⟨g7, 1, none⟩ = some (.slice Ap1 np1 cp1) ∧ w'.cell? ⟨g7, 2, none⟩ = some (.bool zp1) ∧ w'.cell? ⟨g7, 3, none⟩ = some (.slice Bp1 mp1 dp1) ∧ w'.cell? ⟨g7, 4, none⟩ = some (.bool sp2) ∧ w'.cell? ⟨g7, 5, none⟩ = some (.slice Ap2 np2 cp2) ∧ w'.cell? ⟨g7, 6, none⟩ = some (.bool zp2) ∧ w'.cell? ⟨g7, 7, none⟩ = some (.slice Bp2 mp2 dp2) ∧ w'.cell? ⟨g9, 0, none⟩ = some (.bool sr1) ∧ w'.cell? ⟨g9, 1, none⟩ = some (.slice Ar1 nr1 cr1) ∧ w'.cell? ⟨g9, 2, none⟩ = some (.bool zr1) ∧ w'.cell? ⟨g9, 3, none⟩ = some (.slice Br1 mr1 dr1) ∧ w'.cell? ⟨g9, 4, none⟩ = some (.bool sr2) ∧ w'.cell? ⟨g9, 5, none⟩ = some (.slice Ar2 nr2 cr2) ∧ w'.cell? ⟨g9, 6, none⟩ = some (.bool zr2) ∧ w'.cell? ⟨g9, 7, none⟩ = some (.slice Br2 mr2 dr2) ∧ w'.cell? ⟨g13, 0, none⟩ = some (.bool st1) ∧ w'.cell? ⟨g13, 1, none⟩ = some (.slice At1 nt1 ct1) ∧ w'.cell? ⟨g13, 2, none⟩ = some (.bool zt1) ∧ w'.cell? ⟨g13, 3, none⟩ = some (.slice Bt1 mt1 dt1) ∧ w'.cell? ⟨g13, 4, none⟩ = some (.bool st2) ∧ w'.cell? ⟨g13, 5, none⟩ = some (.slice At2 nt2 ct2) ∧ w'.cell? ⟨g13, 6, none⟩ = some (.bool zt2) ∧ w'.cell? ⟨g13, 7, none⟩ = some (.slice Bt2 mt2 dt2) ∧ w'.cell? ⟨g17, 0, none⟩ = some (.bool sc1) ∧ w'.cell? ⟨g17, 1, none⟩ = some (.slice Ac1 nc1 cc1) ∧ w'.cell? ⟨g17, 2, none⟩ = some (.bool zc1) ∧ w'.cell? ⟨g17, 3, none⟩ = some (.slice Bc1 mc1 dc1) ∧ w'.cell? ⟨g17, 4, none⟩ = some (.bool sc2) ∧ w'.cell? ⟨g17, 5, none⟩ = some (.slice Ac2 nc2 cc2) ∧ w'.cell? ⟨g17, 6, none⟩ = some (.bool zc2) ∧ w'.cell? ⟨g17, 7, none⟩ = some (.slice Bc2 mc2 dc2) ∧ w'.cell? ⟨g21, 0, none⟩ = some (.bool sd1) ∧ w'.cell? ⟨g21, 1, none⟩ = some (.slice Ad1 nd1 cd1) ∧ w'.cell? ⟨g21, 2, none⟩ = some (.bool zd1) ∧ w'.cell? ⟨g21, 3, none⟩ = some (.slice Bd1 md1 dd1) ∧ w'.cell? ⟨g21, 4, none⟩ = some (.bool sd2) ∧ w'.cell? ⟨g21, 5, none⟩ = some (.slice Ad2 nd2 cd2) ∧ w'.cell? ⟨g21, 6, none⟩ = some (.bool zd2) ∧ w'.cell? ⟨g21, 7, none⟩ = some (.slice Bd2 md2 dd2) ∧ w'.cell? ⟨w.heap.size + 1 + 1, 0, none⟩ = some (.bool su) ∧ w'.cell? ⟨w.heap.size + 1 + 1, 1, none⟩ = some (.slice Au nu cu) ∧ w'.cell? ⟨w.heap.size + 1 + 1, 2, none⟩ = some (.bool zu) ∧ w'.cell? ⟨w.heap.size + 1 + 1, 3, none⟩ = some (.slice Bu mu du) ∧ w'.cell? ⟨w.heap.size + 1 + 1, 4, none⟩ = some (.bool sv) ∧ w'.cell? ⟨w.heap.size + 1 + 1, 5, none⟩ = some (.slice Av nv cv) ∧ w'.cell? ⟨w.heap.size + 1 + 1, 6, none⟩ = some (.bool zv) ∧ w'.cell? ⟨w.heap.size + 1 + 1, 7, none⟩ = some (.slice Bv mv dv))
            (go_keep)
            (first
              | (go_at_call 6; apply Calls.withMm (w0 := wc); (case K => (repeat (first | (with_reducible exact K35) | (with_reducible apply Mm.drewN) | (with_reducible apply Mm.drew) | (with_reducible apply Mm.varz)))); intro KX; (refine (alive15 _).mono ?_); rintro e36 w36 ⟨rfl, hb⟩; have K36 := (KX.next hb); clear KX hb; obtain ⟨p36_0, p36_1, p36_2, p36_3, p36_4, p36_5, p36_6, p36_7⟩ := ((K99.next K36.1).blk (g := g7) (vs := [.bool sp1, .slice Ap1 np1 cp1, .bool zp1, .slice Bp1 mp1 dp1, .bool sp2, .slice Ap2 np2 cp2, .bool zp2, .slice Bp2 mp2 dp2]) (by simp)).c8; obtain ⟨r36_0, r36_1, r36_2, r36_3, r36_4, r36_5, r36_6, r36_7⟩ := ((K99.next K36.1).blk (g := g9) (vs := [.bool sr1, .slice Ar1 nr1 cr1, .bool zr1, .slice Br1 mr1 dr1, .bool sr2, .slice Ar2 nr2 cr2, .bool zr2, .slice Br2 mr2 dr2]) (by simp)).c8; obtain ⟨t36_0, t36_1, t36_2, t36_3, t36_4, t36_5, t36_6, t36_7⟩ := ((K99.next K36.1).blk (g := g13) (vs := [.bool st1, .slice At1 nt1 ct1, .bool zt1, .slice Bt1 mt1 dt1, .bool st2, .slice At2 nt2 ct2, .bool zt2, .slice Bt2 mt2 dt2]) (by simp)).c8; obtain ⟨c36_0, c36_1, c36_2, c36_3, c36_4, c36_5, c36_6, c36_7⟩ := ((K99.next K36.1).blk (g := g17) (vs := [.bool sc1, .slice Ac1 nc1 cc1, .bool zc1, .slice Bc1 mc1 dc1, .bool sc2, .slice Ac2 nc2 cc2, .bool zc2, .slice Bc2 mc2 dc2]) (by simp)).c8; obtain ⟨d36_0, d36_1, d36_2, d36_3, d36_4, d36_5, d36_6, d36_7⟩ := ((K99.next K36.1).blk (g := g21) (vs := [.bool sd1, .slice Ad1 nd1 cd1, .bool zd1, .slice Bd1 md1 dd1, .bool sd2, .slice Ad2 nd2 cd2, .bool zd2, .slice Bd2 md2 dd2]) (by simp)).c8; obtain ⟨q36_0, q36_1, q36_2, q36_3, q36_4, q36_5, q36_6, q36_7⟩ := ((K99.next K36.1).blk (g := w.heap.size + 1 + 1) (vs := [.bool su, .slice Au nu cu, .bool zu, .slice Bu mu du, .bool sv, .slice Av nv cv, .bool zv, .slice Bv mv dv]) (by simp)).c8; skip)
              | (go_at_call 13; apply Calls.withMm (w0 := wc); (case K => (repeat (first | (with_reducible exact K34) | (with_reducible apply Mm.drewN) | (with_reducible apply Mm.drew) | (with_reducible apply Mm.varz)))); intro KX; obtain ⟨ly19, ky19, oy1⟩ := okF_of (r := (-xu)) (KX.at_ (neg := sy1) (A := Ay1) (n := ny1) (c := cy1) (z := ((-xu) : Rat).num) (by repeat (first | exact List.mem_cons_self | apply List.mem_cons_of_mem))) (KX.at_ (neg := zy1) (A := By1) (n := my1) (c := dy1) (z := ((((-xu) : Rat).den : Nat) : Int)) (by repeat (first | exact List.mem_cons_self | apply List.mem_cons_of_mem))) ((sz_opp2 GQ.out.szs.1).mono (by decide)); obtain ⟨ly29, ky29, oy2⟩ := okF_of (r := xv) (KX.at_ (neg := sy2) (A := Ay2) (n := ny2) (c := cy2) (z := (xv : Rat).num) (by repeat (first | exact List.mem_cons_self | apply List.mem_cons_of_mem))) (KX.at_ (neg := zy2) (A := By2) (n := my2) (c := dy2) (z := (((xv : Rat).den : Nat) : Int)) (by repeat (first | exact List.mem_cons_self | apply List.mem_cons_of_mem))) (GQ.out.szs.2.mono (by decide)); (refine (same_gauss_ok sd1 Ad1 nd1 cd1 ld1 zd1 Bd1 md1 dd1 kd1 sd2 Ad2 nd2 cd2 ld2 zd2 Bd2 md2 dd2 kd2 sy1 Ay1 ny1 cy1 ly19 zy1 By1 my1 dy1 ky19 sy2 Ay2 ny2 cy2 ly29 zy2 By2 my2 dy2 ky29 (-xu) xv _ (Od1.out.next KX.1) (Od2.out.next KX.1) oy1 oy2).mono ?_); rintro e35 w35 ⟨rfl, hb⟩; clear oy1 oy2; have K35 := (KX.next hb); clear KX hb; obtain ⟨p35_0, p35_1, p35_2, p35_3, p35_4, p35_5, p35_6, p35_7⟩ := ((K99.next K35.1).blk (g := g7) (vs := [.bool sp1, .slice Ap1 np1 cp1, .bool zp1, .slice Bp1 mp1 dp1, .bool sp2, .slice Ap2 np2 cp2, .bool zp2, .slice Bp2 mp2 dp2]) (by simp)).c8; obtain ⟨r35_0, r35_1, r35_2, r35_3, r35_4, r35_5, r35_6, r35_7⟩ := ((K99.next K35.1).blk (g := g9) (vs := [.bool sr1, .slice Ar1 nr1 cr1, .bool zr1, .slice Br1 mr1 dr1, .bool sr2, .slice Ar2 nr2 cr2, .bool zr2, .slice Br2 mr2 dr2]) (by simp)).c8; obtain ⟨t35_0, t35_1, t35_2, t35_3, t35_4, t35_5, t35_6, t35_7⟩ := ((K99.next K35.1).blk (g := g13) (vs := [.bool st1, .slice At1 nt1 ct1, .bool zt1, .slice Bt1 mt1 dt1, .bool st2, .slice At2 nt2 ct2, .bool zt2, .slice Bt2 mt2 dt2]) (by simp)).c8; obtain ⟨c35_0, c35_1, c35_2, c35_3, c35_4, c35_5, c35_6, c35_7⟩ := ((K99.next K35.1).blk (g := g17) (vs := [.bool sc1, .slice Ac1 nc1 cc1, .bool zc1, .slice Bc1 mc1 dc1, .bool sc2, .slice Ac2 nc2 cc2, .bool zc2, .slice Bc2 mc2 dc2]) (by simp)).c8; obtain ⟨d35_0, d35_1, d35_2, d35_3, d35_4, d35_5, d35_6, d35_7⟩ := ((K99.next K35.1).blk (g := g21) (vs := [.bool sd1, .slice Ad1 nd1 cd1, .bool zd1, .slice Bd1 md1 dd1, .bool sd2, .slice Ad2 nd2 cd2, .bool zd2, .slice Bd2 md2 dd2]) (by simp)).c8; obtain ⟨q35_0, q35_1, q35_2, q35_3, q35_4, q35_5, q35_6, q35_7⟩ := ((K99.next K35.1).blk (g := w.heap.size + 1 + 1) (vs := [.bool su, .slice Au nu cu, .bool zu, .slice Bu mu du, .bool sv, .slice Av nv cv, .bool zv, .slice Bv mv dv]) (by simp)).c8; skip)
              | (go_at_call 11; apply Calls.withMm (w0 := wc); (case K => (repeat (first | (with_reducible exact K33) | (with_reducible apply Mm.drewN) | (with_reducible apply Mm.drew) | (with_reducible apply Mm.varz)))); intro KX; (refine (turned15_ok su Au nu cu lu zu Bu mu du ku xu sv Av nv cv lv zv Bv mv dv kv xv _ (Ou.out.next KX.1) (Ov.out.next KX.1)).mono ?_); rintro e34 w34 ⟨sy1, Ay1, ny1, cy1, ly1, zy1, By1, my1, dy1, ky1, sy2, Ay2, ny2, cy2, ly2, zy2, By2, my2, dy2, ky2, rfl, oy1, oy2, hb⟩; have K34 := (((((KX.next hb).int oy1.ints.1).int oy1.ints.2.1).int oy2.ints.1).int oy2.ints.2.1); clear KX hb oy1 oy2; obtain ⟨p34_0, p34_1, p34_2, p34_3, p34_4, p34_5, p34_6, p34_7⟩ := ((K99.next K34.1).blk (g := g7) (vs := [.bool sp1, .slice Ap1 np1 cp1, .bool zp1, .slice Bp1 mp1 dp1, .bool sp2, .slice Ap2 np2 cp2, .bool zp2, .slice Bp2 mp2 dp2]) (by simp)).c8; obtain ⟨r34_0, r34_1, r34_2, r34_3, r34_4, r34_5, r34_6, r34_7⟩ := ((K99.next K34.1).blk (g := g9) (vs := [.bool sr1, .slice Ar1 nr1 cr1, .bool zr1, .slice Br1 mr1 dr1, .bool sr2, .slice Ar2 nr2 cr2, .bool zr2, .slice Br2 mr2 dr2]) (by simp)).c8; obtain ⟨t34_0, t34_1, t34_2, t34_3, t34_4, t34_5, t34_6, t34_7⟩ := ((K99.next K34.1).blk (g := g13) (vs := [.bool st1, .slice At1 nt1 ct1, .bool zt1, .slice Bt1 mt1 dt1, .bool st2, .slice At2 nt2 ct2, .bool zt2, .slice Bt2 mt2 dt2]) (by simp)).c8; obtain ⟨c34_0, c34_1, c34_2, c34_3, c34_4, c34_5, c34_6, c34_7⟩ := ((K99.next K34.1).blk (g := g17) (vs := [.bool sc1, .slice Ac1 nc1 cc1, .bool zc1, .slice Bc1 mc1 dc1, .bool sc2, .slice Ac2 nc2 cc2, .bool zc2, .slice Bc2 mc2 dc2]) (by simp)).c8; obtain ⟨d34_0, d34_1, d34_2, d34_3, d34_4, d34_5, d34_6, d34_7⟩ := ((K99.next K34.1).blk (g := g21) (vs := [.bool sd1, .slice Ad1 nd1 cd1, .bool zd1, .slice Bd1 md1 dd1, .bool sd2, .slice Ad2 nd2 cd2, .bool zd2, .slice Bd2 md2 dd2]) (by simp)).c8; obtain ⟨q34_0, q34_1, q34_2, q34_3, q34_4, q34_5, q34_6, q34_7⟩ := ((K99.next K34.1).blk (g := w.heap.size + 1 + 1) (vs := [.bool su, .slice Au nu cu, .bool zu, .slice Bu mu du, .bool sv, .slice Av nv cv, .bool zv, .slice Bv mv dv]) (by simp)).c8; skip)
              | (go_at_call 13; apply Calls.withMm (w0 := wc); (case K => (repeat (first | (with_reducible exact K32) | (with_reducible apply Mm.drewN) | (with_reducible apply Mm.drew) | (with_reducible apply Mm.varz)))); intro KX; (refine (same_gauss_ok sc1 Ac1 nc1 cc1 lc1 zc1 Bc1 mc1 dc1 kc1 sc2 Ac2 nc2 cc2 lc2 zc2 Bc2 mc2 dc2 kc2 su Au nu cu lu zu Bu mu du ku sv Av nv cv lv zv Bv mv dv kv xu xv _ (Oc1.out.next KX.1) (Oc2.out.next KX.1) (Ou.out.next KX.1) (Ov.out.next KX.1)).mono ?_); rintro e33 w33 ⟨rfl, hb⟩; have K33 := (KX.next hb); clear KX hb; obtain ⟨p33_0, p33_1, p33_2, p33_3, p33_4, p33_5, p33_6, p33_7⟩ := ((K99.next K33.1).blk (g := g7) (vs := [.bool sp1, .slice Ap1 np1 cp1, .bool zp1, .slice Bp1 mp1 dp1, .bool sp2, .slice Ap2 np2 cp2, .bool zp2, .slice Bp2 mp2 dp2]) (by simp)).c8; obtain ⟨r33_0, r33_1, r33_2, r33_3, r33_4, r33_5, r33_6, r33_7⟩ := ((K99.next K33.1).blk (g := g9) (vs := [.bool sr1, .slice Ar1 nr1 cr1, .bool zr1, .slice Br1 mr1 dr1, .bool sr2, .slice Ar2 nr2 cr2, .bool zr2, .slice Br2 mr2 dr2]) (by simp)).c8; obtain ⟨t33_0, t33_1, t33_2, t33_3, t33_4, t33_5, t33_6, t33_7⟩ := ((K99.next K33.1).blk (g := g13) (vs := [.bool st1, .slice At1 nt1 ct1, .bool zt1, .slice Bt1 mt1 dt1, .bool st2, .slice At2 nt2 ct2, .bool zt2, .slice Bt2 mt2 dt2]) (by simp)).c8; obtain ⟨c33_0, c33_1, c33_2, c33_3, c33_4, c33_5, c33_6, c33_7⟩ := ((K99.next K33.1).blk (g := g17) (vs := [.bool sc1, .slice Ac1 nc1 cc1, .bool zc1, .slice Bc1 mc1 dc1, .bool sc2, .slice Ac2 nc2 cc2, .bool zc2, .slice Bc2 mc2 dc2]) (by simp)).c8; obtain ⟨d33_0, d33_1, d33_2, d33_3, d33_4, d33_5, d33_6, d33_7⟩ := ((K99.next K33.1).blk (g := g21) (vs := [.bool sd1, .slice Ad1 nd1 cd1, .bool zd1, .slice Bd1 md1 dd1, .bool sd2, .slice Ad2 nd2 cd2, .bool zd2, .slice Bd2 md2 dd2]) (by simp)).c8; obtain ⟨q33_0, q33_1, q33_2, q33_3, q33_4, q33_5, q33_6, q33_7⟩ := ((K99.next K33.1).blk (g := w.heap.size + 1 + 1) (vs := [.bool su, .slice Au nu cu, .bool zu, .slice Bu mu du, .bool sv, .slice Av nv cv, .bool zv, .slice Bv mv dv]) (by simp)).c8; skip)
              | (go_at_call 13; apply Calls.withMm (w0 := wc); (case K => (repeat (first | (with_reducible exact K31) | (with_reducible apply Mm.drewN) | (with_reducible apply Mm.drew) | (with_reducible apply Mm.varz)))); intro KX; (refine (same_gauss_ok sr1 Ar1 nr1 cr1 lr1 zr1 Br1 mr1 dr1 kr1 sr2 Ar2 nr2 cr2 lr2 zr2 Br2 mr2 dr2 kr2 st1 At1 nt1 ct1 lt1 zt1 Bt1 mt1 dt1 kt1 st2 At2 nt2 ct2 lt2 zt2 Bt2 mt2 dt2 kt2 R1 R2 _ (Or1.out.next KX.1) (Or2.out.next KX.1) (Ot1.out.next KX.1) (Ot2.out.next KX.1)).mono ?_); rintro e32 w32 ⟨rfl, hb⟩; have K32 := (KX.next hb); clear KX hb; obtain ⟨p32_0, p32_1, p32_2, p32_3, p32_4, p32_5, p32_6, p32_7⟩ := ((K99.next K32.1).blk (g := g7) (vs := [.bool sp1, .slice Ap1 np1 cp1, .bool zp1, .slice Bp1 mp1 dp1, .bool sp2, .slice Ap2 np2 cp2, .bool zp2, .slice Bp2 mp2 dp2]) (by simp)).c8; obtain ⟨r32_0, r32_1, r32_2, r32_3, r32_4, r32_5, r32_6, r32_7⟩ := ((K99.next K32.1).blk (g := g9) (vs := [.bool sr1, .slice Ar1 nr1 cr1, .bool zr1, .slice Br1 mr1 dr1, .bool sr2, .slice Ar2 nr2 cr2, .bool zr2, .slice Br2 mr2 dr2]) (by simp)).c8; obtain ⟨t32_0, t32_1, t32_2, t32_3, t32_4, t32_5, t32_6, t32_7⟩ := ((K99.next K32.1).blk (g := g13) (vs := [.bool st1, .slice At1 nt1 ct1, .bool zt1, .slice Bt1 mt1 dt1, .bool st2, .slice At2 nt2 ct2, .bool zt2, .slice Bt2 mt2 dt2]) (by simp)).c8; obtain ⟨c32_0, c32_1, c32_2, c32_3, c32_4, c32_5, c32_6, c32_7⟩ := ((K99.next K32.1).blk (g := g17) (vs := [.bool sc1, .slice Ac1 nc1 cc1, .bool zc1, .slice Bc1 mc1 dc1, .bool sc2, .slice Ac2 nc2 cc2, .bool zc2, .slice Bc2 mc2 dc2]) (by simp)).c8; obtain ⟨d32_0, d32_1, d32_2, d32_3, d32_4, d32_5, d32_6, d32_7⟩ := ((K99.next K32.1).blk (g := g21) (vs := [.bool sd1, .slice Ad1 nd1 cd1, .bool zd1, .slice Bd1 md1 dd1, .bool sd2, .slice Ad2 nd2 cd2, .bool zd2, .slice Bd2 md2 dd2]) (by simp)).c8; obtain ⟨q32_0, q32_1, q32_2, q32_3, q32_4, q32_5, q32_6, q32_7⟩ := ((K99.next K32.1).blk (g := w.heap.size + 1 + 1) (vs := [.bool su, .slice Au nu cu, .bool zu, .slice Bu mu du, .bool sv, .slice Av nv cv, .bool zv, .slice Bv mv dv]) (by simp)).c8; skip)
              | (go_at_call 12; apply Calls.withMm (w0 := wc); (case K => (repeat (first | (with_reducible exact KY0) | (with_reducible apply Mm.drewN) | (with_reducible apply Mm.drew) | (with_reducible apply Mm.varz)))); intro KX; (refine (beam_check_any sp1 Ap1 np1 cp1 lp1 zp1 Bp1 mp1 dp1 kp1 sp2 Ap2 np2 cp2 lp2 zp2 Bp2 mp2 dp2 kp2 _ (Op1.out.next KX.1).1 (Op2.out.next KX.1).1).mono ?_); rintro e31 w31 ⟨rfl, hb⟩; rw [HC.out]; have K31 := (KX.next hb); clear KX hb; obtain ⟨p31_0, p31_1, p31_2, p31_3, p31_4, p31_5, p31_6, p31_7⟩ := ((K99.next K31.1).blk (g := g7) (vs := [.bool sp1, .slice Ap1 np1 cp1, .bool zp1, .slice Bp1 mp1 dp1, .bool sp2, .slice Ap2 np2 cp2, .bool zp2, .slice Bp2 mp2 dp2]) (by simp)).c8; obtain ⟨r31_0, r31_1, r31_2, r31_3, r31_4, r31_5, r31_6, r31_7⟩ := ((K99.next K31.1).blk (g := g9) (vs := [.bool sr1, .slice Ar1 nr1 cr1, .bool zr1, .slice Br1 mr1 dr1, .bool sr2, .slice Ar2 nr2 cr2, .bool zr2, .slice Br2 mr2 dr2]) (by simp)).c8; obtain ⟨t31_0, t31_1, t31_2, t31_3, t31_4, t31_5, t31_6, t31_7⟩ := ((K99.next K31.1).blk (g := g13) (vs := [.bool st1, .slice At1 nt1 ct1, .bool zt1, .slice Bt1 mt1 dt1, .bool st2, .slice At2 nt2 ct2, .bool zt2, .slice Bt2 mt2 dt2]) (by simp)).c8; obtain ⟨c31_0, c31_1, c31_2, c31_3, c31_4, c31_5, c31_6, c31_7⟩ := ((K99.next K31.1).blk (g := g17) (vs := [.bool sc1, .slice Ac1 nc1 cc1, .bool zc1, .slice Bc1 mc1 dc1, .bool sc2, .slice Ac2 nc2 cc2, .bool zc2, .slice Bc2 mc2 dc2]) (by simp)).c8; obtain ⟨d31_0, d31_1, d31_2, d31_3, d31_4, d31_5, d31_6, d31_7⟩ := ((K99.next K31.1).blk (g := g21) (vs := [.bool sd1, .slice Ad1 nd1 cd1, .bool zd1, .slice Bd1 md1 dd1, .bool sd2, .slice Ad2 nd2 cd2, .bool zd2, .slice Bd2 md2 dd2]) (by simp)).c8; obtain ⟨q31_0, q31_1, q31_2, q31_3, q31_4, q31_5, q31_6, q31_7⟩ := ((K99.next K31.1).blk (g := w.heap.size + 1 + 1) (vs := [.bool su, .slice Au nu cu, .bool zu, .slice Bu mu du, .bool sv, .slice Av nv cv, .bool zv, .slice Bv mv dv]) (by simp)).c8; skip)
              | fail)
          all_goals
            go_wp2_with fail
            go_ret
            exact ⟨rfl, (K99.next K36.1).1⟩
end Go.Proofs.Ytdmdaoginojalaa
