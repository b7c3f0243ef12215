/-
  A matrix and a beam of a size that is looked at (polestarlaw15.may).
-/
import Derived.Test.YtdmdaoginojalaaBmH
namespace Go.Proofs.Ytdmdaoginojalaa
open Go.RowKit

/-- How long a fraction is. -/
def szF (f : LmE) : Nat := 2 + f.1.2.2.1 + f.2.2.2.1
/-- May these be a matrix and a beam of a size that is looked at? -/
noncomputable def mayB (a b c d u v : LmE) : Bool := decide (szF a + szF b + szF c + szF d ≤ 300) && decide (szF u + szF v ≤ 150) && okM a b c d && decide (chkBm u v = 0)
theorem mayB_yes {a b c d u v : LmE} (h : mayB a b c d u v = true) : szF a + szF b + szF c + szF d ≤ 300 ∧ szF u + szF v ≤ 150 ∧ okM a b c d = true ∧ chkBm u v = 0 := by
  unfold mayB at h
  simp only [Bool.and_eq_true, decide_eq_true_eq] at h
  exact ⟨h.1.1.1, h.1.1.2, h.1.2, h.2⟩

set_option maxRecDepth 100000 in
set_option maxHeartbeats 6400000 in
theorem may_any (sa : Bool) (Aa : Option Addr) (na ca : Nat) (la : List Nat) (za : Bool) (Ba : Option Addr) (ma da : Nat) (ka : List Nat) (sb : Bool) (Ab : Option Addr) (nb cb : Nat) (lb : List Nat) (zb : Bool) (Bb : Option Addr) (mb db : Nat) (kb : List Nat) (sc : Bool) (Ac : Option Addr) (nc cc : Nat) (lc : List Nat) (zc : Bool) (Bc : Option Addr) (mc dc : Nat) (kc : List Nat) (sd : Bool) (Ad : Option Addr) (nd cd : Nat) (ld : List Nat) (zd : Bool) (Bd : Option Addr) (md dd : Nat) (kd : List Nat) (su : Bool) (Au : Option Addr) (nu cu : Nat) (lu : List Nat) (zu : Bool) (Bu : Option Addr) (mu du : Nat) (ku : List Nat) (sv : Bool) (Av : Option Addr) (nv cv : Nat) (lv : List Nat) (zv : Bool) (Bv : Option Addr) (mv dv : Nat) (kv : List Nat) (w : World) (pa : Sl w Aa na ca la) (qa : Sl w Ba ma da ka) (ha : na ≤ 281474976710656) (ia : ma ≤ 281474976710656) (pb : Sl w Ab nb cb lb) (qb : Sl w Bb mb db kb) (hb : nb ≤ 281474976710656) (ib : mb ≤ 281474976710656) (pc : Sl w Ac nc cc lc) (qc : Sl w Bc mc dc kc) (hc : nc ≤ 281474976710656) (ic : mc ≤ 281474976710656) (pd : Sl w Ad nd cd ld) (qd : Sl w Bd md dd kd) (hd : nd ≤ 281474976710656) (id : md ≤ 281474976710656) (pu : Sl w Au nu cu lu) (qu : Sl w Bu mu du ku) (hu : nu ≤ 281474976710656) (iu : mu ≤ 281474976710656) (pv : Sl w Av nv cv lv) (qv : Sl w Bv mv dv kv) (hv : nv ≤ 281474976710656) (iv : mv ≤ 281474976710656) :
    Calls Try.prog 5 #[.agg #[.bool sa, .slice Aa na ca, .bool za, .slice Ba ma da, .bool sb, .slice Ab nb cb, .bool zb, .slice Bb mb db, .bool sc, .slice Ac nc cc, .bool zc, .slice Bc mc dc, .bool sd, .slice Ad nd cd, .bool zd, .slice Bd md dd], .agg #[.bool su, .slice Au nu cu, .bool zu, .slice Bu mu du, .bool sv, .slice Av nv cv, .bool zv, .slice Bv mv dv]] w (RetV w (.bool (mayB ((sa, Aa, na, ca, la), (za, Ba, ma, da, ka)) ((sb, Ab, nb, cb, lb), (zb, Bb, mb, db, kb)) ((sc, Ac, nc, cc, lc), (zc, Bc, mc, dc, kc)) ((sd, Ad, nd, cd, ld), (zd, Bd, md, dd, kd)) ((su, Au, nu, cu, lu), (zu, Bu, mu, du, ku)) ((sv, Av, nv, cv, lv), (zv, Bv, mv, dv, kv))))) := by
  have K0 := ((Mm.nil w).var (g := w.heap.size) rfl [.bool sa, .slice Aa na ca, .bool za, .slice Ba ma da, .bool sb, .slice Ab nb cb, .bool zb, .slice Bb mb db, .bool sc, .slice Ac nc cc, .bool zc, .slice Bc mc dc, .bool sd, .slice Ad nd cd, .bool zd, .slice Bd md dd] 28).var (g := w.heap.size + 1) (by simp) [.bool su, .slice Au nu cu, .bool zu, .slice Bu mu du, .bool sv, .slice Av nv cv, .bool zv, .slice Bv mv dv] 30
  replace pa := pa.below K0.1
  replace qa := qa.below K0.1
  replace pb := pb.below K0.1
  replace qb := qb.below K0.1
  replace pc := pc.below K0.1
  replace qc := qc.below K0.1
  replace pd := pd.below K0.1
  replace qd := qd.below K0.1
  replace pu := pu.below K0.1
  replace qu := qu.below K0.1
  replace pv := pv.below K0.1
  replace qv := qv.below K0.1
  obtain ⟨T, hT⟩ : ∃ T, (2 + na + ma) + (2 + nb + mb) + (2 + nc + mc) + (2 + nd + md) = T := ⟨_, rfl⟩
  obtain ⟨G, hG⟩ : ∃ G, (2 + nu + mu) + (2 + nv + mv) = G := ⟨_, rfl⟩
  obtain ⟨o, ho⟩ : ∃ o, okM ((sa, Aa, na, ca, la), (za, Ba, ma, da, ka)) ((sb, Ab, nb, cb, lb), (zb, Bb, mb, db, kb)) ((sc, Ac, nc, cc, lc), (zc, Bc, mc, dc, kc)) ((sd, Ad, nd, cd, ld), (zd, Bd, md, dd, kd)) = o := ⟨_, rfl⟩
  obtain ⟨v, hv⟩ : ∃ v, chkBm ((su, Au, nu, cu, lu), (zu, Bu, mu, du, ku)) ((sv, Av, nv, cv, lv), (zv, Bv, mv, dv, kv)) = v := ⟨_, rfl⟩
  have HB : Hid (mayB ((sa, Aa, na, ca, la), (za, Ba, ma, da, ka)) ((sb, Ab, nb, cb, lb), (zb, Bb, mb, db, kb)) ((sc, Ac, nc, cc, lc), (zc, Bc, mc, dc, kc)) ((sd, Ad, nd, cd, ld), (zd, Bd, md, dd, kd)) ((su, Au, nu, cu, lu), (zu, Bu, mu, du, ku)) ((sv, Av, nv, cv, lv), (zv, Bv, mv, dv, kv)) = (decide (T ≤ 300) && decide (G ≤ 150) && o && decide (v = 0))) := Lib.hid (by unfold mayB szF; rw [ho, hv, ← hT, ← hG])
  have HC : Hid (chkM ((sa, Aa, na, ca, la), (za, Ba, ma, da, ka)) ((sb, Ab, nb, cb, lb), (zb, Bb, mb, db, kb)) ((sc, Ac, nc, cc, lc), (zc, Bc, mc, dc, kc)) ((sd, Ad, nd, cd, ld), (zd, Bd, md, dd, kd)) = if o then 0 else 1) := Lib.hid (by unfold chkM; rw [ho])
  have HV := Lib.hid hv
  have HT := Lib.hid hT
  have HG := Lib.hid hG
  clear ho hv hT hG
  have Ha := Lib.hid ha
  have Ia := Lib.hid ia
  have Hb := Lib.hid hb
  have Ib := Lib.hid ib
  have Hc := Lib.hid hc
  have Ic := Lib.hid ic
  have Hd := Lib.hid hd
  have Id := Lib.hid id
  have Hu := Lib.hid hu
  have Iu := Lib.hid iu
  have Hv := Lib.hid hv
  have Iv := Lib.hid iv
  clear ha ia hb ib hc ic hd id hu iu hv iv
  go_enter Try.func5, Try.ntmps5
  go_upto_region 1 with (fail)
  generalize (w.alloc (.cells #[.bool sa, .slice Aa na ca, .bool za, .slice Ba ma da, .bool sb, .slice Ab nb cb, .bool zb, .slice Bb mb db, .bool sc, .slice Ac nc cc, .bool zc, .slice Bc mc dc, .bool sd, .slice Ad nd cd, .bool zd, .slice Bd md dd] 28)).alloc (.cells #[.bool su, .slice Au nu cu, .bool zu, .slice Bu mu du, .bool sv, .slice Av nv cv, .bool zv, .slice Bv mv dv] 30) = w0 at K0 pa qa pb qb pc qc pd qd pu qu pv qv ⊢
  obtain ⟨p0, p1, p2, p3, p4, p5, p6, p7, p8, p9, p10, p11, p12, p13, p14, p15⟩ := (K0.blk (g := w.heap.size) (vs := [.bool sa, .slice Aa na ca, .bool za, .slice Ba ma da, .bool sb, .slice Ab nb cb, .bool zb, .slice Bb mb db, .bool sc, .slice Ac nc cc, .bool zc, .slice Bc mc dc, .bool sd, .slice Ad nd cd, .bool zd, .slice Bd md dd]) (by simp)).c16
  go_wp2_with fail
  refine (matrix_size_any sa Aa na ca za Ba ma da sb Ab nb cb zb Bb mb db sc Ac nc cc zc Bc mc dc sd Ad nd cd zd Bd md dd _ Ha.out Ia.out Hb.out Ib.out Hc.out Ic.out Hd.out Id.out).mono ?_
  rintro e1 w1 ⟨rfl, hb⟩
  rw [HT.out]
  have K1 := K0.next hb
  replace pa := pa.below hb
  replace qa := qa.below hb
  replace pb := pb.below hb
  replace qb := qb.below hb
  replace pc := pc.below hb
  replace qc := qc.below hb
  replace pd := pd.below hb
  replace qd := qd.below hb
  replace pu := pu.below hb
  replace qu := qu.below hb
  replace pv := pv.below hb
  replace qv := qv.below hb
  clear K0 hb p0 p1 p2 p3 p4 p5 p6 p7 p8 p9 p10 p11 p12 p13 p14 p15
  by_cases y1 : T ≤ 300
  · have y1i : (T : Int) ≤ 300 := by omega
    have La : Hid (na ≤ 1000000000 ∧ ma ≤ 1000000000) := Lib.hid (by have := HT.out; omega)
    have Lb : Hid (nb ≤ 1000000000 ∧ mb ≤ 1000000000) := Lib.hid (by have := HT.out; omega)
    have Lc : Hid (nc ≤ 1000000000 ∧ mc ≤ 1000000000) := Lib.hid (by have := HT.out; omega)
    have Ld : Hid (nd ≤ 1000000000 ∧ md ≤ 1000000000) := Lib.hid (by have := HT.out; omega)
    obtain ⟨q0, q1, q2, q3, q4, q5, q6, q7⟩ := (K1.blk (g := w.heap.size + 1) (vs := [.bool su, .slice Au nu cu, .bool zu, .slice Bu mu du, .bool sv, .slice Av nv cv, .bool zv, .slice Bv mv dv]) (by simp)).c8
    go_wp2_with fail
    refine (gauss_size_any su Au nu cu zu Bu mu du sv Av nv cv zv Bv mv dv _ Hu.out Iu.out Hv.out Iv.out).mono ?_
    rintro e2 w2 ⟨rfl, hb⟩
    rw [HG.out]
    have K2 := K1.next hb
    replace pa := pa.below hb
    replace qa := qa.below hb
    replace pb := pb.below hb
    replace qb := qb.below hb
    replace pc := pc.below hb
    replace qc := qc.below hb
    replace pd := pd.below hb
    replace qd := qd.below hb
    replace pu := pu.below hb
    replace qu := qu.below hb
    replace pv := pv.below hb
    replace qv := qv.below hb
    clear K1 hb q0 q1 q2 q3 q4 q5 q6 q7
    by_cases y2 : G ≤ 150
    · have y2i : (G : Int) ≤ 150 := by omega
      have Lu : Hid (nu ≤ 1000000000 ∧ mu ≤ 1000000000) := Lib.hid (by have := HG.out; omega)
      have Lv : Hid (nv ≤ 1000000000 ∧ mv ≤ 1000000000) := Lib.hid (by have := HG.out; omega)
      obtain ⟨p0, p1, p2, p3, p4, p5, p6, p7, p8, p9, p10, p11, p12, p13, p14, p15⟩ := (K2.blk (g := w.heap.size) (vs := [.bool sa, .slice Aa na ca, .bool za, .slice Ba ma da, .bool sb, .slice Ab nb cb, .bool zb, .slice Bb mb db, .bool sc, .slice Ac nc cc, .bool zc, .slice Bc mc dc, .bool sd, .slice Ad nd cd, .bool zd, .slice Bd md dd]) (by simp)).c16
      go_wp2_with fail
      refine (ray_check_any sa Aa na ca la za Ba ma da ka sb Ab nb cb lb zb Bb mb db kb sc Ac nc cc lc zc Bc mc dc kc sd Ad nd cd ld zd Bd md dd kd _ ⟨pa, qa, La.out⟩ ⟨pb, qb, Lb.out⟩ ⟨pc, qc, Lc.out⟩ ⟨pd, qd, Ld.out⟩).mono ?_
      rintro e3 w3 ⟨rfl, hb⟩
      rw [HC.out]
      have K3 := K2.next hb
      replace pu := pu.below hb
      replace qu := qu.below hb
      replace pv := pv.below hb
      replace qv := qv.below hb
      clear K2 hb p0 p1 p2 p3 p4 p5 p6 p7 p8 p9 p10 p11 p12 p13 p14 p15 pa qa pb qb pc qc pd qd
      cases o with
      | false =>
        have HR : Hid (mayB ((sa, Aa, na, ca, la), (za, Ba, ma, da, ka)) ((sb, Ab, nb, cb, lb), (zb, Bb, mb, db, kb)) ((sc, Ac, nc, cc, lc), (zc, Bc, mc, dc, kc)) ((sd, Ad, nd, cd, ld), (zd, Bd, md, dd, kd)) ((su, Au, nu, cu, lu), (zu, Bu, mu, du, ku)) ((sv, Av, nv, cv, lv), (zv, Bv, mv, dv, kv)) = false) := Lib.hid (by rw [HB.out]; simp)
        simp only [Bool.false_eq_true, if_false]
        go_wp2_with fail
        go_ret
        exact ⟨by rw [HR.out]; rfl, K3.1⟩
      | true =>
        have HR : Hid (mayB ((sa, Aa, na, ca, la), (za, Ba, ma, da, ka)) ((sb, Ab, nb, cb, lb), (zb, Bb, mb, db, kb)) ((sc, Ac, nc, cc, lc), (zc, Bc, mc, dc, kc)) ((sd, Ad, nd, cd, ld), (zd, Bd, md, dd, kd)) ((su, Au, nu, cu, lu), (zu, Bu, mu, du, ku)) ((sv, Av, nv, cv, lv), (zv, Bv, mv, dv, kv)) = decide (v = 0)) := Lib.hid (by rw [HB.out, decide_eq_true y1, decide_eq_true y2]; rfl)
        simp only [if_true]
        obtain ⟨q0, q1, q2, q3, q4, q5, q6, q7⟩ := (K3.blk (g := w.heap.size + 1) (vs := [.bool su, .slice Au nu cu, .bool zu, .slice Bu mu du, .bool sv, .slice Av nv cv, .bool zv, .slice Bv mv dv]) (by simp)).c8
        go_wp2_with fail
        refine (beam_check_any su Au nu cu lu zu Bu mu du ku sv Av nv cv lv zv Bv mv dv kv _ ⟨pu, qu, Lu.out⟩ ⟨pv, qv, Lv.out⟩).mono ?_
        rintro e4 w4 ⟨rfl, hb⟩
        rw [HV.out]
        have K4 := K3.next hb
        clear K3 hb q0 q1 q2 q3 q4 q5 q6 q7 pu qu pv qv
        by_cases y3 : v = 0
        · have HQ : Hid (mayB ((sa, Aa, na, ca, la), (za, Ba, ma, da, ka)) ((sb, Ab, nb, cb, lb), (zb, Bb, mb, db, kb)) ((sc, Ac, nc, cc, lc), (zc, Bc, mc, dc, kc)) ((sd, Ad, nd, cd, ld), (zd, Bd, md, dd, kd)) ((su, Au, nu, cu, lu), (zu, Bu, mu, du, ku)) ((sv, Av, nv, cv, lv), (zv, Bv, mv, dv, kv)) = true) := Lib.hid (by rw [HR.out]; exact decide_eq_true y3)
          have y3b : (v == 0) = true := by rw [y3]; rfl
          go_wp2_with fail
          go_ret
          exact ⟨by rw [HQ.out]; rfl, K4.1⟩
        · have HQ : Hid (mayB ((sa, Aa, na, ca, la), (za, Ba, ma, da, ka)) ((sb, Ab, nb, cb, lb), (zb, Bb, mb, db, kb)) ((sc, Ac, nc, cc, lc), (zc, Bc, mc, dc, kc)) ((sd, Ad, nd, cd, ld), (zd, Bd, md, dd, kd)) ((su, Au, nu, cu, lu), (zu, Bu, mu, du, ku)) ((sv, Av, nv, cv, lv), (zv, Bv, mv, dv, kv)) = false) := Lib.hid (by rw [HR.out]; exact decide_eq_false y3)
          have y3b : (v == 0) = false := beq_eq_false_iff_ne.2 y3
          go_wp2_with fail
          go_ret
          exact ⟨by rw [HQ.out]; rfl, K4.1⟩
    · have y2i : ¬ (G : Int) ≤ 150 := by omega
      have HR : Hid (mayB ((sa, Aa, na, ca, la), (za, Ba, ma, da, ka)) ((sb, Ab, nb, cb, lb), (zb, Bb, mb, db, kb)) ((sc, Ac, nc, cc, lc), (zc, Bc, mc, dc, kc)) ((sd, Ad, nd, cd, ld), (zd, Bd, md, dd, kd)) ((su, Au, nu, cu, lu), (zu, Bu, mu, du, ku)) ((sv, Av, nv, cv, lv), (zv, Bv, mv, dv, kv)) = false) := Lib.hid (by rw [HB.out, decide_eq_false y2]; simp)
      go_wp2_with fail
      go_ret
      exact ⟨by rw [HR.out]; rfl, K2.1⟩
  · have y1i : ¬ (T : Int) ≤ 300 := by omega
    have HR : Hid (mayB ((sa, Aa, na, ca, la), (za, Ba, ma, da, ka)) ((sb, Ab, nb, cb, lb), (zb, Bb, mb, db, kb)) ((sc, Ac, nc, cc, lc), (zc, Bc, mc, dc, kc)) ((sd, Ad, nd, cd, ld), (zd, Bd, md, dd, kd)) ((su, Au, nu, cu, lu), (zu, Bu, mu, du, ku)) ((sv, Av, nv, cv, lv), (zv, Bv, mv, dv, kv)) = false) := Lib.hid (by rw [HB.out, decide_eq_false y1]; simp)
    go_wp2_with fail
    go_ret
    exact ⟨by rw [HR.out]; rfl, K1.1⟩
end Go.Proofs.Ytdmdaoginojalaa
