/-
  A space moves the waist, a lens takes its power from the curve (polestarlaw15.BeamSpaces): the walk.
-/
import Derived.Test.YtejlicacndpfpaaBmK
namespace Go.Proofs.Ytejlicacndpfpaa
open Go.RowKit

theorem OkF.store {w : World} {f : LmE} {r : Rat} (h : OkF w f r) {p : Addr} {u : Value} (v : Value) (hp : w.cell? p = some u) (hu : ∀ x, u ≠ .int .u32 x) : OkF (w.setCell p v) f r :=
  ⟨⟨h.1.1.store v hp hu, h.1.2.1.store v hp hu, h.1.2.2⟩, h.2⟩
/-- The world behind a fraction's store. -/
abbrev put4 (w : World) (g o : Nat) (s : Bool) (A : Option Addr) (n c : Nat) (z : Bool) (B : Option Addr) (m d : Nat) : World :=
  (((w.setCell ⟨g, o, none⟩ (.bool s)).setCell ⟨g, o + 1, none⟩ (.slice A n c)).setCell ⟨g, o + 2, none⟩ (.bool z)).setCell ⟨g, o + 3, none⟩ (.slice B m d)
theorem Mm.put4 {w wr : World} {L : List (Nat × List Value)} {l : List IntAt} {g : Nat} {vs : List Value} (h : Mm w ((g, vs) :: L) l wr) (hne : ∀ b ∈ L, g ≠ b.1) (o : Nat) {b0 b1 : Bool} {a0 a1 : Option Addr} {n0 c0 n1 c1 : Nat}
    (h0 : vs[o]? = some (.bool b0)) (h1 : vs[o + 1]? = some (.slice a0 n0 c0)) (h2 : vs[o + 2]? = some (.bool b1)) (h3 : vs[o + 3]? = some (.slice a1 n1 c1)) (s : Bool) (A : Option Addr) (n c : Nat) (z : Bool) (B : Option Addr) (m d : Nat) :
    Mm w ((g, (((vs.set o (.bool s)).set (o + 1) (.slice A n c)).set (o + 2) (.bool z)).set (o + 3) (.slice B m d)) :: L) l (put4 wr g o s A n c z B m d) ∧ ∀ f r, OkF wr f r → OkF (put4 wr g o s A n c z B m d) f r := by
  have k1 := h.set hne (.bool b0) (.bool s) h0 (by simp)
  have e1 : (vs.set o (.bool s))[o + 1]? = some (.slice a0 n0 c0) := by rw [List.getElem?_set_ne (by omega)]; exact h1
  have k2 := k1.set hne (.slice a0 n0 c0) (.slice A n c) e1 (by simp)
  have e2 : ((vs.set o (.bool s)).set (o + 1) (.slice A n c))[o + 2]? = some (.bool b1) := by rw [List.getElem?_set_ne (by omega), List.getElem?_set_ne (by omega)]; exact h2
  have k3 := k2.set hne (.bool b1) (.bool z) e2 (by simp)
  have e3 : (((vs.set o (.bool s)).set (o + 1) (.slice A n c)).set (o + 2) (.bool z))[o + 3]? = some (.slice a1 n1 c1) := by rw [List.getElem?_set_ne (by omega), List.getElem?_set_ne (by omega), List.getElem?_set_ne (by omega)]; exact h3
  have k4 := k3.set hne (.slice a1 n1 c1) (.slice B m d) e3 (by simp)
  refine ⟨k4, fun f r ho => ?_⟩
  have b1' := (h.blk (g := g) (vs := vs) List.mem_cons_self).2 o _ h0
  have b2' := (k1.blk List.mem_cons_self).2 (o + 1) _ e1
  have b3' := (k2.blk List.mem_cons_self).2 (o + 2) _ e2
  have b4' := (k3.blk List.mem_cons_self).2 (o + 3) _ e3
  exact (((ho.store _ b1'.1 (by simp)).store _ b2'.1 (by simp)).store _ b3'.1 (by simp)).store _ b4'.1 (by simp)
theorem chkBm_yes {a b : LmE} (h : chkBm a b = 0) : okB a = true ∧ okB b = true ∧ 0 < rv b := by
  unfold chkBm at h
  cases ha : okB a <;> cases hb : okB b <;> rw [ha, hb] at h
  · exact absurd h (by simp)
  · exact absurd h (by simp)
  · exact absurd h (by simp)
  · by_cases hp : 0 < rv b
    · exact ⟨rfl, rfl, hp⟩
    · rw [if_neg hp] at h; exact absurd h (by decide)

set_option maxRecDepth 100000 in
set_option maxHeartbeats 6400000 in
theorem law_spaces (su : Bool) (Au : Option Addr) (nu cu : Nat) (lu : List Nat) (zu : Bool) (Bu : Option Addr) (mu du : Nat) (ku : List Nat) (sv : Bool) (Av : Option Addr) (nv cv : Nat) (lv : List Nat) (zv : Bool) (Bv : Option Addr) (mv dv : Nat) (kv : List Nat) (sx : Bool) (Ax : Option Addr) (nx cx : Nat) (lx : List Nat) (zx : Bool) (Bx : Option Addr) (mx dx : Nat) (kx : List Nat) (w : World) (pu : Sl w Au nu cu lu) (qu : Sl w Bu mu du ku) (hu : nu ≤ 281474976710656) (iu : mu ≤ 281474976710656) (pv : Sl w Av nv cv lv) (qv : Sl w Bv mv dv kv) (hv : nv ≤ 281474976710656) (iv : mv ≤ 281474976710656) (px : Sl w Ax nx cx lx) (qx : Sl w Bx mx dx kx) (hx : nx ≤ 281474976710656) (ix : mx ≤ 281474976710656) :
    Calls Try.prog 3 #[.agg #[.bool su, .slice Au nu cu, .bool zu, .slice Bu mu du, .bool sv, .slice Av nv cv, .bool zv, .slice Bv mv dv], .agg #[.bool sx, .slice Ax nx cx, .bool zx, .slice Bx mx dx]] w (RetV w (.bool true)) := by
  have K0 := ((Mm.nil w).var (g := w.heap.size) rfl [.bool su, .slice Au nu cu, .bool zu, .slice Bu mu du, .bool sv, .slice Av nv cv, .bool zv, .slice Bv mv dv] 28).var (g := w.heap.size + 1) (by simp) [.bool sx, .slice Ax nx cx, .bool zx, .slice Bx mx dx] 26
  replace pu := pu.below K0.1
  replace qu := qu.below K0.1
  replace pv := pv.below K0.1
  replace qv := qv.below K0.1
  replace px := px.below K0.1
  replace qx := qx.below K0.1
  obtain ⟨F, hF⟩ : ∃ F, 2 + nx + mx = F := ⟨_, rfl⟩
  have HF := Lib.hid hF
  obtain ⟨ob, hob⟩ : ∃ o, okB ((sx, Ax, nx, cx, lx), (zx, Bx, mx, dx, kx)) = o := ⟨_, rfl⟩
  have HOB := Lib.hid hob
  have g01 : ¬ w.heap.size = w.heap.size + 1 := by omega
  have g10 : ¬ w.heap.size + 1 = w.heap.size := by omega
  have Hu := Lib.hid hu
  have Iu := Lib.hid iu
  have Hv := Lib.hid hv
  have Iv := Lib.hid iv
  have Hx := Lib.hid hx
  have Ix := Lib.hid ix
  clear hF hob hu iu hv iv hx ix
  go_enter Try.func3, Try.ntmps3
  go_upto_region 1 with (fail)
  generalize (w.alloc (.cells #[.bool su, .slice Au nu cu, .bool zu, .slice Bu mu du, .bool sv, .slice Av nv cv, .bool zv, .slice Bv mv dv] 28)).alloc (.cells #[.bool sx, .slice Ax nx cx, .bool zx, .slice Bx mx dx] 26) = w0 at K0 pu qu pv qv px qx ⊢
  obtain ⟨q0_0, q0_1, q0_2, q0_3, q0_4, q0_5, q0_6, q0_7⟩ := (K0.blk (g := w.heap.size) (vs := [.bool su, .slice Au nu cu, .bool zu, .slice Bu mu du, .bool sv, .slice Av nv cv, .bool zv, .slice Bv mv dv]) (by simp)).c8
  obtain ⟨⟨x0_0, x0_1, x0_2, x0_3⟩, _, _⟩ := (K0.blk (g := w.heap.size + 1) (vs := [.bool sx, .slice Ax nx cx, .bool zx, .slice Bx mx dx]) (by simp)).four
  by_cases y1 : 150 < F
  · have y1i : (150 : Int) < (F : Int) := by omega
    (first | (go_region_with (first
      | (go_at_call 7; apply Calls.withMm (w0 := w); (case K => (repeat (first | (with_reducible exact K0) | (with_reducible apply Mm.drewN) | (with_reducible apply Mm.drew) | (with_reducible apply Mm.varz)))); intro KX; (with_reducible refine (frac_size_any sx zx Ax Bx nx cx mx dx _ Hx.out Ix.out).mono ?_); rintro e1 w1 ⟨rfl, hb1⟩; rw [HF.out]; have K1 := KX.next hb1; clear KX; have hb : Below w0.heap.size w0 w1 := (by first | exact hb1 | exact below_of_drew hb1 | exact below_of_drewN hb1); (try replace pu := pu.below hb); (try replace qu := qu.below hb); (try replace pv := pv.below hb); (try replace qv := qv.below hb); (try replace px := px.below hb); (try replace qx := qx.below hb); obtain ⟨q1_0, q1_1, q1_2, q1_3, q1_4, q1_5, q1_6, q1_7⟩ := (K1.blk (g := w.heap.size) (vs := [.bool su, .slice Au nu cu, .bool zu, .slice Bu mu du, .bool sv, .slice Av nv cv, .bool zv, .slice Bv mv dv]) (by simp)).c8; obtain ⟨⟨x1_0, x1_1, x1_2, x1_3⟩, _, _⟩ := (K1.blk (g := w.heap.size + 1) (vs := [.bool sx, .slice Ax nx cx, .bool zx, .slice Bx mx dx]) (by simp)).four; clear hb hb1)
      | fail)) | fail)
    all_goals
      go_wp2_with fail
      have KE := K1
      refine (alive15 _).mono ?_
      rintro e9 w9 ⟨rfl, hb9⟩
      go_wp2_with fail
      go_ret
      exact ⟨rfl, below_next KE.1 hb9⟩
  · have y1i : ¬ (150 : Int) < (F : Int) := by omega
    have y1b : decide ((150 : Int) < (F : Int)) = false := decide_eq_false y1i
    have LX : Hid (nx ≤ 1000000000 ∧ mx ≤ 1000000000) := Lib.hid (by have := HF.out; omega)
    cases ob with
    | false =>
      (first | (go_region_with (first
        | (go_at_call 7; apply Calls.withMm (w0 := w); (case K => (repeat (first | (with_reducible exact K0) | (with_reducible apply Mm.drewN) | (with_reducible apply Mm.drew) | (with_reducible apply Mm.varz)))); intro KX; (with_reducible refine (frac_size_any sx zx Ax Bx nx cx mx dx _ Hx.out Ix.out).mono ?_); rintro e1 w1 ⟨rfl, hb1⟩; rw [HF.out]; have K1 := KX.next hb1; clear KX; have hb : Below w0.heap.size w0 w1 := (by first | exact hb1 | exact below_of_drew hb1 | exact below_of_drewN hb1); (try replace pu := pu.below hb); (try replace qu := qu.below hb); (try replace pv := pv.below hb); (try replace qv := qv.below hb); (try replace px := px.below hb); (try replace qx := qx.below hb); obtain ⟨q1_0, q1_1, q1_2, q1_3, q1_4, q1_5, q1_6, q1_7⟩ := (K1.blk (g := w.heap.size) (vs := [.bool su, .slice Au nu cu, .bool zu, .slice Bu mu du, .bool sv, .slice Av nv cv, .bool zv, .slice Bv mv dv]) (by simp)).c8; obtain ⟨⟨x1_0, x1_1, x1_2, x1_3⟩, _, _⟩ := (K1.blk (g := w.heap.size + 1) (vs := [.bool sx, .slice Ax nx cx, .bool zx, .slice Bx mx dx]) (by simp)).four; clear hb hb1)
        | (go_at_call 8; apply Calls.withMm (w0 := w); (case K => (repeat (first | (with_reducible exact K1) | (with_reducible apply Mm.drewN) | (with_reducible apply Mm.drew) | (with_reducible apply Mm.varz)))); intro KX; (refine (frac_check_any sx Ax nx cx lx zx Bx mx dx kx _ ⟨px, qx, LX.out⟩).mono ?_); rintro e2 w2 ⟨rfl, hb2⟩; rw [HOB.out]; simp only [Bool.false_eq_true, if_false]; have K2 := KX.next hb2; clear KX; have hb : Below w1.heap.size w1 w2 := (by first | exact hb2 | exact below_of_drew hb2 | exact below_of_drewN hb2); (try replace pu := pu.below hb); (try replace qu := qu.below hb); (try replace pv := pv.below hb); (try replace qv := qv.below hb); (try replace px := px.below hb); (try replace qx := qx.below hb); obtain ⟨q2_0, q2_1, q2_2, q2_3, q2_4, q2_5, q2_6, q2_7⟩ := (K2.blk (g := w.heap.size) (vs := [.bool su, .slice Au nu cu, .bool zu, .slice Bu mu du, .bool sv, .slice Av nv cv, .bool zv, .slice Bv mv dv]) (by simp)).c8; obtain ⟨⟨x2_0, x2_1, x2_2, x2_3⟩, _, _⟩ := (K2.blk (g := w.heap.size + 1) (vs := [.bool sx, .slice Ax nx cx, .bool zx, .slice Bx mx dx]) (by simp)).four; clear hb hb2)
        | fail)) | fail)
      all_goals
        go_wp2_with fail
        have KE := K2
        refine (alive15 _).mono ?_
        rintro e9 w9 ⟨rfl, hb9⟩
        go_wp2_with fail
        go_ret
        exact ⟨rfl, below_next KE.1 hb9⟩
    | true =>
      go_region_held3 (fun w' => w'.cell? ⟨w.heap.size, 0, none⟩ = some (.bool su) ∧ w'.cell? ⟨w.heap.size, 1, none⟩ = some (.slice Au nu cu) ∧ w'.cell? ⟨w.heap.size, 2, none⟩ = some (.bool zu) ∧ w'.cell? ⟨w.heap.size, 3, none⟩ = some (.slice Bu mu du) ∧ w'.cell? ⟨w.heap.size, 4, none⟩ = some (.bool sv) ∧ w'.cell? ⟨w.heap.size, 5, none⟩ = some (.slice Av nv cv) ∧ w'.cell? ⟨w.heap.size, 6, none⟩ = some (.bool zv) ∧ w'.cell? ⟨w.heap.size, 7, none⟩ = some (.slice Bv mv dv) ∧ w'.cell? ⟨w.heap.size + 1, 0, none⟩ = some (.bool sx) ∧ w'.cell? ⟨w.heap.size + 1, 1, none⟩ = some (.slice Ax nx cx) ∧ w'.cell? ⟨w.heap.size + 1, 2, none⟩ = some (.bool zx) ∧ w'.cell? ⟨w.heap.size + 1, 3, none⟩ = some (.slice Bx mx dx))
        (go_keep)
        (first
          | (go_at_call 9; apply Calls.withMm (w0 := w); (case K => (repeat (first | (with_reducible exact K3) | (with_reducible apply Mm.drewN) | (with_reducible apply Mm.drew) | (with_reducible apply Mm.varz)))); intro KX; (refine (may_any sa Aa na ca la za Ba ma da ka sb Ab nb cb lb zb Bb mb db kb sc Ac nc cc lc zc Bc mc dc kc sd Ad nd cd ld zd Bd md dd kd su Au nu cu lu zu Bu mu du ku sv Av nv cv lv zv Bv mv dv kv _ oa.1.1 oa.1.2.1 (Nat.le_trans oa.1.2.2.1 (by decide)) (Nat.le_trans oa.1.2.2.2 (by decide)) ob.1.1 ob.1.2.1 (Nat.le_trans ob.1.2.2.1 (by decide)) (Nat.le_trans ob.1.2.2.2 (by decide)) oc.1.1 oc.1.2.1 (Nat.le_trans oc.1.2.2.1 (by decide)) (Nat.le_trans oc.1.2.2.2 (by decide)) od.1.1 od.1.2.1 (Nat.le_trans od.1.2.2.1 (by decide)) (Nat.le_trans od.1.2.2.2 (by decide)) pu qu Hu.out Iu.out pv qv Hv.out Iv.out).mono ?_); rintro e4 w4 ⟨rfl, hb4⟩; obtain ⟨b, hmb⟩ : ∃ b, mayB ((sa, Aa, na, ca, la), (za, Ba, ma, da, ka)) ((sb, Ab, nb, cb, lb), (zb, Bb, mb, db, kb)) ((sc, Ac, nc, cc, lc), (zc, Bc, mc, dc, kc)) ((sd, Ad, nd, cd, ld), (zd, Bd, md, dd, kd)) ((su, Au, nu, cu, lu), (zu, Bu, mu, du, ku)) ((sv, Av, nv, cv, lv), (zv, Bv, mv, dv, kv)) = b := ⟨_, rfl⟩; rw [hmb]; have HMB := Lib.hid hmb; clear hmb; have K4 := KX.next hb4; clear KX; have hb : Below w3.heap.size w3 w4 := (by first | exact hb4 | exact below_of_drew hb4 | exact below_of_drewN hb4); (try replace pu := pu.below hb); (try replace qu := qu.below hb); (try replace pv := pv.below hb); (try replace qv := qv.below hb); (try replace px := px.below hb); (try replace qx := qx.below hb); obtain ⟨q4_0, q4_1, q4_2, q4_3, q4_4, q4_5, q4_6, q4_7⟩ := (K4.blk (g := w.heap.size) (vs := [.bool su, .slice Au nu cu, .bool zu, .slice Bu mu du, .bool sv, .slice Av nv cv, .bool zv, .slice Bv mv dv]) (by simp)).c8; obtain ⟨⟨x4_0, x4_1, x4_2, x4_3⟩, _, _⟩ := (K4.blk (g := w.heap.size + 1) (vs := [.bool sx, .slice Ax nx cx, .bool zx, .slice Bx mx dx]) (by simp)).four; have HOM : Hid (szF ((sa, Aa, na, ca, la), (za, Ba, ma, da, ka)) + szF ((sb, Ab, nb, cb, lb), (zb, Bb, mb, db, kb)) + szF ((sc, Ac, nc, cc, lc), (zc, Bc, mc, dc, kc)) + szF ((sd, Ad, nd, cd, ld), (zd, Bd, md, dd, kd)) = szF ((sa, Aa, na, ca, la), (za, Ba, ma, da, ka)) + szF ((sb, Ab, nb, cb, lb), (zb, Bb, mb, db, kb)) + szF ((sc, Ac, nc, cc, lc), (zc, Bc, mc, dc, kc)) + szF ((sd, Ad, nd, cd, ld), (zd, Bd, md, dd, kd))) := Lib.hid rfl; clear hb hb4 oa ob oc od HOM)
          | (go_at_call 10; apply Calls.withMm (w0 := w); (case K => (repeat (first | (with_reducible exact K2) | (with_reducible apply Mm.drewN) | (with_reducible apply Mm.drew) | (with_reducible apply Mm.varz)))); intro KX; (with_reducible refine (ray_one_any _).mono ?_); rintro e3 w3 ⟨sa, Aa, na, ca, la, za, Ba, ma, da, ka, sb, Ab, nb, cb, lb, zb, Bb, mb, db, kb, sc, Ac, nc, cc, lc, zc, Bc, mc, dc, kc, sd, Ad, nd, cd, ld, zd, Bd, md, dd, kd, rfl, oa, ob, oc, od, hb3⟩; have K3 := KX.next hb3; clear KX; have hb : Below w2.heap.size w2 w3 := (by first | exact hb3 | exact below_of_drew hb3 | exact below_of_drewN hb3); (try replace pu := pu.below hb); (try replace qu := qu.below hb); (try replace pv := pv.below hb); (try replace qv := qv.below hb); (try replace px := px.below hb); (try replace qx := qx.below hb); obtain ⟨q3_0, q3_1, q3_2, q3_3, q3_4, q3_5, q3_6, q3_7⟩ := (K3.blk (g := w.heap.size) (vs := [.bool su, .slice Au nu cu, .bool zu, .slice Bu mu du, .bool sv, .slice Av nv cv, .bool zv, .slice Bv mv dv]) (by simp)).c8; obtain ⟨⟨x3_0, x3_1, x3_2, x3_3⟩, _, _⟩ := (K3.blk (g := w.heap.size + 1) (vs := [.bool sx, .slice Ax nx cx, .bool zx, .slice Bx mx dx]) (by simp)).four; clear hb hb3)
          | (go_at_call 8; apply Calls.withMm (w0 := w); (case K => (repeat (first | (with_reducible exact K1) | (with_reducible apply Mm.drewN) | (with_reducible apply Mm.drew) | (with_reducible apply Mm.varz)))); intro KX; (refine (frac_check_any sx Ax nx cx lx zx Bx mx dx kx _ ⟨px, qx, LX.out⟩).mono ?_); rintro e2 w2 ⟨rfl, hb2⟩; rw [HOB.out]; simp only [if_true]; have K2 := KX.next hb2; clear KX; have hb : Below w1.heap.size w1 w2 := (by first | exact hb2 | exact below_of_drew hb2 | exact below_of_drewN hb2); (try replace pu := pu.below hb); (try replace qu := qu.below hb); (try replace pv := pv.below hb); (try replace qv := qv.below hb); (try replace px := px.below hb); (try replace qx := qx.below hb); obtain ⟨q2_0, q2_1, q2_2, q2_3, q2_4, q2_5, q2_6, q2_7⟩ := (K2.blk (g := w.heap.size) (vs := [.bool su, .slice Au nu cu, .bool zu, .slice Bu mu du, .bool sv, .slice Av nv cv, .bool zv, .slice Bv mv dv]) (by simp)).c8; obtain ⟨⟨x2_0, x2_1, x2_2, x2_3⟩, _, _⟩ := (K2.blk (g := w.heap.size + 1) (vs := [.bool sx, .slice Ax nx cx, .bool zx, .slice Bx mx dx]) (by simp)).four; clear hb hb2)
          | (go_at_call 7; apply Calls.withMm (w0 := w); (case K => (repeat (first | (with_reducible exact K0) | (with_reducible apply Mm.drewN) | (with_reducible apply Mm.drew) | (with_reducible apply Mm.varz)))); intro KX; (with_reducible refine (frac_size_any sx zx Ax Bx nx cx mx dx _ Hx.out Ix.out).mono ?_); rintro e1 w1 ⟨rfl, hb1⟩; rw [HF.out]; have K1 := KX.next hb1; clear KX; have hb : Below w0.heap.size w0 w1 := (by first | exact hb1 | exact below_of_drew hb1 | exact below_of_drewN hb1); (try replace pu := pu.below hb); (try replace qu := qu.below hb); (try replace pv := pv.below hb); (try replace qv := qv.below hb); (try replace px := px.below hb); (try replace qx := qx.below hb); obtain ⟨q1_0, q1_1, q1_2, q1_3, q1_4, q1_5, q1_6, q1_7⟩ := (K1.blk (g := w.heap.size) (vs := [.bool su, .slice Au nu cu, .bool zu, .slice Bu mu du, .bool sv, .slice Av nv cv, .bool zv, .slice Bv mv dv]) (by simp)).c8; obtain ⟨⟨x1_0, x1_1, x1_2, x1_3⟩, _, _⟩ := (K1.blk (g := w.heap.size + 1) (vs := [.bool sx, .slice Ax nx cx, .bool zx, .slice Bx mx dx]) (by simp)).four; clear hb hb1)
          | fail)
      all_goals
        cases b with
        | false =>
          go_wp2_with fail
          have KE := K4
          refine (alive15 _).mono ?_
          rintro e9 w9 ⟨rfl, hb9⟩
          go_wp2_with fail
          go_ret
          exact ⟨rfl, below_next KE.1 hb9⟩
        | true =>
          go_upto_region 3 with (fail)
          obtain ⟨_, z2, _, z4⟩ := mayB_yes HMB.out
          obtain ⟨z5, z6, z7⟩ := chkBm_yes z4
          unfold szF at z2
          simp only at z2
          obtain ⟨xu, hxu⟩ : ∃ x, rv ((su, Au, nu, cu, lu), (zu, Bu, mu, du, ku)) = x := ⟨_, rfl⟩
          obtain ⟨xv, hxv⟩ : ∃ x, rv ((sv, Av, nv, cv, lv), (zv, Bv, mv, dv, kv)) = x := ⟨_, rfl⟩
          obtain ⟨xx, hxx⟩ : ∃ x, rv ((sx, Ax, nx, cx, lx), (zx, Bx, mx, dx, kx)) = x := ⟨_, rfl⟩
          rw [hxv] at z7
          have fz := HF.out
          have ou : OkF w4 ((su, Au, nu, cu, lu), (zu, Bu, mu, du, ku)) xu := ⟨⟨pu, qu, show nu ≤ 1000000000 by omega, show mu ≤ 1000000000 by omega⟩, z5, hxu⟩
          have ov : OkF w4 ((sv, Av, nv, cv, lv), (zv, Bv, mv, dv, kv)) xv := ⟨⟨pv, qv, show nv ≤ 1000000000 by omega, show mv ≤ 1000000000 by omega⟩, z6, hxv⟩
          have ox : OkF w4 ((sx, Ax, nx, cx, lx), (zx, Bx, mx, dx, kx)) xx := ⟨⟨px, qx, show nx ≤ 1000000000 by omega, show mx ≤ 1000000000 by omega⟩, HOB.out, hxx⟩
          have SU : Hid (Sz xu (nu + mu)) := Lib.hid (sz_of ou.ints.1 ou.ints.2.1 (by omega) (by omega))
          have SV : Hid (Sz xv (nv + mv)) := Lib.hid (sz_of ov.ints.1 ov.ints.2.1 (by omega) (by omega))
          have SX : Hid (Sz xx (nx + mx)) := Lib.hid (sz_of ox.ints.1 ox.ints.2.1 (by omega) (by omega))
          obtain ⟨U, hU⟩ : ∃ U, nu + mu = U := ⟨_, rfl⟩
          obtain ⟨V, hV⟩ : ∃ U, nv + mv = U := ⟨_, rfl⟩
          obtain ⟨X, hX⟩ : ∃ U, nx + mx = U := ⟨_, rfl⟩
          have LUV : Hid (U + V ≤ 146 ∧ X ≤ 148) := Lib.hid (by omega)
          rw [hU] at SU
          rw [hV] at SV
          rw [hX] at SX
          have ZV := Lib.hid z7
          have SO := Lib.hid (sz_opp SX.out)
          have HN := Lib.hid (lensN_ne (u := xu) (x := xx) z7)
          have HP := Lib.hid (lens_pos (u := xu) (x := xx) z7)
          have HD := Lib.hid (far_pos (u := xu) z7)
          clear z2 z4 z5 z6 z7 hxu hxv hxx fz hU hV hX px qx pu qu pv qv HMB LX
          go_wp2_with fail
          refine (gauss_of_any 0 0 0 0 _ (by decide) (by decide) (Lib.hid (by decide +kernel) : Hid (Rat.divInt 0 1 = (0 : Rat))) (Lib.hid (by decide +kernel) : Hid (Rat.divInt 0 1 = (0 : Rat)))).mono ?_
          rintro e3 v3 ⟨sza, Aza, nza, cza, lza, zza, Bza, mza, dza, kza, szb, Azb, nzb, czb, lzb, zzb, Bzb, mzb, dzb, kzb, rfl, oza, ozb, hb⟩
          have hbx : Below v3.heap.size v3 (v3.alloc (.cells #[.bool sza, .slice Aza nza cza, .bool zza, .slice Bza mza dza] 26)) := (Below.refl _ _).alloc (Nat.le_refl _) _
          have K3 := ((K4.next hb).var (g := v3.heap.size) rfl [.bool sza, .slice Aza nza cza, .bool zza, .slice Bza mza dza] 26)
          replace oza := oza.next hbx
          replace ozb := ozb.next hbx
          replace ou := (ou.next hb).next hbx
          replace ov := (ov.next hb).next hbx
          replace ox := (ox.next hb).next hbx
          clear K4 hb hbx 
          go_upto_region 4 with (fail)
          generalize v3.heap.size = g5 at K3 ⊢
          generalize v3.alloc (.cells #[.bool sza, .slice Aza nza cza, .bool zza, .slice Bza mza dza] 26) = u3 at K3 ou ov ox oza ozb ⊢
          clear ozb
          obtain ⟨⟨y0, y1, y2, y3⟩, _, _⟩ := (K3.blk (g := g5) (vs := [.bool sza, .slice Aza nza cza, .bool zza, .slice Bza mza dza]) (by simp)).four
          obtain ⟨⟨x_0, x_1, x_2, x_3⟩, _, _⟩ := (K3.blk (g := w.heap.size + 1) (vs := [.bool sx, .slice Ax nx cx, .bool zx, .slice Bx mx dx]) (by simp)).four
          go_wp2_with fail
          refine (frac_sub_any sza Aza nza cza lza zza Bza mza dza kza sx Ax nx cx lx zx Bx mx dx kx 0 xx (-xx) _ oza ox (SO.out.mono (by have := LUV.out; omega)) (Lib.hid (by grind))).mono ?_
          rintro e4 v4 ⟨se, Ae, ne, ce, le, ze, Be, me, de, ke, rfl, oe, hb⟩
          have hbx : Below v4.heap.size v4 (v4.alloc (.cells #[.bool se, .slice Ae ne ce, .bool ze, .slice Be me de] 26)) := (Below.refl _ _).alloc (Nat.le_refl _) _
          have K4 := ((K3.next hb).var (g := v4.heap.size) rfl [.bool se, .slice Ae ne ce, .bool ze, .slice Be me de] 26)
          replace oe := oe.next hbx
          replace ou := (ou.next hb).next hbx
          replace ov := (ov.next hb).next hbx
          replace ox := (ox.next hb).next hbx
          replace oza := (oza.next hb).next hbx
          clear K3 hb hbx y0 y1 y2 y3 x_0 x_1 x_2 x_3
          go_upto_region 5 with (fail)
          generalize v4.heap.size = g6 at K4 ⊢
          generalize v4.alloc (.cells #[.bool se, .slice Ae ne ce, .bool ze, .slice Be me de] 26) = u4 at K4 ou ov ox oza oe ⊢
          clear oza
          replace K4 := K4.pick (L' := [(g6, [.bool se, .slice Ae ne ce, .bool ze, .slice Be me de]), (w.heap.size + 1, [.bool sx, .slice Ax nx cx, .bool zx, .slice Bx mx dx]), (w.heap.size, [.bool su, .slice Au nu cu, .bool zu, .slice Bu mu du, .bool sv, .slice Av nv cv, .bool zv, .slice Bv mv dv])]) (l' := []) (by simp) (by simp)
          go_wp2_with fail
          refine (ray_one_any _).mono ?_
          rintro e5 v5 ⟨sa1, Aa1, na1, ca1, la1, za1, Ba1, ma1, da1, ka1, sb1, Ab1, nb1, cb1, lb1, zb1, Bb1, mb1, db1, kb1, sc1, Ac1, nc1, cc1, lc1, zc1, Bc1, mc1, dc1, kc1, sd1, Ad1, nd1, cd1, ld1, zd1, Bd1, md1, dd1, kd1, rfl, oa1, ob1, oc1, od1, hb⟩
          have KN := K4.next hb
          have HG0_g8 : ¬ v5.heap.size = g6 := by have := (KN.blk (g := g6) (vs := [.bool se, .slice Ae ne ce, .bool ze, .slice Be me de]) (by simp)).1; omega
          have HG1_g8 : ¬ v5.heap.size = w.heap.size + 1 := by have := (KN.blk (g := w.heap.size + 1) (vs := [.bool sx, .slice Ax nx cx, .bool zx, .slice Bx mx dx]) (by simp)).1; omega
          have HG2_g8 : ¬ v5.heap.size = w.heap.size := by have := (KN.blk (g := w.heap.size) (vs := [.bool su, .slice Au nu cu, .bool zu, .slice Bu mu du, .bool sv, .slice Av nv cv, .bool zv, .slice Bv mv dv]) (by simp)).1; omega
          have hbx : Below v5.heap.size v5 (v5.alloc (.cells #[.bool sa1, .slice Aa1 na1 ca1, .bool za1, .slice Ba1 ma1 da1, .bool sb1, .slice Ab1 nb1 cb1, .bool zb1, .slice Bb1 mb1 db1, .bool sc1, .slice Ac1 nc1 cc1, .bool zc1, .slice Bc1 mc1 dc1, .bool sd1, .slice Ad1 nd1 cd1, .bool zd1, .slice Bd1 md1 dd1] 34)) := (Below.refl _ _).alloc (Nat.le_refl _) _
          have K5 := KN.var (g := v5.heap.size) rfl [.bool sa1, .slice Aa1 na1 ca1, .bool za1, .slice Ba1 ma1 da1, .bool sb1, .slice Ab1 nb1 cb1, .bool zb1, .slice Bb1 mb1 db1, .bool sc1, .slice Ac1 nc1 cc1, .bool zc1, .slice Bc1 mc1 dc1, .bool sd1, .slice Ad1 nd1 cd1, .bool zd1, .slice Bd1 md1 dd1] 34
          replace oa1 := oa1.next hbx
          replace ob1 := ob1.next hbx
          replace oc1 := oc1.next hbx
          replace od1 := od1.next hbx
          replace ou := (ou.next hb).next hbx
          replace ov := (ov.next hb).next hbx
          replace ox := (ox.next hb).next hbx
          replace oe := (oe.next hb).next hbx
          clear K4 KN hb hbx 
          go_upto_region 6 with (fail)
          generalize v5.heap.size = g8 at K5 HG0_g8 HG1_g8 HG2_g8 ⊢
          generalize v5.alloc (.cells #[.bool sa1, .slice Aa1 na1 ca1, .bool za1, .slice Ba1 ma1 da1, .bool sb1, .slice Ab1 nb1 cb1, .bool zb1, .slice Bb1 mb1 db1, .bool sc1, .slice Ac1 nc1 cc1, .bool zc1, .slice Bc1 mc1 dc1, .bool sd1, .slice Ad1 nd1 cd1, .bool zd1, .slice Bd1 md1 dd1] 34) = u5 at K5 ou ov ox oe oa1 ob1 oc1 od1 ⊢
          have ng_0 : ¬ g8 = g6 := HG0_g8
          have ng_1 : ¬ g8 = w.heap.size + 1 := HG1_g8
          have ng_2 : ¬ g8 = w.heap.size := HG2_g8
          obtain ⟨⟨x_0, x_1, x_2, x_3⟩, _, _⟩ := (K5.blk (g := w.heap.size + 1) (vs := [.bool sx, .slice Ax nx cx, .bool zx, .slice Bx mx dx]) (by simp)).four
          obtain ⟨f0, f1, f2, f3, f4, f5, f6, f7, f8, f9, f10, f11, f12, f13, f14, f15⟩ := (K5.blk (g := g8) (vs := [.bool sa1, .slice Aa1 na1 ca1, .bool za1, .slice Ba1 ma1 da1, .bool sb1, .slice Ab1 nb1 cb1, .bool zb1, .slice Bb1 mb1 db1, .bool sc1, .slice Ac1 nc1 cc1, .bool zc1, .slice Bc1 mc1 dc1, .bool sd1, .slice Ad1 nd1 cd1, .bool zd1, .slice Bd1 md1 dd1]) (by simp)).c16
          obtain ⟨ff0, ff1, ff2, ff3, ff4, ff5, ff6, ff7, ff8, ff9, ff10, ff11, ff12, ff13, ff14, ff15, _⟩ := (K5.blk (g := g8) (vs := [.bool sa1, .slice Aa1 na1 ca1, .bool za1, .slice Ba1 ma1 da1, .bool sb1, .slice Ab1 nb1 cb1, .bool zb1, .slice Bb1 mb1 db1, .bool sc1, .slice Ac1 nc1 cc1, .bool zc1, .slice Bc1 mc1 dc1, .bool sd1, .slice Ad1 nd1 cd1, .bool zd1, .slice Bd1 md1 dd1]) (by simp)).f16
          go_upto_region 7 with (fail)
          obtain ⟨K6, hpo⟩ := Mm.put4 K5 (by simp only [List.mem_cons, List.not_mem_nil, or_false]; rintro b (rfl | rfl | rfl) <;> assumption) 4 rfl rfl rfl rfl sx Ax nx cx zx Bx mx dx
          replace hpo : ∀ f r, OkF u5 f r → OkF ((((u5.setCell ⟨g8, 4, none⟩ (.bool sx)).setCell ⟨g8, 5, none⟩ (.slice Ax nx cx)).setCell ⟨g8, 6, none⟩ (.bool zx)).setCell ⟨g8, 7, none⟩ (.slice Bx mx dx)) f r := hpo
          replace ou := hpo _ _ ou
          replace ov := hpo _ _ ov
          replace ox := hpo _ _ ox
          replace oe := hpo _ _ oe
          replace oa1 := hpo _ _ oa1
          replace ob1 := hpo _ _ ob1
          replace oc1 := hpo _ _ oc1
          replace od1 := hpo _ _ od1
          replace K6 : Mm w [(g8, [.bool sa1, .slice Aa1 na1 ca1, .bool za1, .slice Ba1 ma1 da1, .bool sx, .slice Ax nx cx, .bool zx, .slice Bx mx dx, .bool sc1, .slice Ac1 nc1 cc1, .bool zc1, .slice Bc1 mc1 dc1, .bool sd1, .slice Ad1 nd1 cd1, .bool zd1, .slice Bd1 md1 dd1]), (g6, [.bool se, .slice Ae ne ce, .bool ze, .slice Be me de]), (w.heap.size + 1, [.bool sx, .slice Ax nx cx, .bool zx, .slice Bx mx dx]), (w.heap.size, [.bool su, .slice Au nu cu, .bool zu, .slice Bu mu du, .bool sv, .slice Av nv cv, .bool zv, .slice Bv mv dv])] [] ((((u5.setCell ⟨g8, 4, none⟩ (.bool sx)).setCell ⟨g8, 5, none⟩ (.slice Ax nx cx)).setCell ⟨g8, 6, none⟩ (.bool zx)).setCell ⟨g8, 7, none⟩ (.slice Bx mx dx)) := K6
          generalize (((u5.setCell ⟨g8, 4, none⟩ (.bool sx)).setCell ⟨g8, 5, none⟩ (.slice Ax nx cx)).setCell ⟨g8, 6, none⟩ (.bool zx)).setCell ⟨g8, 7, none⟩ (.slice Bx mx dx) = u6 at K6 ou ov ox oe oa1 ob1 oc1 od1 ⊢
          clear K5 hpo x_0 x_1 x_2 x_3 f0 f1 f2 f3 f4 f5 f6 f7 f8 f9 f10 f11 f12 f13 f14 f15 ff0 ff1 ff2 ff3 ff4 ff5 ff6 ff7 ff8 ff9 ff10 ff11 ff12 ff13 ff14 ff15 ng_0 ng_1 ng_2
          clear ob1
          go_wp2_with fail
          refine (ray_one_any _).mono ?_
          rintro e7 v7 ⟨sa2, Aa2, na2, ca2, la2, za2, Ba2, ma2, da2, ka2, sb2, Ab2, nb2, cb2, lb2, zb2, Bb2, mb2, db2, kb2, sc2, Ac2, nc2, cc2, lc2, zc2, Bc2, mc2, dc2, kc2, sd2, Ad2, nd2, cd2, ld2, zd2, Bd2, md2, dd2, kd2, rfl, oa2, ob2, oc2, od2, hb⟩
          have KN := K6.next hb
          have HG0_g9 : ¬ v7.heap.size = g8 := by have := (KN.blk (g := g8) (vs := [.bool sa1, .slice Aa1 na1 ca1, .bool za1, .slice Ba1 ma1 da1, .bool sx, .slice Ax nx cx, .bool zx, .slice Bx mx dx, .bool sc1, .slice Ac1 nc1 cc1, .bool zc1, .slice Bc1 mc1 dc1, .bool sd1, .slice Ad1 nd1 cd1, .bool zd1, .slice Bd1 md1 dd1]) (by simp)).1; omega
          have HG1_g9 : ¬ v7.heap.size = g6 := by have := (KN.blk (g := g6) (vs := [.bool se, .slice Ae ne ce, .bool ze, .slice Be me de]) (by simp)).1; omega
          have HG2_g9 : ¬ v7.heap.size = w.heap.size + 1 := by have := (KN.blk (g := w.heap.size + 1) (vs := [.bool sx, .slice Ax nx cx, .bool zx, .slice Bx mx dx]) (by simp)).1; omega
          have HG3_g9 : ¬ v7.heap.size = w.heap.size := by have := (KN.blk (g := w.heap.size) (vs := [.bool su, .slice Au nu cu, .bool zu, .slice Bu mu du, .bool sv, .slice Av nv cv, .bool zv, .slice Bv mv dv]) (by simp)).1; omega
          have hbx : Below v7.heap.size v7 (v7.alloc (.cells #[.bool sa2, .slice Aa2 na2 ca2, .bool za2, .slice Ba2 ma2 da2, .bool sb2, .slice Ab2 nb2 cb2, .bool zb2, .slice Bb2 mb2 db2, .bool sc2, .slice Ac2 nc2 cc2, .bool zc2, .slice Bc2 mc2 dc2, .bool sd2, .slice Ad2 nd2 cd2, .bool zd2, .slice Bd2 md2 dd2] 34)) := (Below.refl _ _).alloc (Nat.le_refl _) _
          have K7 := KN.var (g := v7.heap.size) rfl [.bool sa2, .slice Aa2 na2 ca2, .bool za2, .slice Ba2 ma2 da2, .bool sb2, .slice Ab2 nb2 cb2, .bool zb2, .slice Bb2 mb2 db2, .bool sc2, .slice Ac2 nc2 cc2, .bool zc2, .slice Bc2 mc2 dc2, .bool sd2, .slice Ad2 nd2 cd2, .bool zd2, .slice Bd2 md2 dd2] 34
          replace oa2 := oa2.next hbx
          replace ob2 := ob2.next hbx
          replace oc2 := oc2.next hbx
          replace od2 := od2.next hbx
          replace ou := (ou.next hb).next hbx
          replace ov := (ov.next hb).next hbx
          replace ox := (ox.next hb).next hbx
          replace oe := (oe.next hb).next hbx
          replace oa1 := (oa1.next hb).next hbx
          replace oc1 := (oc1.next hb).next hbx
          replace od1 := (od1.next hb).next hbx
          clear K6 KN hb hbx 
          go_upto_region 8 with (fail)
          generalize v7.heap.size = g9 at K7 HG0_g9 HG1_g9 HG2_g9 HG3_g9 ⊢
          generalize v7.alloc (.cells #[.bool sa2, .slice Aa2 na2 ca2, .bool za2, .slice Ba2 ma2 da2, .bool sb2, .slice Ab2 nb2 cb2, .bool zb2, .slice Bb2 mb2 db2, .bool sc2, .slice Ac2 nc2 cc2, .bool zc2, .slice Bc2 mc2 dc2, .bool sd2, .slice Ad2 nd2 cd2, .bool zd2, .slice Bd2 md2 dd2] 34) = u7 at K7 ou ov ox oe oa1 oc1 od1 oa2 ob2 oc2 od2 ⊢
          have ng_0 : ¬ g9 = g8 := HG0_g9
          have ng_1 : ¬ g9 = g6 := HG1_g9
          have ng_2 : ¬ g9 = w.heap.size + 1 := HG2_g9
          have ng_3 : ¬ g9 = w.heap.size := HG3_g9
          obtain ⟨⟨x_0, x_1, x_2, x_3⟩, _, _⟩ := (K7.blk (g := g6) (vs := [.bool se, .slice Ae ne ce, .bool ze, .slice Be me de]) (by simp)).four
          obtain ⟨f0, f1, f2, f3, f4, f5, f6, f7, f8, f9, f10, f11, f12, f13, f14, f15⟩ := (K7.blk (g := g9) (vs := [.bool sa2, .slice Aa2 na2 ca2, .bool za2, .slice Ba2 ma2 da2, .bool sb2, .slice Ab2 nb2 cb2, .bool zb2, .slice Bb2 mb2 db2, .bool sc2, .slice Ac2 nc2 cc2, .bool zc2, .slice Bc2 mc2 dc2, .bool sd2, .slice Ad2 nd2 cd2, .bool zd2, .slice Bd2 md2 dd2]) (by simp)).c16
          obtain ⟨ff0, ff1, ff2, ff3, ff4, ff5, ff6, ff7, ff8, ff9, ff10, ff11, ff12, ff13, ff14, ff15, _⟩ := (K7.blk (g := g9) (vs := [.bool sa2, .slice Aa2 na2 ca2, .bool za2, .slice Ba2 ma2 da2, .bool sb2, .slice Ab2 nb2 cb2, .bool zb2, .slice Bb2 mb2 db2, .bool sc2, .slice Ac2 nc2 cc2, .bool zc2, .slice Bc2 mc2 dc2, .bool sd2, .slice Ad2 nd2 cd2, .bool zd2, .slice Bd2 md2 dd2]) (by simp)).f16
          go_upto_region 9 with (fail)
          obtain ⟨K8, hpo⟩ := Mm.put4 K7 (by simp only [List.mem_cons, List.not_mem_nil, or_false]; rintro b (rfl | rfl | rfl | rfl) <;> assumption) 8 rfl rfl rfl rfl se Ae ne ce ze Be me de
          replace hpo : ∀ f r, OkF u7 f r → OkF ((((u7.setCell ⟨g9, 8, none⟩ (.bool se)).setCell ⟨g9, 9, none⟩ (.slice Ae ne ce)).setCell ⟨g9, 10, none⟩ (.bool ze)).setCell ⟨g9, 11, none⟩ (.slice Be me de)) f r := hpo
          replace ou := hpo _ _ ou
          replace ov := hpo _ _ ov
          replace ox := hpo _ _ ox
          replace oe := hpo _ _ oe
          replace oa1 := hpo _ _ oa1
          replace oc1 := hpo _ _ oc1
          replace od1 := hpo _ _ od1
          replace oa2 := hpo _ _ oa2
          replace ob2 := hpo _ _ ob2
          replace oc2 := hpo _ _ oc2
          replace od2 := hpo _ _ od2
          replace K8 : Mm w [(g9, [.bool sa2, .slice Aa2 na2 ca2, .bool za2, .slice Ba2 ma2 da2, .bool sb2, .slice Ab2 nb2 cb2, .bool zb2, .slice Bb2 mb2 db2, .bool se, .slice Ae ne ce, .bool ze, .slice Be me de, .bool sd2, .slice Ad2 nd2 cd2, .bool zd2, .slice Bd2 md2 dd2]), (g8, [.bool sa1, .slice Aa1 na1 ca1, .bool za1, .slice Ba1 ma1 da1, .bool sx, .slice Ax nx cx, .bool zx, .slice Bx mx dx, .bool sc1, .slice Ac1 nc1 cc1, .bool zc1, .slice Bc1 mc1 dc1, .bool sd1, .slice Ad1 nd1 cd1, .bool zd1, .slice Bd1 md1 dd1]), (g6, [.bool se, .slice Ae ne ce, .bool ze, .slice Be me de]), (w.heap.size + 1, [.bool sx, .slice Ax nx cx, .bool zx, .slice Bx mx dx]), (w.heap.size, [.bool su, .slice Au nu cu, .bool zu, .slice Bu mu du, .bool sv, .slice Av nv cv, .bool zv, .slice Bv mv dv])] [] ((((u7.setCell ⟨g9, 8, none⟩ (.bool se)).setCell ⟨g9, 9, none⟩ (.slice Ae ne ce)).setCell ⟨g9, 10, none⟩ (.bool ze)).setCell ⟨g9, 11, none⟩ (.slice Be me de)) := K8
          generalize (((u7.setCell ⟨g9, 8, none⟩ (.bool se)).setCell ⟨g9, 9, none⟩ (.slice Ae ne ce)).setCell ⟨g9, 10, none⟩ (.bool ze)).setCell ⟨g9, 11, none⟩ (.slice Be me de) = u8 at K8 ou ov ox oe oa1 oc1 od1 oa2 ob2 oc2 od2 ⊢
          clear K7 hpo x_0 x_1 x_2 x_3 f0 f1 f2 f3 f4 f5 f6 f7 f8 f9 f10 f11 f12 f13 f14 f15 ff0 ff1 ff2 ff3 ff4 ff5 ff6 ff7 ff8 ff9 ff10 ff11 ff12 ff13 ff14 ff15 ng_0 ng_1 ng_2 ng_3
          clear oc2
          obtain ⟨m_0, m_1, m_2, m_3, m_4, m_5, m_6, m_7, m_8, m_9, m_10, m_11, m_12, m_13, m_14, m_15⟩ := (K8.blk (g := g8) (vs := [.bool sa1, .slice Aa1 na1 ca1, .bool za1, .slice Ba1 ma1 da1, .bool sx, .slice Ax nx cx, .bool zx, .slice Bx mx dx, .bool sc1, .slice Ac1 nc1 cc1, .bool zc1, .slice Bc1 mc1 dc1, .bool sd1, .slice Ad1 nd1 cd1, .bool zd1, .slice Bd1 md1 dd1]) (by simp)).c16
          obtain ⟨q_0, q_1, q_2, q_3, q_4, q_5, q_6, q_7⟩ := (K8.blk (g := w.heap.size) (vs := [.bool su, .slice Au nu cu, .bool zu, .slice Bu mu du, .bool sv, .slice Av nv cv, .bool zv, .slice Bv mv dv]) (by simp)).c8
          go_wp2_with fail
          refine (beam_through_ok sa1 Aa1 na1 ca1 la1 za1 Ba1 ma1 da1 ka1 1 sx Ax nx cx lx zx Bx mx dx kx xx sc1 Ac1 nc1 cc1 lc1 zc1 Bc1 mc1 dc1 kc1 0 sd1 Ad1 nd1 cd1 ld1 zd1 Bd1 md1 dd1 kd1 1 su Au nu cu lu zu Bu mu du ku xu sv Av nv cv lv zv Bv mv dv kv xv 148 (xu + xx) xv _ oa1 (Sz.one.mono (by decide)) ox (SX.out.mono (by have := LUV.out; omega)) oc1 (Sz.zero.mono (by decide)) od1 (Sz.one.mono (by decide)) ou (SU.out.mono (by have := LUV.out; omega)) ov (SV.out.mono (by have := LUV.out; omega)) (by decide) (by grind) ZV.out (spaces_ne xu xv) (Lib.hid (spaces_re xu xv xx)) (Lib.hid (spaces_im xu xv)) ((Sz.add SU.out SX.out).mono (by have := LUV.out; omega)) (SV.out.mono (by have := LUV.out; omega))).mono ?_
          rintro e9 v9 ⟨sg, Ag, ng, cg, lg, zg, Bg, mg, dg, kg, sh, Ah, nh, ch, lh, zh, Bh, mh, dh, kh, rfl, og, oh, hb⟩
          have hbx : Below v9.heap.size v9 (v9.alloc (.cells #[.bool sg, .slice Ag ng cg, .bool zg, .slice Bg mg dg, .bool sh, .slice Ah nh ch, .bool zh, .slice Bh mh dh] 28)) := (Below.refl _ _).alloc (Nat.le_refl _) _
          have K9 := ((K8.next hb).var (g := v9.heap.size) rfl [.bool sg, .slice Ag ng cg, .bool zg, .slice Bg mg dg, .bool sh, .slice Ah nh ch, .bool zh, .slice Bh mh dh] 28)
          replace og := og.next hbx
          replace oh := oh.next hbx
          replace ou := (ou.next hb).next hbx
          replace ov := (ov.next hb).next hbx
          replace ox := (ox.next hb).next hbx
          replace oe := (oe.next hb).next hbx
          replace oa1 := (oa1.next hb).next hbx
          replace oc1 := (oc1.next hb).next hbx
          replace od1 := (od1.next hb).next hbx
          replace oa2 := (oa2.next hb).next hbx
          replace ob2 := (ob2.next hb).next hbx
          replace od2 := (od2.next hb).next hbx
          clear K8 hb hbx m_0 m_1 m_2 m_3 m_4 m_5 m_6 m_7 m_8 m_9 m_10 m_11 m_12 m_13 m_14 m_15 q_0 q_1 q_2 q_3 q_4 q_5 q_6 q_7
          go_upto_region 10 with (fail)
          generalize v9.heap.size = g10 at K9 ⊢
          generalize v9.alloc (.cells #[.bool sg, .slice Ag ng cg, .bool zg, .slice Bg mg dg, .bool sh, .slice Ah nh ch, .bool zh, .slice Bh mh dh] 28) = u9 at K9 ou ov ox oe oa1 oc1 od1 oa2 ob2 od2 og oh ⊢
          clear oa1 oc1 od1
          replace K9 := K9.pick (L' := [(g10, [.bool sg, .slice Ag ng cg, .bool zg, .slice Bg mg dg, .bool sh, .slice Ah nh ch, .bool zh, .slice Bh mh dh]), (g9, [.bool sa2, .slice Aa2 na2 ca2, .bool za2, .slice Ba2 ma2 da2, .bool sb2, .slice Ab2 nb2 cb2, .bool zb2, .slice Bb2 mb2 db2, .bool se, .slice Ae ne ce, .bool ze, .slice Be me de, .bool sd2, .slice Ad2 nd2 cd2, .bool zd2, .slice Bd2 md2 dd2]), (w.heap.size + 1, [.bool sx, .slice Ax nx cx, .bool zx, .slice Bx mx dx]), (w.heap.size, [.bool su, .slice Au nu cu, .bool zu, .slice Bu mu du, .bool sv, .slice Av nv cv, .bool zv, .slice Bv mv dv])]) (l' := []) (by simp) (by simp)
          obtain ⟨m_0, m_1, m_2, m_3, m_4, m_5, m_6, m_7, m_8, m_9, m_10, m_11, m_12, m_13, m_14, m_15⟩ := (K9.blk (g := g9) (vs := [.bool sa2, .slice Aa2 na2 ca2, .bool za2, .slice Ba2 ma2 da2, .bool sb2, .slice Ab2 nb2 cb2, .bool zb2, .slice Bb2 mb2 db2, .bool se, .slice Ae ne ce, .bool ze, .slice Be me de, .bool sd2, .slice Ad2 nd2 cd2, .bool zd2, .slice Bd2 md2 dd2]) (by simp)).c16
          obtain ⟨q_0, q_1, q_2, q_3, q_4, q_5, q_6, q_7⟩ := (K9.blk (g := w.heap.size) (vs := [.bool su, .slice Au nu cu, .bool zu, .slice Bu mu du, .bool sv, .slice Av nv cv, .bool zv, .slice Bv mv dv]) (by simp)).c8
          go_wp2_with fail
          refine (beam_through_ok sa2 Aa2 na2 ca2 la2 za2 Ba2 ma2 da2 ka2 1 sb2 Ab2 nb2 cb2 lb2 zb2 Bb2 mb2 db2 kb2 0 se Ae ne ce le ze Be me de ke (-xx) sd2 Ad2 nd2 cd2 ld2 zd2 Bd2 md2 dd2 kd2 1 su Au nu cu lu zu Bu mu du ku xu sv Av nv cv lv zv Bv mv dv kv xv 148 (lensR xu xv xx) (lensI xu xv xx) _ oa2 (Sz.one.mono (by decide)) ob2 (Sz.zero.mono (by decide)) oe (SO.out.mono (by have := LUV.out; omega)) od2 (Sz.one.mono (by decide)) ou (SU.out.mono (by have := LUV.out; omega)) ov (SV.out.mono (by have := LUV.out; omega)) (by decide) (by grind) ZV.out HN.out (Lib.hid rfl) (Lib.hid rfl) ((lensR_sz SU.out SV.out SO.out HN.out).mono (by have := LUV.out; omega)) ((lensI_sz SU.out SV.out SO.out HN.out).mono (by have := LUV.out; omega))).mono ?_
          rintro e10 v10 ⟨si, Ai, ni, ci, li, zi, Bi, mi, di, ki, sj, Aj, nj, cj, lj, zj, Bj, mj, dj, kj, rfl, oi, oj, hb⟩
          have hbx : Below v10.heap.size v10 (v10.alloc (.cells #[.bool si, .slice Ai ni ci, .bool zi, .slice Bi mi di, .bool sj, .slice Aj nj cj, .bool zj, .slice Bj mj dj] 28)) := (Below.refl _ _).alloc (Nat.le_refl _) _
          have K10 := ((K9.next hb).var (g := v10.heap.size) rfl [.bool si, .slice Ai ni ci, .bool zi, .slice Bi mi di, .bool sj, .slice Aj nj cj, .bool zj, .slice Bj mj dj] 28)
          replace oi := oi.next hbx
          replace oj := oj.next hbx
          replace ou := (ou.next hb).next hbx
          replace ov := (ov.next hb).next hbx
          replace ox := (ox.next hb).next hbx
          replace oe := (oe.next hb).next hbx
          replace oa2 := (oa2.next hb).next hbx
          replace ob2 := (ob2.next hb).next hbx
          replace od2 := (od2.next hb).next hbx
          replace og := (og.next hb).next hbx
          replace oh := (oh.next hb).next hbx
          clear K9 hb hbx m_0 m_1 m_2 m_3 m_4 m_5 m_6 m_7 m_8 m_9 m_10 m_11 m_12 m_13 m_14 m_15 q_0 q_1 q_2 q_3 q_4 q_5 q_6 q_7
          go_upto_region 11 with (fail)
          generalize v10.heap.size = g12 at K10 ⊢
          generalize v10.alloc (.cells #[.bool si, .slice Ai ni ci, .bool zi, .slice Bi mi di, .bool sj, .slice Aj nj cj, .bool zj, .slice Bj mj dj] 28) = u10 at K10 ou ov ox oe oa2 ob2 od2 og oh oi oj ⊢
          clear oa2 ob2 oe od2
          replace K10 := K10.pick (L' := [(g12, [.bool si, .slice Ai ni ci, .bool zi, .slice Bi mi di, .bool sj, .slice Aj nj cj, .bool zj, .slice Bj mj dj]), (g10, [.bool sg, .slice Ag ng cg, .bool zg, .slice Bg mg dg, .bool sh, .slice Ah nh ch, .bool zh, .slice Bh mh dh]), (w.heap.size + 1, [.bool sx, .slice Ax nx cx, .bool zx, .slice Bx mx dx]), (w.heap.size, [.bool su, .slice Au nu cu, .bool zu, .slice Bu mu du, .bool sv, .slice Av nv cv, .bool zv, .slice Bv mv dv])]) (l' := []) (by simp) (by simp)
          obtain ⟨q_0, q_1, q_2, q_3, q_4, q_5, q_6, q_7⟩ := (K10.blk (g := w.heap.size) (vs := [.bool su, .slice Au nu cu, .bool zu, .slice Bu mu du, .bool sv, .slice Av nv cv, .bool zv, .slice Bv mv dv]) (by simp)).c8
          go_wp2_with fail
          refine (beam_waist_ok su Au nu cu lu zu Bu mu du ku xu sv Av nv cv lv zv Bv mv dv kv xv _ ou ov ZV.out).mono ?_
          rintro e11 v11 ⟨sk, Ak, nk, ck, lk, zk, Bk, mk, dk, kk, sl, Al, nl, cl, ll, zl, Bl, ml, dl, kl, rfl, ok, ol, hb⟩
          have hbx : Below v11.heap.size v11 ((v11.alloc (.cells #[.bool sk, .slice Ak nk ck, .bool zk, .slice Bk mk dk] 26)).alloc (.cells #[.bool sl, .slice Al nl cl, .bool zl, .slice Bl ml dl] 26)) := ((Below.refl _ _).alloc (Nat.le_refl _) _).alloc (by simp) _
          have K11 := (((K10.next hb).var (g := v11.heap.size) rfl [.bool sk, .slice Ak nk ck, .bool zk, .slice Bk mk dk] 26).var (g := v11.heap.size + 1) (by simp) [.bool sl, .slice Al nl cl, .bool zl, .slice Bl ml dl] 26)
          replace ok := ok.next hbx
          replace ol := ol.next hbx
          replace ou := (ou.next hb).next hbx
          replace ov := (ov.next hb).next hbx
          replace ox := (ox.next hb).next hbx
          replace og := (og.next hb).next hbx
          replace oh := (oh.next hb).next hbx
          replace oi := (oi.next hb).next hbx
          replace oj := (oj.next hb).next hbx
          clear K10 hb hbx q_0 q_1 q_2 q_3 q_4 q_5 q_6 q_7
          go_upto_region 12 with (fail)
          generalize v11.heap.size = g14 at K11 ⊢
          generalize (v11.alloc (.cells #[.bool sk, .slice Ak nk ck, .bool zk, .slice Bk mk dk] 26)).alloc (.cells #[.bool sl, .slice Al nl cl, .bool zl, .slice Bl ml dl] 26) = u11 at K11 ou ov ox og oh oi oj ok ol ⊢
          obtain ⟨q_0, q_1, q_2, q_3, q_4, q_5, q_6, q_7⟩ := (K11.blk (g := g10) (vs := [.bool sg, .slice Ag ng cg, .bool zg, .slice Bg mg dg, .bool sh, .slice Ah nh ch, .bool zh, .slice Bh mh dh]) (by simp)).c8
          go_wp2_with fail
          refine (beam_waist_ok sg Ag ng cg lg zg Bg mg dg kg (xu + xx) sh Ah nh ch lh zh Bh mh dh kh xv _ og oh ZV.out).mono ?_
          rintro e12 v12 ⟨sm, Am, nm, cm, lm, zm, Bm, mm, dm, km, sn, An, nn, cn, ln, zn, Bn, mn, dn, kn, rfl, om, on, hb⟩
          have hbx : Below v12.heap.size v12 ((v12.alloc (.cells #[.bool sm, .slice Am nm cm, .bool zm, .slice Bm mm dm] 26)).alloc (.cells #[.bool sn, .slice An nn cn, .bool zn, .slice Bn mn dn] 26)) := ((Below.refl _ _).alloc (Nat.le_refl _) _).alloc (by simp) _
          have K12 := (((K11.next hb).var (g := v12.heap.size) rfl [.bool sm, .slice Am nm cm, .bool zm, .slice Bm mm dm] 26).var (g := v12.heap.size + 1) (by simp) [.bool sn, .slice An nn cn, .bool zn, .slice Bn mn dn] 26)
          replace om := om.next hbx
          replace on := on.next hbx
          replace ou := (ou.next hb).next hbx
          replace ov := (ov.next hb).next hbx
          replace ox := (ox.next hb).next hbx
          replace og := (og.next hb).next hbx
          replace oh := (oh.next hb).next hbx
          replace oi := (oi.next hb).next hbx
          replace oj := (oj.next hb).next hbx
          replace ok := (ok.next hb).next hbx
          replace ol := (ol.next hb).next hbx
          clear K11 hb hbx q_0 q_1 q_2 q_3 q_4 q_5 q_6 q_7
          go_upto_region 13 with (fail)
          generalize v12.heap.size = g17 at K12 ⊢
          generalize (v12.alloc (.cells #[.bool sm, .slice Am nm cm, .bool zm, .slice Bm mm dm] 26)).alloc (.cells #[.bool sn, .slice An nn cn, .bool zn, .slice Bn mn dn] 26) = u12 at K12 ou ov ox og oh oi oj ok ol om on ⊢
          clear og oh
          replace K12 := K12.pick (L' := [(g17 + 1, [.bool sn, .slice An nn cn, .bool zn, .slice Bn mn dn]), (g17, [.bool sm, .slice Am nm cm, .bool zm, .slice Bm mm dm]), (g14 + 1, [.bool sl, .slice Al nl cl, .bool zl, .slice Bl ml dl]), (g14, [.bool sk, .slice Ak nk ck, .bool zk, .slice Bk mk dk]), (g12, [.bool si, .slice Ai ni ci, .bool zi, .slice Bi mi di, .bool sj, .slice Aj nj cj, .bool zj, .slice Bj mj dj]), (w.heap.size + 1, [.bool sx, .slice Ax nx cx, .bool zx, .slice Bx mx dx]), (w.heap.size, [.bool su, .slice Au nu cu, .bool zu, .slice Bu mu du, .bool sv, .slice Av nv cv, .bool zv, .slice Bv mv dv])]) (l' := []) (by simp) (by simp)
          obtain ⟨⟨y_0, y_1, y_2, y_3⟩, _, _⟩ := (K12.blk (g := g14) (vs := [.bool sk, .slice Ak nk ck, .bool zk, .slice Bk mk dk]) (by simp)).four
          obtain ⟨⟨x_0, x_1, x_2, x_3⟩, _, _⟩ := (K12.blk (g := w.heap.size + 1) (vs := [.bool sx, .slice Ax nx cx, .bool zx, .slice Bx mx dx]) (by simp)).four
          go_wp2_with fail
          refine (frac_add_any sk Ak nk ck lk zk Bk mk dk kk sx Ax nx cx lx zx Bx mx dx kx xu xx (xu + xx) _ ok ox ((Sz.add SU.out SX.out).mono (by have := LUV.out; omega)) (Lib.hid rfl)).mono ?_
          rintro e13 v13 ⟨sfa, Afa, nfa, cfa, lfa, zfa, Bfa, mfa, dfa, kfa, rfl, ofa, hb⟩
          have hbx : Below v13.heap.size v13 (v13.alloc (.cells #[.bool sfa, .slice Afa nfa cfa, .bool zfa, .slice Bfa mfa dfa] 26)) := (Below.refl _ _).alloc (Nat.le_refl _) _
          have K13 := ((K12.next hb).var (g := v13.heap.size) rfl [.bool sfa, .slice Afa nfa cfa, .bool zfa, .slice Bfa mfa dfa] 26)
          replace ofa := ofa.next hbx
          replace ou := (ou.next hb).next hbx
          replace ov := (ov.next hb).next hbx
          replace ox := (ox.next hb).next hbx
          replace oi := (oi.next hb).next hbx
          replace oj := (oj.next hb).next hbx
          replace ok := (ok.next hb).next hbx
          replace ol := (ol.next hb).next hbx
          replace om := (om.next hb).next hbx
          replace on := (on.next hb).next hbx
          clear K12 hb hbx y_0 y_1 y_2 y_3 x_0 x_1 x_2 x_3
          go_upto_region 14 with (fail)
          generalize v13.heap.size = g20 at K13 ⊢
          generalize v13.alloc (.cells #[.bool sfa, .slice Afa nfa cfa, .bool zfa, .slice Bfa mfa dfa] 26) = u13 at K13 ou ov ox oi oj ok ol om on ofa ⊢
          clear ok
          replace K13 := K13.pick (L' := [(g20, [.bool sfa, .slice Afa nfa cfa, .bool zfa, .slice Bfa mfa dfa]), (g17 + 1, [.bool sn, .slice An nn cn, .bool zn, .slice Bn mn dn]), (g17, [.bool sm, .slice Am nm cm, .bool zm, .slice Bm mm dm]), (g14 + 1, [.bool sl, .slice Al nl cl, .bool zl, .slice Bl ml dl]), (g12, [.bool si, .slice Ai ni ci, .bool zi, .slice Bi mi di, .bool sj, .slice Aj nj cj, .bool zj, .slice Bj mj dj]), (w.heap.size + 1, [.bool sx, .slice Ax nx cx, .bool zx, .slice Bx mx dx]), (w.heap.size, [.bool su, .slice Au nu cu, .bool zu, .slice Bu mu du, .bool sv, .slice Av nv cv, .bool zv, .slice Bv mv dv])]) (l' := []) (by simp) (by simp)
          obtain ⟨q_0, q_1, q_2, q_3, q_4, q_5, q_6, q_7⟩ := (K13.blk (g := w.heap.size) (vs := [.bool su, .slice Au nu cu, .bool zu, .slice Bu mu du, .bool sv, .slice Av nv cv, .bool zv, .slice Bv mv dv]) (by simp)).c8
          go_wp2_with fail
          refine (beam_size_ok su Au nu cu lu zu Bu mu du ku xu sv Av nv cv lv zv Bv mv dv kv xv 148 ((xu * xu + xv * xv) / xv) _ ou (SU.out.mono (by have := LUV.out; omega)) ov (SV.out.mono (by have := LUV.out; omega)) (by decide) ZV.out (by have := ZV.out; grind) (Lib.hid rfl) ((Sz.div (Sz.add (Sz.mul SU.out SU.out) (Sz.mul SV.out SV.out)) SV.out (by have := ZV.out; grind)).mono (by have := LUV.out; omega))).mono ?_
          rintro e14 v14 ⟨sp, Ap, np, cp, lp, zp, Bp, mp, dp, kp, rfl, op, hb⟩
          have hbx : Below v14.heap.size v14 (v14.alloc (.cells #[.bool sp, .slice Ap np cp, .bool zp, .slice Bp mp dp] 26)) := (Below.refl _ _).alloc (Nat.le_refl _) _
          have K14 := ((K13.next hb).var (g := v14.heap.size) rfl [.bool sp, .slice Ap np cp, .bool zp, .slice Bp mp dp] 26)
          replace op := op.next hbx
          replace ou := (ou.next hb).next hbx
          replace ov := (ov.next hb).next hbx
          replace ox := (ox.next hb).next hbx
          replace oi := (oi.next hb).next hbx
          replace oj := (oj.next hb).next hbx
          replace ol := (ol.next hb).next hbx
          replace om := (om.next hb).next hbx
          replace on := (on.next hb).next hbx
          replace ofa := (ofa.next hb).next hbx
          clear K13 hb hbx q_0 q_1 q_2 q_3 q_4 q_5 q_6 q_7
          go_upto_region 15 with (fail)
          generalize v14.heap.size = g22 at K14 ⊢
          generalize v14.alloc (.cells #[.bool sp, .slice Ap np cp, .bool zp, .slice Bp mp dp] 26) = u14 at K14 ou ov ox oi oj ol om on ofa op ⊢
          obtain ⟨q_0, q_1, q_2, q_3, q_4, q_5, q_6, q_7⟩ := (K14.blk (g := g12) (vs := [.bool si, .slice Ai ni ci, .bool zi, .slice Bi mi di, .bool sj, .slice Aj nj cj, .bool zj, .slice Bj mj dj]) (by simp)).c8
          go_wp2_with fail
          refine (beam_size_ok si Ai ni ci li zi Bi mi di ki (lensR xu xv xx) sj Aj nj cj lj zj Bj mj dj kj (lensI xu xv xx) 2048 ((xu * xu + xv * xv) / xv) _ oi ((lensR_sz SU.out SV.out SO.out HN.out).mono (by have := LUV.out; omega)) oj ((lensI_sz SU.out SV.out SO.out HN.out).mono (by have := LUV.out; omega)) (by decide) HP.out (by have := HP.out; grind) (Lib.hid (lens_size ZV.out)) ((Sz.div (Sz.add (Sz.mul SU.out SU.out) (Sz.mul SV.out SV.out)) SV.out (by have := ZV.out; grind)).mono (by have := LUV.out; omega))).mono ?_
          rintro e15 v15 ⟨sq, Aq, nq, cq, lq, zq, Bq, mq, dq, kq, rfl, oq, hb⟩
          have hbx : Below v15.heap.size v15 (v15.alloc (.cells #[.bool sq, .slice Aq nq cq, .bool zq, .slice Bq mq dq] 26)) := (Below.refl _ _).alloc (Nat.le_refl _) _
          have K15 := ((K14.next hb).var (g := v15.heap.size) rfl [.bool sq, .slice Aq nq cq, .bool zq, .slice Bq mq dq] 26)
          replace oq := oq.next hbx
          replace ou := (ou.next hb).next hbx
          replace ov := (ov.next hb).next hbx
          replace ox := (ox.next hb).next hbx
          replace oi := (oi.next hb).next hbx
          replace oj := (oj.next hb).next hbx
          replace ol := (ol.next hb).next hbx
          replace om := (om.next hb).next hbx
          replace on := (on.next hb).next hbx
          replace ofa := (ofa.next hb).next hbx
          replace op := (op.next hb).next hbx
          clear K14 hb hbx q_0 q_1 q_2 q_3 q_4 q_5 q_6 q_7
          go_upto_region 16 with (fail)
          generalize v15.heap.size = g24 at K15 ⊢
          generalize v15.alloc (.cells #[.bool sq, .slice Aq nq cq, .bool zq, .slice Bq mq dq] 26) = u15 at K15 ou ov ox oi oj ol om on ofa op oq ⊢
          obtain ⟨q_0, q_1, q_2, q_3, q_4, q_5, q_6, q_7⟩ := (K15.blk (g := w.heap.size) (vs := [.bool su, .slice Au nu cu, .bool zu, .slice Bu mu du, .bool sv, .slice Av nv cv, .bool zv, .slice Bv mv dv]) (by simp)).c8
          go_wp2_with fail
          refine (beam_curve_ok su Au nu cu lu zu Bu mu du ku xu sv Av nv cv lv zv Bv mv dv kv xv 148 (xu / (xu * xu + xv * xv)) _ ou (SU.out.mono (by have := LUV.out; omega)) ov (SV.out.mono (by have := LUV.out; omega)) (by decide) ZV.out HD.out (Lib.hid rfl) ((Sz.div SU.out (Sz.add (Sz.mul SU.out SU.out) (Sz.mul SV.out SV.out)) HD.out).mono (by have := LUV.out; omega))).mono ?_
          rintro e16 v16 ⟨sr, Ar, nr, cr, lr, zr, Br, mr, dr, kr, rfl, or, hb⟩
          have hbx : Below v16.heap.size v16 (v16.alloc (.cells #[.bool sr, .slice Ar nr cr, .bool zr, .slice Br mr dr] 26)) := (Below.refl _ _).alloc (Nat.le_refl _) _
          have K16 := ((K15.next hb).var (g := v16.heap.size) rfl [.bool sr, .slice Ar nr cr, .bool zr, .slice Br mr dr] 26)
          replace or := or.next hbx
          replace ou := (ou.next hb).next hbx
          replace ov := (ov.next hb).next hbx
          replace ox := (ox.next hb).next hbx
          replace oi := (oi.next hb).next hbx
          replace oj := (oj.next hb).next hbx
          replace ol := (ol.next hb).next hbx
          replace om := (om.next hb).next hbx
          replace on := (on.next hb).next hbx
          replace ofa := (ofa.next hb).next hbx
          replace op := (op.next hb).next hbx
          replace oq := (oq.next hb).next hbx
          clear K15 hb hbx q_0 q_1 q_2 q_3 q_4 q_5 q_6 q_7
          go_upto_region 17 with (fail)
          generalize v16.heap.size = g26 at K16 ⊢
          generalize v16.alloc (.cells #[.bool sr, .slice Ar nr cr, .bool zr, .slice Br mr dr] 26) = u16 at K16 ou ov ox oi oj ol om on ofa op oq or ⊢
          clear ou ov
          obtain ⟨q_0, q_1, q_2, q_3, q_4, q_5, q_6, q_7⟩ := (K16.blk (g := g12) (vs := [.bool si, .slice Ai ni ci, .bool zi, .slice Bi mi di, .bool sj, .slice Aj nj cj, .bool zj, .slice Bj mj dj]) (by simp)).c8
          go_wp2_with fail
          refine (beam_curve_ok si Ai ni ci li zi Bi mi di ki (lensR xu xv xx) sj Aj nj cj lj zj Bj mj dj kj (lensI xu xv xx) 2048 (xu / (xu * xu + xv * xv) - xx) _ oi ((lensR_sz SU.out SV.out SO.out HN.out).mono (by have := LUV.out; omega)) oj ((lensI_sz SU.out SV.out SO.out HN.out).mono (by have := LUV.out; omega)) (by decide) HP.out (far_pos HP.out) (Lib.hid (lens_curve ZV.out)) ((Sz.sub (Sz.div SU.out (Sz.add (Sz.mul SU.out SU.out) (Sz.mul SV.out SV.out)) HD.out) SX.out).mono (by have := LUV.out; omega))).mono ?_
          rintro e17 v17 ⟨ss, As, ns, cs, ls, zs, Bs, ms, ds, ks, rfl, os, hb⟩
          have hbx : Below v17.heap.size v17 (v17.alloc (.cells #[.bool ss, .slice As ns cs, .bool zs, .slice Bs ms ds] 26)) := (Below.refl _ _).alloc (Nat.le_refl _) _
          have K17 := ((K16.next hb).var (g := v17.heap.size) rfl [.bool ss, .slice As ns cs, .bool zs, .slice Bs ms ds] 26)
          replace os := os.next hbx
          replace ox := (ox.next hb).next hbx
          replace oi := (oi.next hb).next hbx
          replace oj := (oj.next hb).next hbx
          replace ol := (ol.next hb).next hbx
          replace om := (om.next hb).next hbx
          replace on := (on.next hb).next hbx
          replace ofa := (ofa.next hb).next hbx
          replace op := (op.next hb).next hbx
          replace oq := (oq.next hb).next hbx
          replace or := (or.next hb).next hbx
          clear K16 hb hbx q_0 q_1 q_2 q_3 q_4 q_5 q_6 q_7
          go_upto_region 18 with (fail)
          generalize v17.heap.size = g28 at K17 ⊢
          generalize v17.alloc (.cells #[.bool ss, .slice As ns cs, .bool zs, .slice Bs ms ds] 26) = u17 at K17 ox oi oj ol om on ofa op oq or os ⊢
          clear oi oj
          replace K17 := K17.pick (L' := [(g28, [.bool ss, .slice As ns cs, .bool zs, .slice Bs ms ds]), (g26, [.bool sr, .slice Ar nr cr, .bool zr, .slice Br mr dr]), (g24, [.bool sq, .slice Aq nq cq, .bool zq, .slice Bq mq dq]), (g22, [.bool sp, .slice Ap np cp, .bool zp, .slice Bp mp dp]), (g20, [.bool sfa, .slice Afa nfa cfa, .bool zfa, .slice Bfa mfa dfa]), (g17 + 1, [.bool sn, .slice An nn cn, .bool zn, .slice Bn mn dn]), (g17, [.bool sm, .slice Am nm cm, .bool zm, .slice Bm mm dm]), (g14 + 1, [.bool sl, .slice Al nl cl, .bool zl, .slice Bl ml dl]), (w.heap.size + 1, [.bool sx, .slice Ax nx cx, .bool zx, .slice Bx mx dx])]) (l' := []) (by simp) (by simp)
          obtain ⟨⟨y_0, y_1, y_2, y_3⟩, _, _⟩ := (K17.blk (g := g26) (vs := [.bool sr, .slice Ar nr cr, .bool zr, .slice Br mr dr]) (by simp)).four
          obtain ⟨⟨x_0, x_1, x_2, x_3⟩, _, _⟩ := (K17.blk (g := w.heap.size + 1) (vs := [.bool sx, .slice Ax nx cx, .bool zx, .slice Bx mx dx]) (by simp)).four
          go_wp2_with fail
          refine (frac_sub_any sr Ar nr cr lr zr Br mr dr kr sx Ax nx cx lx zx Bx mx dx kx (xu / (xu * xu + xv * xv)) xx (xu / (xu * xu + xv * xv) - xx) _ or ox ((Sz.sub (Sz.div SU.out (Sz.add (Sz.mul SU.out SU.out) (Sz.mul SV.out SV.out)) HD.out) SX.out).mono (by have := LUV.out; omega)) (Lib.hid rfl)).mono ?_
          rintro e18 v18 ⟨st, At, nt, ct, lt, zt, Bt, mt, dt, kt, rfl, ot, hb⟩
          have hbx : Below v18.heap.size v18 (v18.alloc (.cells #[.bool st, .slice At nt ct, .bool zt, .slice Bt mt dt] 26)) := (Below.refl _ _).alloc (Nat.le_refl _) _
          have K18 := ((K17.next hb).var (g := v18.heap.size) rfl [.bool st, .slice At nt ct, .bool zt, .slice Bt mt dt] 26)
          replace ot := ot.next hbx
          replace ox := (ox.next hb).next hbx
          replace ol := (ol.next hb).next hbx
          replace om := (om.next hb).next hbx
          replace on := (on.next hb).next hbx
          replace ofa := (ofa.next hb).next hbx
          replace op := (op.next hb).next hbx
          replace oq := (oq.next hb).next hbx
          replace or := (or.next hb).next hbx
          replace os := (os.next hb).next hbx
          clear K17 hb hbx y_0 y_1 y_2 y_3 x_0 x_1 x_2 x_3
          go_upto_region 19 with (fail)
          generalize v18.heap.size = g30 at K18 ⊢
          generalize v18.alloc (.cells #[.bool st, .slice At nt ct, .bool zt, .slice Bt mt dt] 26) = u18 at K18 ox ol om on ofa op oq or os ot ⊢
          clear or ox
          obtain ⟨⟨y_0, y_1, y_2, y_3⟩, _, _⟩ := (K18.blk (g := g17) (vs := [.bool sm, .slice Am nm cm, .bool zm, .slice Bm mm dm]) (by simp)).four
          obtain ⟨⟨x_0, x_1, x_2, x_3⟩, _, _⟩ := (K18.blk (g := g20) (vs := [.bool sfa, .slice Afa nfa cfa, .bool zfa, .slice Bfa mfa dfa]) (by simp)).four
          go_wp2_with fail
          refine (same_frac_ok sm Am nm cm lm zm Bm mm dm km sfa Afa nfa cfa lfa zfa Bfa mfa dfa kfa (xu + xx) _ om ofa).mono ?_
          rintro e31 v31 ⟨rfl, hb⟩
          have K31 := K18.next hb
          clear om ofa
          replace ol := ol.next hb
          replace on := on.next hb
          replace op := op.next hb
          replace oq := oq.next hb
          replace os := os.next hb
          replace ot := ot.next hb
          clear K18 hb y_0 y_1 y_2 y_3 x_0 x_1 x_2 x_3
          obtain ⟨⟨y_0, y_1, y_2, y_3⟩, _, _⟩ := (K31.blk (g := g14 + 1) (vs := [.bool sl, .slice Al nl cl, .bool zl, .slice Bl ml dl]) (by simp)).four
          obtain ⟨⟨x_0, x_1, x_2, x_3⟩, _, _⟩ := (K31.blk (g := g17 + 1) (vs := [.bool sn, .slice An nn cn, .bool zn, .slice Bn mn dn]) (by simp)).four
          go_wp2_with fail
          refine (same_frac_ok sl Al nl cl ll zl Bl ml dl kl sn An nn cn ln zn Bn mn dn kn xv _ ol on).mono ?_
          rintro e32 v32 ⟨rfl, hb⟩
          have K32 := K31.next hb
          clear ol on
          replace op := op.next hb
          replace oq := oq.next hb
          replace os := os.next hb
          replace ot := ot.next hb
          clear K31 hb y_0 y_1 y_2 y_3 x_0 x_1 x_2 x_3
          obtain ⟨⟨y_0, y_1, y_2, y_3⟩, _, _⟩ := (K32.blk (g := g22) (vs := [.bool sp, .slice Ap np cp, .bool zp, .slice Bp mp dp]) (by simp)).four
          obtain ⟨⟨x_0, x_1, x_2, x_3⟩, _, _⟩ := (K32.blk (g := g24) (vs := [.bool sq, .slice Aq nq cq, .bool zq, .slice Bq mq dq]) (by simp)).four
          go_wp2_with fail
          refine (same_frac_ok sp Ap np cp lp zp Bp mp dp kp sq Aq nq cq lq zq Bq mq dq kq ((xu * xu + xv * xv) / xv) _ op oq).mono ?_
          rintro e33 v33 ⟨rfl, hb⟩
          have K33 := K32.next hb
          clear op oq
          replace os := os.next hb
          replace ot := ot.next hb
          clear K32 hb y_0 y_1 y_2 y_3 x_0 x_1 x_2 x_3
          obtain ⟨⟨y_0, y_1, y_2, y_3⟩, _, _⟩ := (K33.blk (g := g28) (vs := [.bool ss, .slice As ns cs, .bool zs, .slice Bs ms ds]) (by simp)).four
          obtain ⟨⟨x_0, x_1, x_2, x_3⟩, _, _⟩ := (K33.blk (g := g30) (vs := [.bool st, .slice At nt ct, .bool zt, .slice Bt mt dt]) (by simp)).four
          go_wp2_with fail
          refine (same_frac_ok ss As ns cs ls zs Bs ms ds ks st At nt ct lt zt Bt mt dt kt (xu / (xu * xu + xv * xv) - xx) _ os ot).mono ?_
          rintro e34 v34 ⟨rfl, hb⟩
          have K34 := K33.next hb
          clear os ot
          clear K33 hb y_0 y_1 y_2 y_3 x_0 x_1 x_2 x_3
          go_wp2_with fail
          refine (alive15 _).mono ?_
          rintro e9 w9 ⟨rfl, hb9⟩
          go_wp2_with fail
          go_ret
          exact ⟨rfl, below_next K34.1 hb9⟩
end Go.Proofs.Ytejlicacndpfpaa
