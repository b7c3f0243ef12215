/-
  A fraction of two numbers (frac.Make, frac.Of), a quotient by nought, what a law holds of a span and a fraction.
-/
import Derived.Test.YtjcjphgpmpjmbaaGreatDoorSpHP
import Derived.Test.YtjcjphgpmpjmbaaGreatDoorExZ
namespace Go.Proofs.YtjcjphgpmpjmbaaGreatDoor
open Go.RowKit

theorem ex_check_int (neg : Bool) (A : Option Addr) (n c : Nat) (z : Int) (w : World) (h : IsInt w neg A n c z) (hn : n ≤ 2048) : Calls Tryz.prog 99 #[.agg #[.bool neg, .slice A n c]] w (RetV w (.int .i64 0)) := by
  obtain ⟨l, h1, h2, h3, _⟩ := h
  have hl := h1.len
  have := ex_check_sl neg A n c l w h1 (by omega)
  rw [chk_ok ⟨by omega, h2, h3⟩] at this
  exact this
set_option maxRecDepth 100000 in
set_option maxHeartbeats 1600000 in
theorem frac_make_any (neg neg' : Bool) (A A' : Option Addr) (n c n' c' : Nat) (x y : Int) (r : Rat) (w : World) (hx : IsInt w neg A n c x) (hy : IsInt w neg' A' n' c' y) (hn : n ≤ 2048) (hn' : n' ≤ 2048) (h0 : Hid (0 < y)) (hr : Hid (Rat.divInt x y = r)) (hs : Sz r 2048) :
    Calls Tryz.prog 80 #[.agg #[.bool neg, .slice A n c], .agg #[.bool neg', .slice A' n' c']] w (RetFo w r) := by
  have K0 := (((((Mm.nil w).int hx).int hy).var (g := w.heap.size) rfl [.bool neg, .slice A n c] 27).var (g := w.heap.size + 1) (by simp) [.bool neg', .slice A' n' c'] 27).var (g := w.heap.size + 1 + 1) (by simp) [.bool false, .slice none 0 0, .bool false, .slice none 0 0] 29
  have HS : Hid (y.sign = 1) := Lib.hid (Int.sign_eq_one_of_pos h0.out)
  have HY : Hid (y ≠ 0) := Lib.hid (by have := h0.out; omega)
  have HZ := Lib.hid hs
  clear hx hy h0 hs
  go_enter Tryz.func80, Tryz.ntmps80
  go_upto_region 1 with (fail)
  generalize ((w.alloc (.cells #[.bool neg, .slice A n c] 27)).alloc (.cells #[.bool neg', .slice A' n' c'] 27)).alloc (.cells #[.bool false, .slice none 0 0, .bool false, .slice none 0 0] 29) = w0 at K0 ⊢
  obtain ⟨qa, qb, _, _, _⟩ := (K0.blk (g := w.heap.size) (vs := [.bool neg, .slice A n c]) (by simp)).two
  go_wp2_with fail
  refine (ex_check_int neg A n c x _ (K0.at_ (by simp)) hn).mono ?_
  rintro e1 w1 ⟨rfl, hb1⟩
  have K1 := K0.next hb1
  clear K0 hb1 qa qb
  obtain ⟨qa, qb, _, _, _⟩ := (K1.blk (g := w.heap.size + 1) (vs := [.bool neg', .slice A' n' c']) (by simp)).two
  go_wp2_with fail
  refine (ex_check_int neg' A' n' c' y _ (K1.at_ (by simp)) hn').mono ?_
  rintro e2 w2 ⟨rfl, hb2⟩
  have K2 := K1.next hb2
  clear K1 hb2 qa qb
  obtain ⟨qa, qb, _, _, _⟩ := (K2.blk (g := w.heap.size + 1) (vs := [.bool neg', .slice A' n' c']) (by simp)).two
  go_wp2_with fail
  refine (ex_sign_any neg' A' n' c' y _ (K2.at_ (by simp))).mono ?_
  rintro e3 w3 ⟨rfl, hb3⟩
  rw [HS.out]
  have K3 := K2.next hb3
  clear K2 hb3 qa qb
  obtain ⟨qa, qb, _, _, _⟩ := (K3.blk (g := w.heap.size + 1) (vs := [.bool neg', .slice A' n' c']) (by simp)).two
  obtain ⟨pa, pb, _, _, _⟩ := (K3.blk (g := w.heap.size) (vs := [.bool neg, .slice A n c]) (by simp)).two
  go_wp2_with fail
  refine (rat_low_any neg neg' A A' n c n' c' x y r _ (K3.at_ (by simp)) (K3.at_ (by simp)) (by omega) (by omega) HY.out hr).mono ?_
  rintro e4 w4 ⟨neg4, A4, n4, c4, ne4, B4, m4, d4, rfl, I4, J4, hb4⟩
  have K4 := ((K3.next hb4).int J4).int I4
  clear K3 hb4 I4 J4 qa qb pa pb
  go_wp2_with fail
  refine (frac_answered_any neg4 ne4 A4 B4 n4 c4 m4 d4 r _ (K4.at_ (by simp)) (K4.at_ (by simp)) HZ.out).mono ?_
  rintro e2 w2 ⟨neg2, A2, n2, c2, ne2, B2, m2, d2, rfl, I2, J2, hb2⟩
  have K2 := ((K4.next hb2).int J2).int I2
  clear K4 hb2 I2 J2
  obtain ⟨⟨ra2, rb2, rc2, rd2⟩, ⟨re2, rf2, rg2, rh2⟩, ri2⟩ := (K2.blk (g := w.heap.size + 1 + 1) (vs := [.bool false, .slice none 0 0, .bool false, .slice none 0 0]) (by simp)).four
  go_wp2_with fail
  have KE := (K2.pick (L' := [(w.heap.size + 1 + 1, [.bool false, .slice none 0 0, .bool false, .slice none 0 0])]) (l' := [(neg2, A2, n2, c2, r.num), (ne2, B2, m2, d2, (r.den : Int))]) (by simp) (by simp)).set4 (by simp <;> omega) neg2 A2 n2 c2 ne2 B2 m2 d2
  exact bodyPost_ret (v := .tuple #[.agg #[.bool neg2, .slice A2 n2 c2, .bool ne2, .slice B2 m2 d2], .int .i64 0]) (by simp [results, Tryz.results80, go_sem, ra2, rb2, rc2, rd2]) rfl ⟨_, _, _, _, _, _, _, _, rfl, KE.at_ (by simp), KE.at_ (by simp), KE.1⟩
set_option maxRecDepth 100000 in
set_option maxHeartbeats 1600000 in
theorem frac_of_any (u v : Int) (r : Rat) (w : World) (hu : -9223372036854775808 ≤ u ∧ u ≤ 9223372036854775807) (hv : -9223372036854775808 ≤ v ∧ v ≤ 9223372036854775807) (h0 : 0 < v) (hr : Hid (Rat.divInt u v = r)) :
    Calls Tryz.prog 43 #[.int .i64 u, .int .i64 v] w (RetFk w r) := by
  have hs : Sz r 2048 := by
    rw [← hr.out]
    exact (Sz.divInt (m := 2) (by omega) (by omega) (by omega)).mono (by decide)
  have K0 := (Mm.nil w).var (g := w.heap.size) rfl [.bool false, .slice none 0 0, .bool false, .slice none 0 0] 29
  have H0 := Lib.hid h0
  have HS := Lib.hid hs
  clear h0 hs
  go_enter Tryz.func43, Tryz.ntmps43
  go_wp2_with fail
  refine (ex_of_any u _ hu).mono ?_
  rintro e1 w1 ⟨neg1, A1, n1, c1, rfl, I1, hb1⟩
  have hn1 : n1 ≤ 2 := int_len I1 (by omega)
  have K1 := (K0.next hb1).int I1
  clear K0 hb1 I1
  go_wp2_with fail
  refine (ex_of_any v _ hv).mono ?_
  rintro e2 w2 ⟨neg2, A2, n2, c2, rfl, I2, hb2⟩
  have hn2 : n2 ≤ 2 := int_len I2 (by omega)
  have K2 := (K1.next hb2).int I2
  clear K1 hb2 I2
  go_wp2_with fail
  refine (frac_make_any neg1 neg2 A1 A2 n1 c1 n2 c2 u v r _ (K2.at_ (by simp)) (K2.at_ (by simp)) (by omega) (by omega) H0 hr HS.out).mono ?_
  rintro e3 w3 ⟨neg3, A3, n3, c3, ne3, B3, m3, d3, rfl, I3, J3, hb3⟩
  have K3 := ((K2.next hb3).int J3).int I3
  clear K2 hb3 I3 J3
  obtain ⟨⟨ra, rb, rc, rd⟩, ⟨re, rf, rg, rh⟩, ri⟩ := (K3.blk (g := w.heap.size) (vs := [.bool false, .slice none 0 0, .bool false, .slice none 0 0]) (by simp)).four
  go_wp2_with fail
  have KE := (K3.pick (L' := [(w.heap.size, [.bool false, .slice none 0 0, .bool false, .slice none 0 0])]) (l' := [(neg3, A3, n3, c3, r.num), (ne3, B3, m3, d3, (r.den : Int))]) (by simp) (by simp)).set4 (by simp) neg3 A3 n3 c3 ne3 B3 m3 d3
  obtain ⟨l2, l3, O2⟩ := okF_of (KE.at_ (neg := neg3) (A := A3) (n := n3) (c := c3) (z := r.num) (by simp)) (KE.at_ (neg := ne3) (A := B3) (n := m3) (c := d3) (z := (r.den : Int)) (by simp)) HS.out
  exact bodyPost_ret (v := .tuple #[.agg #[.bool neg3, .slice A3 n3 c3, .bool ne3, .slice B3 m3 d3], .int .i64 0]) (by simp [results, Tryz.results43, go_sem, ra, rb, rc, rd]) rfl ⟨_, _, _, _, _, _, _, _, _, _, rfl, O2, KE.1⟩

/-! ### a quotient by nought -/
set_option maxRecDepth 100000 in
set_option maxHeartbeats 1600000 in
theorem quo1_nought (neg : Bool) (A : Option Addr) (n c : Nat) (l : List Nat) (neg' : Bool) (A' : Option Addr) (n' c' : Nat) (l' : List Nat) (nfg : Bool) (C : Option Addr) (p q : Nat) (k : List Nat) (nfg' : Bool) (C' : Option Addr) (p' q' : Nat) (k' : List Nat) (x : Rat) (w : World) (_hx : OkF w ((neg, A, n, c, l), (neg', A', n', c', l')) x) (hy : OkF w ((nfg, C, p, q, k), (nfg', C', p', q', k')) 0) :
    Calls Tryz.prog 55 #[.agg #[.bool neg, .slice A n c, .bool neg', .slice A' n' c'], .agg #[.bool nfg, .slice C p q, .bool nfg', .slice C' p' q']] w (RetV w (.tuple #[.agg #[.bool false, .slice none 0 0, .bool false, .slice none 0 0], .bool false])) := by
  have K0 := (((Mm.nil w).var (g := w.heap.size) rfl [.bool neg, .slice A n c, .bool neg', .slice A' n' c'] 29).var (g := w.heap.size + 1) (by simp) [.bool nfg, .slice C p q, .bool nfg', .slice C' p' q'] 29).var (g := w.heap.size + 1 + 1) (by simp) [.bool false, .slice none 0 0, .bool false, .slice none 0 0] 29
  have hy0 := hy.next K0.1
  clear hy
  go_enter Tryz.func55, Tryz.ntmps55
  go_upto_region 1 with (fail)
  generalize ((w.alloc (.cells #[.bool neg, .slice A n c, .bool neg', .slice A' n' c'] 29)).alloc (.cells #[.bool nfg, .slice C p q, .bool nfg', .slice C' p' q'] 29)).alloc (.cells #[.bool false, .slice none 0 0, .bool false, .slice none 0 0] 29) = w0 at K0 hy0 ⊢
  obtain ⟨j1, j2, j3⟩ := hy0.ints
  obtain ⟨⟨ya0, yb0, yc0, yd0⟩, _, _⟩ := (K0.blk (g := w.heap.size + 1) (vs := [.bool nfg, .slice C p q, .bool nfg', .slice C' p' q']) (by simp)).four
  go_wp2_with fail
  refine (rat_sign_any nfg nfg' C C' p q p' q' 0 0 _ j1 j2 (Lib.hid rfl)).mono ?_
  rintro e0 w1 ⟨rfl, hb0⟩
  have K1 := K0.next hb0
  clear K0 hb0
  obtain ⟨⟨ra1, rb1, rc1, rd1⟩, ⟨re1, rf1, rg1, rh1⟩, ri1⟩ := (K1.blk (g := w.heap.size + 1 + 1) (vs := [.bool false, .slice none 0 0, .bool false, .slice none 0 0]) (by simp)).four
  go_wp2_with fail
  exact bodyPost_ret (v := .tuple #[.agg #[.bool false, .slice none 0 0, .bool false, .slice none 0 0], .bool false]) (by simp [results, Tryz.results55, go_sem, ra1, rb1, rc1, rd1]) rfl ⟨rfl, by first | exact K1.1 | exact below_result (below_result K1.1 (by omega) _ _) (by omega) _ _ | exact (K1.set4 (by simp <;> omega) false none 0 0 false none 0 0).1⟩
set_option maxRecDepth 100000 in
set_option maxHeartbeats 3200000 in
theorem do_quo_nought (neg : Bool) (A : Option Addr) (n c : Nat) (l : List Nat) (neg' : Bool) (A' : Option Addr) (n' c' : Nat) (l' : List Nat) (nfg : Bool) (C : Option Addr) (p q : Nat) (k : List Nat) (nfg' : Bool) (C' : Option Addr) (p' q' : Nat) (k' : List Nat) (x : Rat) (w : World) (hx : OkF w ((neg, A, n, c, l), (neg', A', n', c', l')) x) (hy : OkF w ((nfg, C, p, q, k), (nfg', C', p', q', k')) 0) :
    Calls Tryz.prog 47 #[.func (.func 55) #[] #[], .agg #[.bool neg, .slice A n c, .bool neg', .slice A' n' c'], .agg #[.bool nfg, .slice C p q, .bool nfg', .slice C' p' q']] w (RetV w (.tuple #[.agg #[.bool false, .slice none 0 0, .bool false, .slice none 0 0], .int .i64 3])) := by
  have K0 := (((Mm.nil w).var (g := w.heap.size) rfl [.bool neg, .slice A n c, .bool neg', .slice A' n' c'] 29).var (g := w.heap.size + 1) (by simp) [.bool nfg, .slice C p q, .bool nfg', .slice C' p' q'] 29).var (g := w.heap.size + 1 + 1) (by simp) [.bool false, .slice none 0 0, .bool false, .slice none 0 0] 29
  have hx0 := hx.next K0.1
  have hy0 := hy.next K0.1
  have HO : Hid (okAll (two ((neg, A, n, c, l), (neg', A', n', c', l')) ((nfg, C, p, q, k), (nfg', C', p', q', k'))) 2 = true) := Lib.hid (by rw [okAll_two, hx.2.1, hy.2.1]; rfl)
  clear hx hy
  go_enter Tryz.func47, Tryz.ntmps47
  go_upto_region 1 with (fail)
  generalize hw0 : ((w.alloc (.cells #[.bool neg, .slice A n c, .bool neg', .slice A' n' c'] 29)).alloc (.cells #[.bool nfg, .slice C p q, .bool nfg', .slice C' p' q'] 29)).alloc (.cells #[.bool false, .slice none 0 0, .bool false, .slice none 0 0] 29) = w0 at K0 hx0 hy0 ⊢
  have hL := lfs_two w0 (g := w0.heap.size) rfl 29 hx0.1 hy0.1
  obtain ⟨⟨xa0, xb0, xc0, xd0⟩, _, _⟩ := (K0.blk (g := w.heap.size) (vs := [.bool neg, .slice A n c, .bool neg', .slice A' n' c']) (by simp)).four
  obtain ⟨⟨ya0, yb0, yc0, yd0⟩, _, _⟩ := (K0.blk (g := w.heap.size + 1) (vs := [.bool nfg, .slice C p q, .bool nfg', .slice C' p' q']) (by simp)).four
  go_wp2_with fail
  refine (rat_checks_any w0.heap.size 2 2 (two ((neg, A, n, c, l), (neg', A', n', c', l')) ((nfg, C, p, q, k), (nfg', C', p', q', k'))) _ hL (by decide) (by decide)).mono ?_
  rintro e1 w1 ⟨rfl, hb1⟩
  rw [HO.out]
  have hbx := below_box hb1
  have K1 := K0.next hbx
  have hx1 := hx0.next hbx
  have hy1 := hy0.next hbx
  clear K0 hx0 hy0 hb1 hbx hL hw0 xa0 xb0 xc0 xd0 ya0 yb0 yc0 yd0
  obtain ⟨⟨xa1, xb1, xc1, xd1⟩, _, _⟩ := (K1.blk (g := w.heap.size) (vs := [.bool neg, .slice A n c, .bool neg', .slice A' n' c']) (by simp)).four
  obtain ⟨⟨ya1, yb1, yc1, yd1⟩, _, _⟩ := (K1.blk (g := w.heap.size + 1) (vs := [.bool nfg, .slice C p q, .bool nfg', .slice C' p' q']) (by simp)).four
  go_wp2_with fail
  refine (quo1_nought neg A n c l neg' A' n' c' l' nfg C p q k nfg' C' p' q' k' x _ hx1 hy1).mono ?_
  rintro e2 w2 ⟨rfl, hb2⟩
  have K2 := K1.next hb2
  clear K1 hb2 hx1 hy1 xa1 xb1 xc1 xd1 ya1 yb1 yc1 yd1
  have K1 := K2.box (.cells #[.bool false, .slice none 0 0, .bool false, .slice none 0 0] 29)
  clear K2
  obtain ⟨⟨ra1, rb1, rc1, rd1⟩, ⟨re1, rf1, rg1, rh1⟩, ri1⟩ := (K1.blk (g := w.heap.size + 1 + 1) (vs := [.bool false, .slice none 0 0, .bool false, .slice none 0 0]) (by simp)).four
  go_wp2_with fail
  exact bodyPost_ret (v := .tuple #[.agg #[.bool false, .slice none 0 0, .bool false, .slice none 0 0], .int .i64 3]) (by simp [results, Tryz.results47, go_sem, ra1, rb1, rc1, rd1]) rfl ⟨rfl, by first | exact K1.1 | exact below_result (below_result K1.1 (by omega) _ _) (by omega) _ _ | exact (K1.set4 (by simp <;> omega) false none 0 0 false none 0 0).1⟩
set_option maxRecDepth 100000 in
set_option maxHeartbeats 3200000 in
theorem frac_quo_nought (neg : Bool) (A : Option Addr) (n c : Nat) (l : List Nat) (neg' : Bool) (A' : Option Addr) (n' c' : Nat) (l' : List Nat) (nfg : Bool) (C : Option Addr) (p q : Nat) (k : List Nat) (nfg' : Bool) (C' : Option Addr) (p' q' : Nat) (k' : List Nat) (x : Rat) (w : World) (hx : OkF w ((neg, A, n, c, l), (neg', A', n', c', l')) x) (hy : OkF w ((nfg, C, p, q, k), (nfg', C', p', q', k')) 0) :
    Calls Tryz.prog 24 #[.agg #[.bool neg, .slice A n c, .bool neg', .slice A' n' c'], .agg #[.bool nfg, .slice C p q, .bool nfg', .slice C' p' q']] w (RetV w (.tuple #[.agg #[.bool false, .slice none 0 0, .bool false, .slice none 0 0], .int .i64 3])) := by
  have K0 := (((Mm.nil w).var (g := w.heap.size) rfl [.bool neg, .slice A n c, .bool neg', .slice A' n' c'] 29).var (g := w.heap.size + 1) (by simp) [.bool nfg, .slice C p q, .bool nfg', .slice C' p' q'] 29).var (g := w.heap.size + 1 + 1) (by simp) [.bool false, .slice none 0 0, .bool false, .slice none 0 0] 29
  have hx0 := hx.next K0.1
  have hy0 := hy.next K0.1
  clear hx hy
  go_enter Tryz.func24, Tryz.ntmps24
  go_upto_region 1 with (fail)
  generalize ((w.alloc (.cells #[.bool neg, .slice A n c, .bool neg', .slice A' n' c'] 29)).alloc (.cells #[.bool nfg, .slice C p q, .bool nfg', .slice C' p' q'] 29)).alloc (.cells #[.bool false, .slice none 0 0, .bool false, .slice none 0 0] 29) = w0 at K0 hx0 hy0 ⊢
  obtain ⟨⟨xa0, xb0, xc0, xd0⟩, _, _⟩ := (K0.blk (g := w.heap.size) (vs := [.bool neg, .slice A n c, .bool neg', .slice A' n' c']) (by simp)).four
  obtain ⟨⟨ya0, yb0, yc0, yd0⟩, _, _⟩ := (K0.blk (g := w.heap.size + 1) (vs := [.bool nfg, .slice C p q, .bool nfg', .slice C' p' q']) (by simp)).four
  go_wp2_with fail
  refine (do_quo_nought neg A n c l neg' A' n' c' l' nfg C p q k nfg' C' p' q' k' x _ hx0 hy0).mono ?_
  rintro e2 w1 ⟨rfl, hb2⟩
  have K1 := K0.next hb2
  clear K0 hb2
  obtain ⟨⟨ra1, rb1, rc1, rd1⟩, ⟨re1, rf1, rg1, rh1⟩, ri1⟩ := (K1.blk (g := w.heap.size + 1 + 1) (vs := [.bool false, .slice none 0 0, .bool false, .slice none 0 0]) (by simp)).four
  go_wp2_with fail
  exact bodyPost_ret (v := .tuple #[.agg #[.bool false, .slice none 0 0, .bool false, .slice none 0 0], .int .i64 3]) (by simp [results, Tryz.results24, go_sem, ra1, rb1, rc1, rd1]) rfl ⟨rfl, by first | exact K1.1 | exact below_result (below_result K1.1 (by omega) _ _) (by omega) _ _ | exact (K1.set4 (by simp <;> omega) false none 0 0 false none 0 0).1⟩

/-! ### what a law holds -/
set_option maxRecDepth 100000 in
set_option maxHeartbeats 1600000 in
theorem have_no (lo hi : Nat) (e h : Int) (neg : Bool) (A : Option Addr) (n c : Nat) (neg' : Bool) (A' : Option Addr) (n' c' : Nat) (w : World) (hno : ¬ (e = 0 ∧ h = 0)) :
    Calls Tryz.prog 20 #[.agg #[.float .f64 lo, .float .f64 hi], .int .i64 e, .agg #[.bool neg, .slice A n c, .bool neg', .slice A' n' c'], .int .i64 h] w (RetV w (.bool true)) := by
  have hB : Below w.heap.size w ((w.alloc (.cells #[.float .f64 lo, .float .f64 hi] 24)).alloc (.cells #[.bool neg, .slice A n c, .bool neg', .slice A' n' c'] 29)) := (((Mm.nil w).var (g := w.heap.size) rfl [.float .f64 lo, .float .f64 hi] 24).var (g := w.heap.size + 1) (by simp) [.bool neg, .slice A n c, .bool neg', .slice A' n' c'] 29).1
  by_cases he : e = 0
  · have hh : ¬ h = 0 := fun k => hno ⟨he, k⟩
    subst he
    clear hno
    go_enter Tryz.func20, Tryz.ntmps20
    go_wp2_with fail
    go_ret
    exact ⟨rfl, hB⟩
  · clear hno
    go_enter Tryz.func20, Tryz.ntmps20
    go_wp2_with fail
    go_ret
    exact ⟨rfl, hB⟩
set_option maxRecDepth 100000 in
set_option maxHeartbeats 1600000 in
theorem have_ok (lo hi : Nat) (neg : Bool) (A : Option Addr) (n c : Nat) (l : List Nat) (neg' : Bool) (A' : Option Addr) (n' c' : Nat) (l' : List Nat) (w : World) (b1 : lo < 2 ^ 64) (b2 : hi < 2 ^ 64) (hx : LmE.at_ w ((neg, A, n, c, l), (neg', A', n', c', l'))) (hT : Tab w) (hV : hasV lo hi ((neg, A, n, c, l), (neg', A', n', c', l')) = (true, 0)) :
    Calls Tryz.prog 20 #[.agg #[.float .f64 lo, .float .f64 hi], .int .i64 0, .agg #[.bool neg, .slice A n c, .bool neg', .slice A' n' c'], .int .i64 0] w (RetV w (.bool true)) := by
  have K0 := ((Mm.nil w).var (g := w.heap.size) rfl [.float .f64 lo, .float .f64 hi] 24).var (g := w.heap.size + 1) (by simp) [.bool neg, .slice A n c, .bool neg', .slice A' n' c'] 29
  have hx0 := LmE.at_.below hx K0.1
  have hT0 := Lib.hid (hT.next K0.1)
  have HV := Lib.hid hV
  clear hx hT hV
  go_enter Tryz.func20, Tryz.ntmps20
  go_upto_region 3 with (fail)
  generalize (w.alloc (.cells #[.float .f64 lo, .float .f64 hi] 24)).alloc (.cells #[.bool neg, .slice A n c, .bool neg', .slice A' n' c'] 29) = w0 at K0 hx0 hT0 ⊢
  obtain ⟨⟨qa, qb, qc, qd⟩, _, _⟩ := (K0.blk (g := w.heap.size + 1) (vs := [.bool neg, .slice A n c, .bool neg', .slice A' n' c']) (by simp)).four
  obtain ⟨pa, pb, _, _, _⟩ := (K0.blk (g := w.heap.size) (vs := [.float .f64 lo, .float .f64 hi]) (by simp)).two
  go_wp2_with fail
  refine (span_has_any lo hi b1 b2 neg A n c l neg' A' n' c' l' _ hx0 hT0.out).mono ?_
  rintro e1 w1 ⟨rfl, hb1⟩
  rw [HV.out]
  go_wp2_with fail
  go_ret
  exact ⟨rfl, (K0.next hb1).1⟩
/-- Of a number that the span has, if that is told without an error. -/
theorem have_good (p : Nat × Nat × Int) (neg : Bool) (A : Option Addr) (n c : Nat) (l : List Nat) (neg' : Bool) (A' : Option Addr) (n' c' : Nat) (l' : List Nat) (z : Rat) (w : World) (hx : OkF w ((neg, A, n, c, l), (neg', A', n', c', l')) z) (hT : Tab w) (hg : Good p z) :
    Calls Tryz.prog 20 #[.agg #[.float .f64 p.1, .float .f64 p.2.1], .int .i64 p.2.2, .agg #[.bool neg, .slice A n c, .bool neg', .slice A' n' c'], .int .i64 0] w (RetV w (.bool true)) := by
  by_cases h0 : p.2.2 = 0
  · obtain ⟨a1, a2, a3⟩ := good_has hg h0 hx.2.1 hx.2.2
    rw [h0]
    exact have_ok p.1 p.2.1 neg A n c l neg' A' n' c' l' w a1 a2 hx.1 hT a3
  · exact have_no p.1 p.2.1 p.2.2 0 neg A n c neg' A' n' c' w (fun k => h0 k.1)
end Go.Proofs.YtjcjphgpmpjmbaaGreatDoor
