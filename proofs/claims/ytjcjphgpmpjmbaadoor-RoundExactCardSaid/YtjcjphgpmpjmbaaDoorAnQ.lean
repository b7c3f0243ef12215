/-
  The quotient of two fractions that may be (frac.Quo), the divisor not nought, where the answer is short.
-/
import Derived.Test.YtjcjphgpmpjmbaaDoorAnD
import Derived.Test.YtjcjphgpmpjmbaaDoorRaN
namespace Go.Proofs.YtjcjphgpmpjmbaaDoor
open Go.RowKit

theorem sign_ne {y : Rat} (h : y ≠ 0) : y.num.sign ≠ 0 := fun e => h (Rat.num_eq_zero.1 (Int.sign_eq_zero_iff_zero.1 e))
set_option maxRecDepth 100000 in
set_option maxHeartbeats 1600000 in
theorem quo1_any (neg : Bool) (A : Option Addr) (n c : Nat) (l : List Nat) (neg' : Bool) (A' : Option Addr) (n' c' : Nat) (l' : List Nat) (nfg : Bool) (C : Option Addr) (p q : Nat) (k : List Nat) (nfg' : Bool) (C' : Option Addr) (p' q' : Nat) (k' : List Nat) (x y r : Rat) (w : World) (h0 : Hid (y ≠ 0)) (hx : OkF w ((neg, A, n, c, l), (neg', A', n', c', l')) x) (hy : OkF w ((nfg, C, p, q, k), (nfg', C', p', q', k')) y) (hr : Hid (x / y = r)) :
    Calls Tryd.prog 51 #[.agg #[.bool neg, .slice A n c, .bool neg', .slice A' n' c'], .agg #[.bool nfg, .slice C p q, .bool nfg', .slice C' p' q']] w (RetFb w r) := by
  have K0 := (((Mm.nil w).var (g := w.heap.size) rfl [.bool neg, .slice A n c, .bool neg', .slice A' n' c'] 26).var (g := w.heap.size + 1) (by simp) [.bool nfg, .slice C p q, .bool nfg', .slice C' p' q'] 26).var (g := w.heap.size + 1 + 1) (by simp) [.bool false, .slice none 0 0, .bool false, .slice none 0 0] 26
  have hx0 := hx.next K0.1
  have hy0 := hy.next K0.1
  obtain ⟨v, hv⟩ : ∃ v, y.num.sign = v := ⟨_, rfl⟩
  have hv0 : (v == 0) = false := by rw [beq_eq_false_iff_ne, ← hv]; exact sign_ne h0.out
  clear hx hy
  go_enter Tryd.func51, Tryd.ntmps51
  go_upto_region 1 with (fail)
  generalize ((w.alloc (.cells #[.bool neg, .slice A n c, .bool neg', .slice A' n' c'] 26)).alloc (.cells #[.bool nfg, .slice C p q, .bool nfg', .slice C' p' q'] 26)).alloc (.cells #[.bool false, .slice none 0 0, .bool false, .slice none 0 0] 26) = w0 at K0 hx0 hy0 ⊢
  obtain ⟨j1, j2, j3⟩ := hy0.ints
  obtain ⟨⟨ya0, yb0, yc0, yd0⟩, _, _⟩ := (K0.blk (g := w.heap.size + 1) (vs := [.bool nfg, .slice C p q, .bool nfg', .slice C' p' q']) (by simp)).four
  go_wp2_with fail
  refine (rat_sign_any nfg nfg' C C' p q p' q' y v _ j1 j2 (Lib.hid hv)).mono ?_
  rintro e0 w5 ⟨rfl, hb0⟩
  have K5 := K0.next hb0
  have hx5 := hx0.next hb0
  have hy5 := hy0.next hb0
  clear K0 hx0 hy0 hb0 j1 j2 j3 ya0 yb0 yc0 yd0
  obtain ⟨i1, i2, i3⟩ := hx5.ints
  obtain ⟨j1, j2, j3⟩ := hy5.ints
  obtain ⟨⟨xa5, xb5, xc5, xd5⟩, _, _⟩ := (K5.blk (g := w.heap.size) (vs := [.bool neg, .slice A n c, .bool neg', .slice A' n' c']) (by simp)).four
  obtain ⟨⟨ya5, yb5, yc5, yd5⟩, _, _⟩ := (K5.blk (g := w.heap.size + 1) (vs := [.bool nfg, .slice C p q, .bool nfg', .slice C' p' q']) (by simp)).four
  go_wp2_with fail
  refine (rat_over_any neg neg' A A' n c n' c' nfg nfg' C C' p q p' q' x y r 2048 2048 _ i1 i2 j1 j2 i3 j3 (by decide) h0.out hr).mono ?_
  rintro e1 w1 ⟨neg1, A1, n1, c1, ne1, B1, m1, d1, rfl, I1, J1, hb1⟩
  have K1 := ((K5.next hb1).int J1).int I1
  clear K5 hb1 I1 J1
  obtain ⟨⟨ra1, rb1, rc1, rd1⟩, ⟨re1, rf1, rg1, rh1⟩, ri1⟩ := (K1.blk (g := w.heap.size + 1 + 1) (vs := [.bool false, .slice none 0 0, .bool false, .slice none 0 0]) (by simp)).four
  go_wp2_with fail
  have KE := (K1.pick (L' := [(w.heap.size + 1 + 1, [.bool false, .slice none 0 0, .bool false, .slice none 0 0])]) (l' := [(neg1, A1, n1, c1, r.num), (ne1, B1, m1, d1, (r.den : Int))]) (by simp) (by simp)).set4 (by simp <;> omega) neg1 A1 n1 c1 ne1 B1 m1 d1
  exact bodyPost_ret (v := .tuple #[.agg #[.bool neg1, .slice A1 n1 c1, .bool ne1, .slice B1 m1 d1], .bool true]) (by simp [results, Tryd.results51, go_sem, ra1, rb1, rc1, rd1]) rfl ⟨_, _, _, _, _, _, _, _, rfl, KE.at_ (by simp), KE.at_ (by simp), KE.1⟩

set_option maxRecDepth 100000 in
set_option maxHeartbeats 3200000 in
theorem do_quo (neg : Bool) (A : Option Addr) (n c : Nat) (l : List Nat) (neg' : Bool) (A' : Option Addr) (n' c' : Nat) (l' : List Nat) (nfg : Bool) (C : Option Addr) (p q : Nat) (k : List Nat) (nfg' : Bool) (C' : Option Addr) (p' q' : Nat) (k' : List Nat) (x y r : Rat) (w : World) (h0 : Hid (y ≠ 0)) (hx : OkF w ((neg, A, n, c, l), (neg', A', n', c', l')) x) (hy : OkF w ((nfg, C, p, q, k), (nfg', C', p', q', k')) y) (hs : Sz r 2048) (hr : Hid (x / y = r)) :
    Calls Tryd.prog 41 #[.func (.func 51) #[] #[], .agg #[.bool neg, .slice A n c, .bool neg', .slice A' n' c'], .agg #[.bool nfg, .slice C p q, .bool nfg', .slice C' p' q']] w (RetFo w r) := by
  have K0 := (((Mm.nil w).var (g := w.heap.size) rfl [.bool neg, .slice A n c, .bool neg', .slice A' n' c'] 26).var (g := w.heap.size + 1) (by simp) [.bool nfg, .slice C p q, .bool nfg', .slice C' p' q'] 26).var (g := w.heap.size + 1 + 1) (by simp) [.bool false, .slice none 0 0, .bool false, .slice none 0 0] 26
  have hx0 := hx.next K0.1
  have hy0 := hy.next K0.1
  have HO : Hid (okAll (two ((neg, A, n, c, l), (neg', A', n', c', l')) ((nfg, C, p, q, k), (nfg', C', p', q', k'))) 2 = true) := Lib.hid (by rw [okAll_two, hx.2.1, hy.2.1]; rfl)
  clear hx hy
  go_enter Tryd.func41, Tryd.ntmps41
  go_upto_region 1 with (fail)
  generalize hw0 : ((w.alloc (.cells #[.bool neg, .slice A n c, .bool neg', .slice A' n' c'] 26)).alloc (.cells #[.bool nfg, .slice C p q, .bool nfg', .slice C' p' q'] 26)).alloc (.cells #[.bool false, .slice none 0 0, .bool false, .slice none 0 0] 26) = w0 at K0 hx0 hy0 ⊢
  have hL := lfs_two w0 (g := w0.heap.size) rfl 26 hx0.1 hy0.1
  obtain ⟨⟨xa0, xb0, xc0, xd0⟩, _, _⟩ := (K0.blk (g := w.heap.size) (vs := [.bool neg, .slice A n c, .bool neg', .slice A' n' c']) (by simp)).four
  obtain ⟨⟨ya0, yb0, yc0, yd0⟩, _, _⟩ := (K0.blk (g := w.heap.size + 1) (vs := [.bool nfg, .slice C p q, .bool nfg', .slice C' p' q']) (by simp)).four
  go_wp2_with fail
  refine (rat_checks_any w0.heap.size 2 2 (two ((neg, A, n, c, l), (neg', A', n', c', l')) ((nfg, C, p, q, k), (nfg', C', p', q', k'))) _ hL (by decide) (by decide)).mono ?_
  rintro e1 w1 ⟨rfl, hb1⟩
  rw [HO.out]
  have hbx := below_box hb1
  have K1 := K0.next hbx
  have hx1 := hx0.next hbx
  have hy1 := hy0.next hbx
  clear K0 hx0 hy0 hb1 hbx hL hw0 xa0 xb0 xc0 xd0 ya0 yb0 yc0 yd0
  obtain ⟨⟨xa1, xb1, xc1, xd1⟩, _, _⟩ := (K1.blk (g := w.heap.size) (vs := [.bool neg, .slice A n c, .bool neg', .slice A' n' c']) (by simp)).four
  obtain ⟨⟨ya1, yb1, yc1, yd1⟩, _, _⟩ := (K1.blk (g := w.heap.size + 1) (vs := [.bool nfg, .slice C p q, .bool nfg', .slice C' p' q']) (by simp)).four
  go_wp2_with fail
  refine (quo1_any neg A n c l neg' A' n' c' l' nfg C p q k nfg' C' p' q' k' x y r _ h0 hx1 hy1 hr).mono ?_
  rintro e2 w2 ⟨neg2, A2, n2, c2, ne2, B2, m2, d2, rfl, I2, J2, hb2⟩
  have K2 := (((K1.next hb2).int J2).int I2).var (g := w2.heap.size) rfl [.bool neg2, .slice A2 n2 c2, .bool ne2, .slice B2 m2 d2] 26
  have hz : w.heap.size + 1 + 1 < w2.heap.size := ((K1.next hb2).blk (g := w.heap.size + 1 + 1) (vs := [.bool false, .slice none 0 0, .bool false, .slice none 0 0]) (by simp)).1
  clear K1 hx1 hy1 hb2 I2 J2 xa1 xb1 xc1 xd1 ya1 yb1 yc1 yd1
  go_upto_region 4 with (fail)
  generalize hg2 : w2.heap.size = g2 at K2 hz ⊢
  generalize w2.alloc (.cells #[.bool neg2, .slice A2 n2 c2, .bool ne2, .slice B2 m2 d2] 26) = w3 at K2 ⊢
  clear hg2
  obtain ⟨⟨ua, ub, uc, ud⟩, _, _⟩ := (K2.blk (g := g2) (vs := [.bool neg2, .slice A2 n2 c2, .bool ne2, .slice B2 m2 d2]) (by simp)).four
  go_wp2_with fail
  refine (frac_answered_any neg2 ne2 A2 B2 n2 c2 m2 d2 r _ (K2.at_ (by simp)) (K2.at_ (by simp)) hs).mono ?_
  rintro e4 w4 ⟨neg4, A4, n4, c4, ne4, B4, m4, d4, rfl, I4, J4, hb4⟩
  have K4 := ((K2.next hb4).int J4).int I4
  clear K2 hb4 I4 J4 ua ub uc ud
  obtain ⟨⟨ra4, rb4, rc4, rd4⟩, ⟨re4, rf4, rg4, rh4⟩, ri4⟩ := (K4.blk (g := w.heap.size + 1 + 1) (vs := [.bool false, .slice none 0 0, .bool false, .slice none 0 0]) (by simp)).four
  go_wp2_with fail
  have KE := (K4.pick (L' := [(w.heap.size + 1 + 1, [.bool false, .slice none 0 0, .bool false, .slice none 0 0])]) (l' := [(neg4, A4, n4, c4, r.num), (ne4, B4, m4, d4, (r.den : Int))]) (by simp) (by simp)).set4 (by simp <;> omega) neg4 A4 n4 c4 ne4 B4 m4 d4
  exact bodyPost_ret (v := .tuple #[.agg #[.bool neg4, .slice A4 n4 c4, .bool ne4, .slice B4 m4 d4], .int .i64 0]) (by simp [results, Tryd.results41, go_sem, ra4, rb4, rc4, rd4]) rfl ⟨_, _, _, _, _, _, _, _, rfl, KE.at_ (by simp), KE.at_ (by simp), KE.1⟩

set_option maxRecDepth 100000 in
set_option maxHeartbeats 3200000 in
theorem frac_quo_any (neg : Bool) (A : Option Addr) (n c : Nat) (l : List Nat) (neg' : Bool) (A' : Option Addr) (n' c' : Nat) (l' : List Nat) (nfg : Bool) (C : Option Addr) (p q : Nat) (k : List Nat) (nfg' : Bool) (C' : Option Addr) (p' q' : Nat) (k' : List Nat) (x y r : Rat) (w : World) (h0 : Hid (y ≠ 0)) (hx : OkF w ((neg, A, n, c, l), (neg', A', n', c', l')) x) (hy : OkF w ((nfg, C, p, q, k), (nfg', C', p', q', k')) y) (hs : Sz r 2048) (hr : Hid (x / y = r)) :
    Calls Tryd.prog 27 #[.agg #[.bool neg, .slice A n c, .bool neg', .slice A' n' c'], .agg #[.bool nfg, .slice C p q, .bool nfg', .slice C' p' q']] w (RetFk w r) := by
  have K0 := (((Mm.nil w).var (g := w.heap.size) rfl [.bool neg, .slice A n c, .bool neg', .slice A' n' c'] 26).var (g := w.heap.size + 1) (by simp) [.bool nfg, .slice C p q, .bool nfg', .slice C' p' q'] 26).var (g := w.heap.size + 1 + 1) (by simp) [.bool false, .slice none 0 0, .bool false, .slice none 0 0] 26
  have hx0 := hx.next K0.1
  have hy0 := hy.next K0.1
  have HS := Lib.hid hs
  clear hx hy hs
  go_enter Tryd.func27, Tryd.ntmps27
  go_upto_region 1 with (fail)
  generalize ((w.alloc (.cells #[.bool neg, .slice A n c, .bool neg', .slice A' n' c'] 26)).alloc (.cells #[.bool nfg, .slice C p q, .bool nfg', .slice C' p' q'] 26)).alloc (.cells #[.bool false, .slice none 0 0, .bool false, .slice none 0 0] 26) = w0 at K0 hx0 hy0 ⊢
  obtain ⟨⟨xa0, xb0, xc0, xd0⟩, _, _⟩ := (K0.blk (g := w.heap.size) (vs := [.bool neg, .slice A n c, .bool neg', .slice A' n' c']) (by simp)).four
  obtain ⟨⟨ya0, yb0, yc0, yd0⟩, _, _⟩ := (K0.blk (g := w.heap.size + 1) (vs := [.bool nfg, .slice C p q, .bool nfg', .slice C' p' q']) (by simp)).four
  go_wp2_with fail
  refine (do_quo neg A n c l neg' A' n' c' l' nfg C p q k nfg' C' p' q' k' x y r _ h0 hx0 hy0 HS.out hr).mono ?_
  rintro e2 w2 ⟨neg2, A2, n2, c2, ne2, B2, m2, d2, rfl, I2, J2, hb2⟩
  have K2 := ((K0.next hb2).int J2).int I2
  clear K0 hb2 I2 J2
  obtain ⟨⟨ra2, rb2, rc2, rd2⟩, ⟨re2, rf2, rg2, rh2⟩, ri2⟩ := (K2.blk (g := w.heap.size + 1 + 1) (vs := [.bool false, .slice none 0 0, .bool false, .slice none 0 0]) (by simp)).four
  go_wp2_with fail
  have KE := (K2.pick (L' := [(w.heap.size + 1 + 1, [.bool false, .slice none 0 0, .bool false, .slice none 0 0])]) (l' := [(neg2, A2, n2, c2, r.num), (ne2, B2, m2, d2, (r.den : Int))]) (by simp) (by simp)).set4 (by simp <;> omega) neg2 A2 n2 c2 ne2 B2 m2 d2
  obtain ⟨l2, l3, O2⟩ := okF_of (KE.at_ (neg := neg2) (A := A2) (n := n2) (c := c2) (z := r.num) (by simp)) (KE.at_ (neg := ne2) (A := B2) (n := m2) (c := d2) (z := (r.den : Int)) (by simp)) HS.out
  exact bodyPost_ret (v := .tuple #[.agg #[.bool neg2, .slice A2 n2 c2, .bool ne2, .slice B2 m2 d2], .int .i64 0]) (by simp [results, Tryd.results27, go_sem, ra2, rb2, rc2, rd2]) rfl ⟨_, _, _, _, _, _, _, _, _, _, rfl, O2, KE.1⟩
end Go.Proofs.YtjcjphgpmpjmbaaDoor
