/-
  What two numbers of spans come to lies within the answers, plainly.
  Fractions made of two numbers (frac.Make, frac.Of).
-/
import Derived.Test.YtejlicacndpfpaaDoorSfO
import Derived.Test.YtejlicacndpfpaaDoorFrame2
import Derived.Test.YtejlicacndpfpaaDoorSpnV
import Derived.Test.YtejlicacndpfpaaDoorSpnG
import Derived.Test.YtejlicacndpfpaaDoorSqW
import Derived.Test.YtejlicacndpfpaaDoorSpnX
import Derived.Test.YtejlicacndpfpaaDoorSpnL
import Derived.Test.YtejlicacndpfpaaDoorExZ
import Derived.Test.YtejlicacndpfpaaDoorRaL
namespace Go.Proofs.YtejlicacndpfpaaDoor
open Go.RowKit

/-! ### products and quotients of numbers between -/
/-! ### between the ends -/
/-! ### a number at a part of the way -/
def part (lo hi : Nat) (u v : Int) : Rat := fr lo + (fr hi - fr lo) * Rat.divInt u v
end Go.Proofs.YtejlicacndpfpaaDoor

namespace Go.Proofs.YtejlicacndpfpaaDoor
open Go.RowKit

theorem ex_check_int (neg : Bool) (A : Option Addr) (n c : Nat) (z : Int) (w : World) (h : IsInt w neg A n c z) (hn : n ≤ 2048) : Calls Tryd.prog 30 #[.agg #[.bool neg, .slice A n c]] w (RetV w (.int .i64 0)) := by
  obtain ⟨l, h1, h2, h3, _⟩ := h
  have hl := h1.len
  have := ex_check_sl neg A n c l w h1 (by omega)
  rw [chk_ok ⟨by omega, h2, h3⟩] at this
  exact this
set_option maxRecDepth 100000 in
set_option maxHeartbeats 1600000 in
theorem frac_make_any (neg neg' : Bool) (A A' : Option Addr) (n c n' c' : Nat) (x y : Int) (r : Rat) (w : World) (hx : IsInt w neg A n c x) (hy : IsInt w neg' A' n' c' y) (hn : n ≤ 2048) (hn' : n' ≤ 2048) (h0 : Hid (0 < y)) (hr : Hid (Rat.divInt x y = r)) (hs : Sz r 2048) :
    Calls Tryd.prog 14 #[.agg #[.bool neg, .slice A n c], .agg #[.bool neg', .slice A' n' c']] w (RetFo w r) := by
  have K0 := (((((Mm.nil w).int hx).int hy).var (g := w.heap.size) rfl [.bool neg, .slice A n c] 24).var (g := w.heap.size + 1) (by simp) [.bool neg', .slice A' n' c'] 24).var (g := w.heap.size + 1 + 1) (by simp) [.bool false, .slice none 0 0, .bool false, .slice none 0 0] 26
  have HS : Hid (y.sign = 1) := Lib.hid (Int.sign_eq_one_of_pos h0.out)
  have HY : Hid (y ≠ 0) := Lib.hid (by have := h0.out; omega)
  have HZ := Lib.hid hs
  clear hx hy h0 hs
  go_enter Tryd.func14, Tryd.ntmps14
  go_upto_region 1 with (fail)
  generalize ((w.alloc (.cells #[.bool neg, .slice A n c] 24)).alloc (.cells #[.bool neg', .slice A' n' c'] 24)).alloc (.cells #[.bool false, .slice none 0 0, .bool false, .slice none 0 0] 26) = w0 at K0 ⊢
  obtain ⟨qa, qb, _, _, _⟩ := (K0.blk (g := w.heap.size) (vs := [.bool neg, .slice A n c]) (by simp)).two
  go_wp2_with fail
  refine (ex_check_int neg A n c x _ (K0.at_ (by simp)) hn).mono ?_
  rintro e1 w1 ⟨rfl, hb1⟩
  have K1 := K0.next hb1
  clear K0 hb1 qa qb
  obtain ⟨qa, qb, _, _, _⟩ := (K1.blk (g := w.heap.size + 1) (vs := [.bool neg', .slice A' n' c']) (by simp)).two
  go_wp2_with fail
  refine (ex_check_int neg' A' n' c' y _ (K1.at_ (by simp)) hn').mono ?_
  rintro e2 w2 ⟨rfl, hb2⟩
  have K2 := K1.next hb2
  clear K1 hb2 qa qb
  obtain ⟨qa, qb, _, _, _⟩ := (K2.blk (g := w.heap.size + 1) (vs := [.bool neg', .slice A' n' c']) (by simp)).two
  go_wp2_with fail
  refine (ex_sign_any neg' A' n' c' y _ (K2.at_ (by simp))).mono ?_
  rintro e3 w3 ⟨rfl, hb3⟩
  rw [HS.out]
  have K3 := K2.next hb3
  clear K2 hb3 qa qb
  obtain ⟨qa, qb, _, _, _⟩ := (K3.blk (g := w.heap.size + 1) (vs := [.bool neg', .slice A' n' c']) (by simp)).two
  obtain ⟨pa, pb, _, _, _⟩ := (K3.blk (g := w.heap.size) (vs := [.bool neg, .slice A n c]) (by simp)).two
  go_wp2_with fail
  refine (rat_low_any neg neg' A A' n c n' c' x y r _ (K3.at_ (by simp)) (K3.at_ (by simp)) (by omega) (by omega) HY.out hr).mono ?_
  rintro e4 w4 ⟨neg4, A4, n4, c4, ne4, B4, m4, d4, rfl, I4, J4, hb4⟩
  have K4 := ((K3.next hb4).int J4).int I4
  clear K3 hb4 I4 J4 qa qb pa pb
  go_wp2_with fail
  refine (frac_answered_any neg4 ne4 A4 B4 n4 c4 m4 d4 r _ (K4.at_ (by simp)) (K4.at_ (by simp)) HZ.out).mono ?_
  rintro e2 w2 ⟨neg2, A2, n2, c2, ne2, B2, m2, d2, rfl, I2, J2, hb2⟩
  have K2 := ((K4.next hb2).int J2).int I2
  clear K4 hb2 I2 J2
  obtain ⟨⟨ra2, rb2, rc2, rd2⟩, ⟨re2, rf2, rg2, rh2⟩, ri2⟩ := (K2.blk (g := w.heap.size + 1 + 1) (vs := [.bool false, .slice none 0 0, .bool false, .slice none 0 0]) (by simp)).four
  go_wp2_with fail
  have KE := (K2.pick (L' := [(w.heap.size + 1 + 1, [.bool false, .slice none 0 0, .bool false, .slice none 0 0])]) (l' := [(neg2, A2, n2, c2, r.num), (ne2, B2, m2, d2, (r.den : Int))]) (by simp) (by simp)).set4 (by simp <;> omega) neg2 A2 n2 c2 ne2 B2 m2 d2
  exact bodyPost_ret (v := .tuple #[.agg #[.bool neg2, .slice A2 n2 c2, .bool ne2, .slice B2 m2 d2], .int .i64 0]) (by simp [results, Tryd.results14, go_sem, ra2, rb2, rc2, rd2]) rfl ⟨_, _, _, _, _, _, _, _, rfl, KE.at_ (by simp), KE.at_ (by simp), KE.1⟩
set_option maxRecDepth 100000 in
set_option maxHeartbeats 1600000 in
theorem frac_of_any (u v : Int) (r : Rat) (w : World) (hu : -9223372036854775808 ≤ u ∧ u ≤ 9223372036854775807) (hv : -9223372036854775808 ≤ v ∧ v ≤ 9223372036854775807) (h0 : 0 < v) (hr : Hid (Rat.divInt u v = r)) :
    Calls Tryd.prog 4 #[.int .i64 u, .int .i64 v] w (RetFk w r) := by
  have hs : Sz r 2048 := by
    rw [← hr.out]
    exact (Sz.divInt (m := 2) (by omega) (by omega) (by omega)).mono (by decide)
  have K0 := (Mm.nil w).var (g := w.heap.size) rfl [.bool false, .slice none 0 0, .bool false, .slice none 0 0] 26
  have H0 := Lib.hid h0
  have HS := Lib.hid hs
  clear h0 hs
  go_enter Tryd.func4, Tryd.ntmps4
  go_wp2_with fail
  refine (ex_of_any u _ hu).mono ?_
  rintro e1 w1 ⟨neg1, A1, n1, c1, rfl, I1, hb1⟩
  have hn1 : n1 ≤ 2 := int_len I1 (by omega)
  have K1 := (K0.next hb1).int I1
  clear K0 hb1 I1
  go_wp2_with fail
  refine (ex_of_any v _ hv).mono ?_
  rintro e2 w2 ⟨neg2, A2, n2, c2, rfl, I2, hb2⟩
  have hn2 : n2 ≤ 2 := int_len I2 (by omega)
  have K2 := (K1.next hb2).int I2
  clear K1 hb2 I2
  go_wp2_with fail
  refine (frac_make_any neg1 neg2 A1 A2 n1 c1 n2 c2 u v r _ (K2.at_ (by simp)) (K2.at_ (by simp)) (by omega) (by omega) H0 hr HS.out).mono ?_
  rintro e3 w3 ⟨neg3, A3, n3, c3, ne3, B3, m3, d3, rfl, I3, J3, hb3⟩
  have K3 := ((K2.next hb3).int J3).int I3
  clear K2 hb3 I3 J3
  obtain ⟨⟨ra, rb, rc, rd⟩, ⟨re, rf, rg, rh⟩, ri⟩ := (K3.blk (g := w.heap.size) (vs := [.bool false, .slice none 0 0, .bool false, .slice none 0 0]) (by simp)).four
  go_wp2_with fail
  have KE := (K3.pick (L' := [(w.heap.size, [.bool false, .slice none 0 0, .bool false, .slice none 0 0])]) (l' := [(neg3, A3, n3, c3, r.num), (ne3, B3, m3, d3, (r.den : Int))]) (by simp) (by simp)).set4 (by simp) neg3 A3 n3 c3 ne3 B3 m3 d3
  obtain ⟨l2, l3, O2⟩ := okF_of (KE.at_ (neg := neg3) (A := A3) (n := n3) (c := c3) (z := r.num) (by simp)) (KE.at_ (neg := ne3) (A := B3) (n := m3) (c := d3) (z := (r.den : Int)) (by simp)) HS.out
  exact bodyPost_ret (v := .tuple #[.agg #[.bool neg3, .slice A3 n3 c3, .bool ne3, .slice B3 m3 d3], .int .i64 0]) (by simp [results, Tryd.results4, go_sem, ra, rb, rc, rd]) rfl ⟨_, _, _, _, _, _, _, _, _, _, rfl, O2, KE.1⟩

/-! ### a quotient by nought -/
end Go.Proofs.YtejlicacndpfpaaDoor
