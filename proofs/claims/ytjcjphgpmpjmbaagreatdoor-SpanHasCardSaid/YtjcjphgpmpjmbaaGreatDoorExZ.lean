/-
  The quotient of two fractions that may be (frac.Quo), the divisor not nought, where the answer is short.
  append onto a slice of the call's own, and what no cell of its row is (the kit's law run_append_own_at, turned: one limb more).
  The floats beside a fraction, plainly: it does not hang on how the fraction is written; a quotient of 64 or 65 bits.
-/
import Derived.Test.YtjcjphgpmpjmbaaGreatDoorAnD
import Derived.Test.YtjcjphgpmpjmbaaGreatDoorRaN
import Derived.Test.YtjcjphgpmpjmbaaGreatDoorMem
import Derived.Deep.AppendLies
import Derived.Test.YtjcjphgpmpjmbaaGreatDoorEdgU
namespace Go.Proofs.YtjcjphgpmpjmbaaGreatDoor
open Go.RowKit

theorem sign_ne {y : Rat} (h : y ≠ 0) : y.num.sign ≠ 0 := fun e => h (Rat.num_eq_zero.1 (Int.sign_eq_zero_iff_zero.1 e))
set_option maxRecDepth 100000 in
set_option maxHeartbeats 1600000 in
theorem quo1_any (neg : Bool) (A : Option Addr) (n c : Nat) (l : List Nat) (neg' : Bool) (A' : Option Addr) (n' c' : Nat) (l' : List Nat) (nfg : Bool) (C : Option Addr) (p q : Nat) (k : List Nat) (nfg' : Bool) (C' : Option Addr) (p' q' : Nat) (k' : List Nat) (x y r : Rat) (w : World) (h0 : Hid (y ≠ 0)) (hx : OkF w ((neg, A, n, c, l), (neg', A', n', c', l')) x) (hy : OkF w ((nfg, C, p, q, k), (nfg', C', p', q', k')) y) (hr : Hid (x / y = r)) :
    Calls Tryz.prog 55 #[.agg #[.bool neg, .slice A n c, .bool neg', .slice A' n' c'], .agg #[.bool nfg, .slice C p q, .bool nfg', .slice C' p' q']] w (RetFb w r) := by
  have K0 := (((Mm.nil w).var (g := w.heap.size) rfl [.bool neg, .slice A n c, .bool neg', .slice A' n' c'] 29).var (g := w.heap.size + 1) (by simp) [.bool nfg, .slice C p q, .bool nfg', .slice C' p' q'] 29).var (g := w.heap.size + 1 + 1) (by simp) [.bool false, .slice none 0 0, .bool false, .slice none 0 0] 29
  have hx0 := hx.next K0.1
  have hy0 := hy.next K0.1
  obtain ⟨v, hv⟩ : ∃ v, y.num.sign = v := ⟨_, rfl⟩
  have hv0 : (v == 0) = false := by rw [beq_eq_false_iff_ne, ← hv]; exact sign_ne h0.out
  clear hx hy
  go_enter Tryz.func55, Tryz.ntmps55
  go_upto_region 1 with (fail)
  generalize ((w.alloc (.cells #[.bool neg, .slice A n c, .bool neg', .slice A' n' c'] 29)).alloc (.cells #[.bool nfg, .slice C p q, .bool nfg', .slice C' p' q'] 29)).alloc (.cells #[.bool false, .slice none 0 0, .bool false, .slice none 0 0] 29) = w0 at K0 hx0 hy0 ⊢
  obtain ⟨j1, j2, j3⟩ := hy0.ints
  obtain ⟨⟨ya0, yb0, yc0, yd0⟩, _, _⟩ := (K0.blk (g := w.heap.size + 1) (vs := [.bool nfg, .slice C p q, .bool nfg', .slice C' p' q']) (by simp)).four
  go_wp2_with fail
  refine (rat_sign_any nfg nfg' C C' p q p' q' y v _ j1 j2 (Lib.hid hv)).mono ?_
  rintro e0 w5 ⟨rfl, hb0⟩
  have K5 := K0.next hb0
  have hx5 := hx0.next hb0
  have hy5 := hy0.next hb0
  clear K0 hx0 hy0 hb0 j1 j2 j3 ya0 yb0 yc0 yd0
  obtain ⟨i1, i2, i3⟩ := hx5.ints
  obtain ⟨j1, j2, j3⟩ := hy5.ints
  obtain ⟨⟨xa5, xb5, xc5, xd5⟩, _, _⟩ := (K5.blk (g := w.heap.size) (vs := [.bool neg, .slice A n c, .bool neg', .slice A' n' c']) (by simp)).four
  obtain ⟨⟨ya5, yb5, yc5, yd5⟩, _, _⟩ := (K5.blk (g := w.heap.size + 1) (vs := [.bool nfg, .slice C p q, .bool nfg', .slice C' p' q']) (by simp)).four
  go_wp2_with fail
  refine (rat_over_any neg neg' A A' n c n' c' nfg nfg' C C' p q p' q' x y r 2048 2048 _ i1 i2 j1 j2 i3 j3 (by decide) h0.out hr).mono ?_
  rintro e1 w1 ⟨neg1, A1, n1, c1, ne1, B1, m1, d1, rfl, I1, J1, hb1⟩
  have K1 := ((K5.next hb1).int J1).int I1
  clear K5 hb1 I1 J1
  obtain ⟨⟨ra1, rb1, rc1, rd1⟩, ⟨re1, rf1, rg1, rh1⟩, ri1⟩ := (K1.blk (g := w.heap.size + 1 + 1) (vs := [.bool false, .slice none 0 0, .bool false, .slice none 0 0]) (by simp)).four
  go_wp2_with fail
  have KE := (K1.pick (L' := [(w.heap.size + 1 + 1, [.bool false, .slice none 0 0, .bool false, .slice none 0 0])]) (l' := [(neg1, A1, n1, c1, r.num), (ne1, B1, m1, d1, (r.den : Int))]) (by simp) (by simp)).set4 (by simp <;> omega) neg1 A1 n1 c1 ne1 B1 m1 d1
  exact bodyPost_ret (v := .tuple #[.agg #[.bool neg1, .slice A1 n1 c1, .bool ne1, .slice B1 m1 d1], .bool true]) (by simp [results, Tryz.results55, go_sem, ra1, rb1, rc1, rd1]) rfl ⟨_, _, _, _, _, _, _, _, rfl, KE.at_ (by simp), KE.at_ (by simp), KE.1⟩

set_option maxRecDepth 100000 in
set_option maxHeartbeats 3200000 in
theorem do_quo (neg : Bool) (A : Option Addr) (n c : Nat) (l : List Nat) (neg' : Bool) (A' : Option Addr) (n' c' : Nat) (l' : List Nat) (nfg : Bool) (C : Option Addr) (p q : Nat) (k : List Nat) (nfg' : Bool) (C' : Option Addr) (p' q' : Nat) (k' : List Nat) (x y r : Rat) (w : World) (h0 : Hid (y ≠ 0)) (hx : OkF w ((neg, A, n, c, l), (neg', A', n', c', l')) x) (hy : OkF w ((nfg, C, p, q, k), (nfg', C', p', q', k')) y) (hs : Sz r 2048) (hr : Hid (x / y = r)) :
    Calls Tryz.prog 47 #[.func (.func 55) #[] #[], .agg #[.bool neg, .slice A n c, .bool neg', .slice A' n' c'], .agg #[.bool nfg, .slice C p q, .bool nfg', .slice C' p' q']] w (RetFo w r) := by
  have K0 := (((Mm.nil w).var (g := w.heap.size) rfl [.bool neg, .slice A n c, .bool neg', .slice A' n' c'] 29).var (g := w.heap.size + 1) (by simp) [.bool nfg, .slice C p q, .bool nfg', .slice C' p' q'] 29).var (g := w.heap.size + 1 + 1) (by simp) [.bool false, .slice none 0 0, .bool false, .slice none 0 0] 29
  have hx0 := hx.next K0.1
  have hy0 := hy.next K0.1
  have HO : Hid (okAll (two ((neg, A, n, c, l), (neg', A', n', c', l')) ((nfg, C, p, q, k), (nfg', C', p', q', k'))) 2 = true) := Lib.hid (by rw [okAll_two, hx.2.1, hy.2.1]; rfl)
  clear hx hy
  go_enter Tryz.func47, Tryz.ntmps47
  go_upto_region 1 with (fail)
  generalize hw0 : ((w.alloc (.cells #[.bool neg, .slice A n c, .bool neg', .slice A' n' c'] 29)).alloc (.cells #[.bool nfg, .slice C p q, .bool nfg', .slice C' p' q'] 29)).alloc (.cells #[.bool false, .slice none 0 0, .bool false, .slice none 0 0] 29) = w0 at K0 hx0 hy0 ⊢
  have hL := lfs_two w0 (g := w0.heap.size) rfl 29 hx0.1 hy0.1
  obtain ⟨⟨xa0, xb0, xc0, xd0⟩, _, _⟩ := (K0.blk (g := w.heap.size) (vs := [.bool neg, .slice A n c, .bool neg', .slice A' n' c']) (by simp)).four
  obtain ⟨⟨ya0, yb0, yc0, yd0⟩, _, _⟩ := (K0.blk (g := w.heap.size + 1) (vs := [.bool nfg, .slice C p q, .bool nfg', .slice C' p' q']) (by simp)).four
  go_wp2_with fail
  refine (rat_checks_any w0.heap.size 2 2 (two ((neg, A, n, c, l), (neg', A', n', c', l')) ((nfg, C, p, q, k), (nfg', C', p', q', k'))) _ hL (by decide) (by decide)).mono ?_
  rintro e1 w1 ⟨rfl, hb1⟩
  rw [HO.out]
  have hbx := below_box hb1
  have K1 := K0.next hbx
  have hx1 := hx0.next hbx
  have hy1 := hy0.next hbx
  clear K0 hx0 hy0 hb1 hbx hL hw0 xa0 xb0 xc0 xd0 ya0 yb0 yc0 yd0
  obtain ⟨⟨xa1, xb1, xc1, xd1⟩, _, _⟩ := (K1.blk (g := w.heap.size) (vs := [.bool neg, .slice A n c, .bool neg', .slice A' n' c']) (by simp)).four
  obtain ⟨⟨ya1, yb1, yc1, yd1⟩, _, _⟩ := (K1.blk (g := w.heap.size + 1) (vs := [.bool nfg, .slice C p q, .bool nfg', .slice C' p' q']) (by simp)).four
  go_wp2_with fail
  refine (quo1_any neg A n c l neg' A' n' c' l' nfg C p q k nfg' C' p' q' k' x y r _ h0 hx1 hy1 hr).mono ?_
  rintro e2 w2 ⟨neg2, A2, n2, c2, ne2, B2, m2, d2, rfl, I2, J2, hb2⟩
  have K2 := (((K1.next hb2).int J2).int I2).var (g := w2.heap.size) rfl [.bool neg2, .slice A2 n2 c2, .bool ne2, .slice B2 m2 d2] 29
  have hz : w.heap.size + 1 + 1 < w2.heap.size := ((K1.next hb2).blk (g := w.heap.size + 1 + 1) (vs := [.bool false, .slice none 0 0, .bool false, .slice none 0 0]) (by simp)).1
  clear K1 hx1 hy1 hb2 I2 J2 xa1 xb1 xc1 xd1 ya1 yb1 yc1 yd1
  go_upto_region 4 with (fail)
  generalize hg2 : w2.heap.size = g2 at K2 hz ⊢
  generalize w2.alloc (.cells #[.bool neg2, .slice A2 n2 c2, .bool ne2, .slice B2 m2 d2] 29) = w3 at K2 ⊢
  clear hg2
  obtain ⟨⟨ua, ub, uc, ud⟩, _, _⟩ := (K2.blk (g := g2) (vs := [.bool neg2, .slice A2 n2 c2, .bool ne2, .slice B2 m2 d2]) (by simp)).four
  go_wp2_with fail
  refine (frac_answered_any neg2 ne2 A2 B2 n2 c2 m2 d2 r _ (K2.at_ (by simp)) (K2.at_ (by simp)) hs).mono ?_
  rintro e4 w4 ⟨neg4, A4, n4, c4, ne4, B4, m4, d4, rfl, I4, J4, hb4⟩
  have K4 := ((K2.next hb4).int J4).int I4
  clear K2 hb4 I4 J4 ua ub uc ud
  obtain ⟨⟨ra4, rb4, rc4, rd4⟩, ⟨re4, rf4, rg4, rh4⟩, ri4⟩ := (K4.blk (g := w.heap.size + 1 + 1) (vs := [.bool false, .slice none 0 0, .bool false, .slice none 0 0]) (by simp)).four
  go_wp2_with fail
  have KE := (K4.pick (L' := [(w.heap.size + 1 + 1, [.bool false, .slice none 0 0, .bool false, .slice none 0 0])]) (l' := [(neg4, A4, n4, c4, r.num), (ne4, B4, m4, d4, (r.den : Int))]) (by simp) (by simp)).set4 (by simp <;> omega) neg4 A4 n4 c4 ne4 B4 m4 d4
  exact bodyPost_ret (v := .tuple #[.agg #[.bool neg4, .slice A4 n4 c4, .bool ne4, .slice B4 m4 d4], .int .i64 0]) (by simp [results, Tryz.results47, go_sem, ra4, rb4, rc4, rd4]) rfl ⟨_, _, _, _, _, _, _, _, rfl, KE.at_ (by simp), KE.at_ (by simp), KE.1⟩

set_option maxRecDepth 100000 in
set_option maxHeartbeats 3200000 in
theorem frac_quo_any (neg : Bool) (A : Option Addr) (n c : Nat) (l : List Nat) (neg' : Bool) (A' : Option Addr) (n' c' : Nat) (l' : List Nat) (nfg : Bool) (C : Option Addr) (p q : Nat) (k : List Nat) (nfg' : Bool) (C' : Option Addr) (p' q' : Nat) (k' : List Nat) (x y r : Rat) (w : World) (h0 : Hid (y ≠ 0)) (hx : OkF w ((neg, A, n, c, l), (neg', A', n', c', l')) x) (hy : OkF w ((nfg, C, p, q, k), (nfg', C', p', q', k')) y) (hs : Sz r 2048) (hr : Hid (x / y = r)) :
    Calls Tryz.prog 24 #[.agg #[.bool neg, .slice A n c, .bool neg', .slice A' n' c'], .agg #[.bool nfg, .slice C p q, .bool nfg', .slice C' p' q']] w (RetFk w r) := by
  have K0 := (((Mm.nil w).var (g := w.heap.size) rfl [.bool neg, .slice A n c, .bool neg', .slice A' n' c'] 29).var (g := w.heap.size + 1) (by simp) [.bool nfg, .slice C p q, .bool nfg', .slice C' p' q'] 29).var (g := w.heap.size + 1 + 1) (by simp) [.bool false, .slice none 0 0, .bool false, .slice none 0 0] 29
  have hx0 := hx.next K0.1
  have hy0 := hy.next K0.1
  have HS := Lib.hid hs
  clear hx hy hs
  go_enter Tryz.func24, Tryz.ntmps24
  go_upto_region 1 with (fail)
  generalize ((w.alloc (.cells #[.bool neg, .slice A n c, .bool neg', .slice A' n' c'] 29)).alloc (.cells #[.bool nfg, .slice C p q, .bool nfg', .slice C' p' q'] 29)).alloc (.cells #[.bool false, .slice none 0 0, .bool false, .slice none 0 0] 29) = w0 at K0 hx0 hy0 ⊢
  obtain ⟨⟨xa0, xb0, xc0, xd0⟩, _, _⟩ := (K0.blk (g := w.heap.size) (vs := [.bool neg, .slice A n c, .bool neg', .slice A' n' c']) (by simp)).four
  obtain ⟨⟨ya0, yb0, yc0, yd0⟩, _, _⟩ := (K0.blk (g := w.heap.size + 1) (vs := [.bool nfg, .slice C p q, .bool nfg', .slice C' p' q']) (by simp)).four
  go_wp2_with fail
  refine (do_quo neg A n c l neg' A' n' c' l' nfg C p q k nfg' C' p' q' k' x y r _ h0 hx0 hy0 HS.out hr).mono ?_
  rintro e2 w2 ⟨neg2, A2, n2, c2, ne2, B2, m2, d2, rfl, I2, J2, hb2⟩
  have K2 := ((K0.next hb2).int J2).int I2
  clear K0 hb2 I2 J2
  obtain ⟨⟨ra2, rb2, rc2, rd2⟩, ⟨re2, rf2, rg2, rh2⟩, ri2⟩ := (K2.blk (g := w.heap.size + 1 + 1) (vs := [.bool false, .slice none 0 0, .bool false, .slice none 0 0]) (by simp)).four
  go_wp2_with fail
  have KE := (K2.pick (L' := [(w.heap.size + 1 + 1, [.bool false, .slice none 0 0, .bool false, .slice none 0 0])]) (l' := [(neg2, A2, n2, c2, r.num), (ne2, B2, m2, d2, (r.den : Int))]) (by simp) (by simp)).set4 (by simp <;> omega) neg2 A2 n2 c2 ne2 B2 m2 d2
  obtain ⟨l2, l3, O2⟩ := okF_of (KE.at_ (neg := neg2) (A := A2) (n := n2) (c := c2) (z := r.num) (by simp)) (KE.at_ (neg := ne2) (A := B2) (n := m2) (c := d2) (z := (r.den : Int)) (by simp)) HS.out
  exact bodyPost_ret (v := .tuple #[.agg #[.bool neg2, .slice A2 n2 c2, .bool ne2, .slice B2 m2 d2], .int .i64 0]) (by simp [results, Tryz.results24, go_sem, ra2, rb2, rc2, rd2]) rfl ⟨_, _, _, _, _, _, _, _, _, _, rfl, O2, KE.1⟩
end Go.Proofs.YtjcjphgpmpjmbaaGreatDoor

namespace Go.Proofs.YtjcjphgpmpjmbaaGreatDoor
open Go.RowKit

/-- No cell of the block is a limb. -/
def NoLimb (w : World) (g : Nat) : Prop := ∃ cs t fr, w.heap[g]? = some (.cells cs t fr) ∧ ∀ u ∈ cs.toList, ∀ x, u ≠ .int .u32 x
theorem NoLimb.below {w w' : World} {g : Nat} (h : NoLimb w g) (hg : g < w.heap.size) (hb : Below w.heap.size w w') : NoLimb w' g := by
  obtain ⟨cs, t, fr, h1, h2⟩ := h
  exact ⟨cs, t, fr, (hb.block g hg).trans h1, h2⟩
theorem NoLimb.no {w : World} {g : Nat} (h : NoLimb w g) (a : Addr) (ha : a.block = g) (x : Int) : w.cell? a ≠ some (.int .u32 x) := by
  obtain ⟨cs, t, fr, h1, h2⟩ := h
  subst ha
  unfold World.cell?
  rw [h1]
  intro e
  have e' : (if a.spot.isSome then none else cs[a.off]?) = some (.int .u32 x) := e
  split at e'
  · cases e'
  · refine h2 (.int .u32 x) ?_ x rfl
    rw [← Array.getElem?_toList] at e'
    exact List.mem_of_getElem? e'
section
variable {P : Program} (w : World)
end
/-- A whole number stays through an append onto a row without limbs. -/
theorem IsInt.grown {w w' : World} {row : Option Nat} {neg : Bool} {A : Option Addr} {n c : Nat} {z : Int} (h : IsInt w neg A n c z) (hg : w.grownBy w' row) (hq : ∀ g, row = some g → NoLimb w g) : IsInt w' neg A n c z := by
  obtain ⟨l, ⟨⟨hl, hr⟩, h2⟩, h3⟩ := h
  refine ⟨l, ⟨⟨hl, fun h0 => ?_⟩, h2⟩, h3⟩
  obtain ⟨ad, e, hb, hc⟩ := hr h0
  refine ⟨ad, e, Nat.lt_of_lt_of_le hb hg.size, fun j u hu => ?_⟩
  have hcu := hc j u hu
  obtain ⟨_, hu2⟩ := u32s_get hu
  refine hg.cell hcu (fun e2 => ?_)
  rw [block_of_add] at e2
  have hN := hq ad.block e2.symm
  rw [hu2] at hcu
  exact hN.no (ad.add j) (block_of_add ad j) _ hcu
end Go.Proofs.YtjcjphgpmpjmbaaGreatDoor

namespace Go.Proofs.YtjcjphgpmpjmbaaGreatDoor
open Go.RowKit

theorem Dn_cross {num den num' den' r : Nat} (hd : 0 < den) (hd' : 0 < den') (h : num * den' = num' * den) (k : Flt.Dn num den r) : Flt.Dn num' den' r := by
  refine ⟨k.1, ?_, fun h1 => ?_⟩
  · have a1 := Nat.mul_le_mul_right den' k.2.1
    rw [h, Nat.mul_right_comm] at a1
    exact Nat.le_of_mul_le_mul_right a1 hd
  · have a1 := Nat.mul_lt_mul_of_pos_right (k.2.2 h1) hd'
    rw [h, Nat.mul_right_comm] at a1
    exact Nat.lt_of_mul_lt_mul_right a1
theorem hiR_cross {num den num' den' r : Nat} (hd : 0 < den) (hd' : 0 < den') (h : num * den' = num' * den) : hiR num den r = hiR num' den' r := by
  have e : (Flt.val r * den = num) ↔ (Flt.val r * den' = num') := by
    constructor
    · intro k
      have a1 : Flt.val r * den' * den = num' * den := by rw [Nat.mul_right_comm, k, h]
      exact Nat.eq_of_mul_eq_mul_right hd a1
    · intro k
      have a1 : Flt.val r * den * den' = num * den' := by rw [Nat.mul_right_comm, k, h]
      exact Nat.eq_of_mul_eq_mul_right hd' a1
  unfold hiR
  by_cases k : Flt.val r * den = num
  · rw [if_pos k, if_pos (e.1 k)]
  · rw [if_neg k, if_neg (fun q => k (e.2 q))]
theorem Brk_cross {s : Bool} {num den num' den' d u : Nat} (hd : 0 < den) (hd' : 0 < den') (h : num * den' = num' * den) (k : Brk s num den d u) : Brk s num' den' d u := by
  obtain ⟨r, h1, h2, h3⟩ := k
  rw [hiR_cross hd hd' h] at h2 h3
  exact ⟨r, Dn_cross hd hd' h h1, h2, h3⟩
/-- A quotient of numbers of so many bits. -/
theorem quo_bits {P Q b N : Nat} (hb : 1 ≤ b) (hP1 : 2 ^ (b + 63) ≤ P) (hP2 : P < 2 ^ (b + 64)) (hQ1 : 2 ^ (b - 1) ≤ Q) (hQ2 : Q < 2 ^ b) (hN : P / Q = N) :
    0 < Q ∧ N * Q ≤ P ∧ P < (N + 1) * Q ∧ 2 ^ 63 ≤ N ∧ N < 2 ^ 65 := by
  have hQ0 : 0 < Q := Nat.lt_of_lt_of_le (Nat.two_pow_pos _) hQ1
  subst hN
  refine ⟨hQ0, Nat.div_mul_le_self _ _, ?_, ?_, ?_⟩
  · have h1 := Nat.lt_div_mul_add (a := P) (b := Q) hQ0
    rw [Nat.add_mul, Nat.one_mul]
    exact h1
  · rw [Nat.le_div_iff_mul_le hQ0]
    refine Nat.le_trans (Nat.mul_le_mul_left _ (Nat.le_of_lt hQ2)) ?_
    rw [← Nat.pow_add, Nat.add_comm]
    exact hP1
  · rw [Nat.div_lt_iff_lt_mul hQ0]
    refine Nat.lt_of_lt_of_le hP2 ?_
    refine Nat.le_trans ?_ (Nat.mul_le_mul_left _ hQ1)
    rw [← Nat.pow_add]
    exact Nat.pow_le_pow_right (by decide) (by omega)
/-- The shifted parts, and what is told of them. -/
theorem at_cross {z D s : Nat} (_hz : 0 < z) (hD : 0 < D) (sgn : Bool) (d u : Nat) :
    (Brk sgn (z * 2 ^ s * 2 ^ (-(s : Int) + 1074).toNat) (D * 2 ^ (-(-(s : Int) + 1074)).toNat) d u → Brk sgn (z * 2 ^ Flt.K74) D d u) ∧
    (Brk sgn (z * 2 ^ ((s : Int) + 1074).toNat) (D * 2 ^ s * 2 ^ (-((s : Int) + 1074)).toNat) d u → Brk sgn (z * 2 ^ Flt.K74) D d u) := by
  have hK : Flt.K74 = 1074 := rfl
  refine ⟨fun h => ?_, fun h => ?_⟩
  · refine Brk_cross (Nat.mul_pos hD (Nat.two_pow_pos _)) hD ?_ h
    rw [Nat.mul_assoc z, ← Nat.pow_add]
    rcases Nat.le_total s 1074 with k | k
    · rw [show s + (-(s : Int) + 1074).toNat = Flt.K74 by rw [hK]; omega, show (-(-(s : Int) + 1074)).toNat = 0 by omega, Nat.pow_zero, Nat.mul_one]
    · rw [show s + (-(s : Int) + 1074).toNat = Flt.K74 + (-(-(s : Int) + 1074)).toNat by rw [hK]; omega, Nat.pow_add]
      generalize 2 ^ (-(-(s : Int) + 1074)).toNat = K
      generalize 2 ^ Flt.K74 = L
      grind
  · refine Brk_cross (Nat.mul_pos (Nat.mul_pos hD (Nat.two_pow_pos _)) (Nat.two_pow_pos _)) hD ?_ h
    rw [show ((s : Int) + 1074).toNat = s + Flt.K74 by rw [hK]; omega, show (-((s : Int) + 1074)).toNat = 0 by omega, Nat.pow_zero, Nat.mul_one, Nat.pow_add]
    generalize 2 ^ s = K
    generalize 2 ^ Flt.K74 = L
    grind
end Go.Proofs.YtjcjphgpmpjmbaaGreatDoor
