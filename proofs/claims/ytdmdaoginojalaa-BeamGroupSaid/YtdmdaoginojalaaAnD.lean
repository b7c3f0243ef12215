/-
  The operations of frac: always, do, Add, Sub, Mul, of fractions that may be where the answer is short.
-/
import Derived.Test.YtdmdaoginojalaaAnC
import Derived.Test.YtdmdaoginojalaaRaO
namespace Go.Proofs.Ytdmdaoginojalaa
open Go.RowKit

def RetFb (W : World) (x : Rat) (e : Ending) (w' : World) : Prop :=
  ∃ (neg : Bool) (A : Option Addr) (n c : Nat) (neg' : Bool) (A' : Option Addr) (n' c' : Nat), e = .returned (.tuple #[.agg #[.bool neg, .slice A n c, .bool neg', .slice A' n' c'], .bool true]) ∧ IsInt w' neg A n c x.num ∧ IsInt w' neg' A' n' c' (x.den : Int) ∧ Below W.heap.size W w'
def RetFk (W : World) (x : Rat) (e : Ending) (w' : World) : Prop :=
  ∃ (neg : Bool) (A : Option Addr) (n c : Nat) (l : List Nat) (neg' : Bool) (A' : Option Addr) (n' c' : Nat) (l' : List Nat), e = .returned (.tuple #[.agg #[.bool neg, .slice A n c, .bool neg', .slice A' n' c'], .int .i64 0]) ∧ OkF w' ((neg, A, n, c, l), (neg', A', n', c', l')) x ∧ Below W.heap.size W w'
theorem always_any (k : Nat) (w : World) : Calls Try.prog 69 #[.func (.func k) #[] #[]] w (fun e w' => ∃ g, e = .returned (.func (.func 97) #[] #[.pointer (some ⟨g, 0, none⟩)]) ∧ g < w'.heap.size ∧ w'.cell? ⟨g, 0, none⟩ = some (.func (.func k) #[] #[]) ∧ Below w.heap.size w w') := by
  go_enter Try.func69, Try.ntmps69
  go_wp2_with fail
  go_ret
  exact ⟨w.heap.size, rfl, by simp, by simp [go_sem], (Below.refl _ _).alloc (Nat.le_refl _) _⟩

set_option maxRecDepth 100000 in
set_option maxHeartbeats 1600000 in
theorem always1_sub (gb : Nat) (neg : Bool) (A : Option Addr) (n c : Nat) (l : List Nat) (neg' : Bool) (A' : Option Addr) (n' c' : Nat) (l' : List Nat) (nfg : Bool) (C : Option Addr) (p q : Nat) (k : List Nat) (nfg' : Bool) (C' : Option Addr) (p' q' : Nat) (k' : List Nat) (x y r : Rat) (w : World) (hgb : gb < w.heap.size) (hcb : w.cell? ⟨gb, 0, none⟩ = some (.func (.func 70) #[] #[])) (hx : OkF w ((neg, A, n, c, l), (neg', A', n', c', l')) x) (hy : OkF w ((nfg, C, p, q, k), (nfg', C', p', q', k')) y) (hr : Hid (x - y = r)) :
    Calls Try.prog 97 #[.agg #[.bool neg, .slice A n c, .bool neg', .slice A' n' c'], .agg #[.bool nfg, .slice C p q, .bool nfg', .slice C' p' q'], .pointer (some ⟨gb, 0, none⟩)] w (RetFb w r) := by
  have K0 := (((Mm.nil w).var (g := w.heap.size) rfl [.bool neg, .slice A n c, .bool neg', .slice A' n' c'] 26).var (g := w.heap.size + 1) (by simp) [.bool nfg, .slice C p q, .bool nfg', .slice C' p' q'] 26).var (g := w.heap.size + 1 + 1) (by simp) [.bool false, .slice none 0 0, .bool false, .slice none 0 0] 26
  have hx0 := hx.next K0.1
  have hy0 := hy.next K0.1
  have hc0 := ((bcell K0.1).1 gb 0 hgb).trans hcb
  clear hx hy hcb
  go_enter Try.func97, Try.ntmps97
  go_upto_region 1 with (fail)
  generalize ((w.alloc (.cells #[.bool neg, .slice A n c, .bool neg', .slice A' n' c'] 26)).alloc (.cells #[.bool nfg, .slice C p q, .bool nfg', .slice C' p' q'] 26)).alloc (.cells #[.bool false, .slice none 0 0, .bool false, .slice none 0 0] 26) = w0 at K0 hx0 hy0 hc0 ⊢
  obtain ⟨i1, i2, i3⟩ := hx0.ints
  obtain ⟨j1, j2, j3⟩ := hy0.ints
  obtain ⟨⟨xa0, xb0, xc0, xd0⟩, _, _⟩ := (K0.blk (g := w.heap.size) (vs := [.bool neg, .slice A n c, .bool neg', .slice A' n' c']) (by simp)).four
  obtain ⟨⟨ya0, yb0, yc0, yd0⟩, _, _⟩ := (K0.blk (g := w.heap.size + 1) (vs := [.bool nfg, .slice C p q, .bool nfg', .slice C' p' q']) (by simp)).four
  clear hx0 hy0
  go_wp2_with fail
  refine (rat_minus_any neg neg' A A' n c n' c' nfg nfg' C C' p q p' q' x y r 2048 2048 _ i1 i2 j1 j2 i3 j3 (by decide) hr).mono ?_
  rintro e1 w1 ⟨neg1, A1, n1, c1, ne1, B1, m1, d1, rfl, I1, J1, hb1⟩
  have K1 := ((K0.next hb1).int J1).int I1
  clear K0 hb1 I1 J1
  obtain ⟨⟨ra1, rb1, rc1, rd1⟩, ⟨re1, rf1, rg1, rh1⟩, ri1⟩ := (K1.blk (g := w.heap.size + 1 + 1) (vs := [.bool false, .slice none 0 0, .bool false, .slice none 0 0]) (by simp)).four
  go_wp2_with fail
  have KE := (K1.pick (L' := [(w.heap.size + 1 + 1, [.bool false, .slice none 0 0, .bool false, .slice none 0 0])]) (l' := [(neg1, A1, n1, c1, r.num), (ne1, B1, m1, d1, (r.den : Int))]) (by simp) (by simp)).set4 (by simp <;> omega) neg1 A1 n1 c1 ne1 B1 m1 d1
  exact bodyPost_ret (v := .tuple #[.agg #[.bool neg1, .slice A1 n1 c1, .bool ne1, .slice B1 m1 d1], .bool true]) (by simp [results, Try.results97, go_sem, ra1, rb1, rc1, rd1]) rfl ⟨_, _, _, _, _, _, _, _, rfl, KE.at_ (by simp), KE.at_ (by simp), KE.1⟩

set_option maxRecDepth 100000 in
set_option maxHeartbeats 3200000 in
theorem do_sub (gb : Nat) (neg : Bool) (A : Option Addr) (n c : Nat) (l : List Nat) (neg' : Bool) (A' : Option Addr) (n' c' : Nat) (l' : List Nat) (nfg : Bool) (C : Option Addr) (p q : Nat) (k : List Nat) (nfg' : Bool) (C' : Option Addr) (p' q' : Nat) (k' : List Nat) (x y r : Rat) (w : World) (hgb : gb < w.heap.size) (hcb : w.cell? ⟨gb, 0, none⟩ = some (.func (.func 70) #[] #[])) (hx : OkF w ((neg, A, n, c, l), (neg', A', n', c', l')) x) (hy : OkF w ((nfg, C, p, q, k), (nfg', C', p', q', k')) y) (hs : Sz r 2048) (hr : Hid (x - y = r)) :
    Calls Try.prog 71 #[.func (.func 97) #[] #[.pointer (some ⟨gb, 0, none⟩)], .agg #[.bool neg, .slice A n c, .bool neg', .slice A' n' c'], .agg #[.bool nfg, .slice C p q, .bool nfg', .slice C' p' q']] w (RetFo w r) := by
  have K0 := (((Mm.nil w).var (g := w.heap.size) rfl [.bool neg, .slice A n c, .bool neg', .slice A' n' c'] 26).var (g := w.heap.size + 1) (by simp) [.bool nfg, .slice C p q, .bool nfg', .slice C' p' q'] 26).var (g := w.heap.size + 1 + 1) (by simp) [.bool false, .slice none 0 0, .bool false, .slice none 0 0] 26
  have hx0 := hx.next K0.1
  have hy0 := hy.next K0.1
  have HO : Hid (okAll (two ((neg, A, n, c, l), (neg', A', n', c', l')) ((nfg, C, p, q, k), (nfg', C', p', q', k'))) 2 = true) := Lib.hid (by rw [okAll_two, hx.2.1, hy.2.1]; rfl)
  clear hx hy
  go_enter Try.func71, Try.ntmps71
  go_upto_region 1 with (fail)
  generalize hw0 : ((w.alloc (.cells #[.bool neg, .slice A n c, .bool neg', .slice A' n' c'] 26)).alloc (.cells #[.bool nfg, .slice C p q, .bool nfg', .slice C' p' q'] 26)).alloc (.cells #[.bool false, .slice none 0 0, .bool false, .slice none 0 0] 26) = w0 at K0 hx0 hy0 ⊢
  have hL := lfs_two w0 (g := w0.heap.size) rfl 26 hx0.1 hy0.1
  obtain ⟨⟨xa0, xb0, xc0, xd0⟩, _, _⟩ := (K0.blk (g := w.heap.size) (vs := [.bool neg, .slice A n c, .bool neg', .slice A' n' c']) (by simp)).four
  obtain ⟨⟨ya0, yb0, yc0, yd0⟩, _, _⟩ := (K0.blk (g := w.heap.size + 1) (vs := [.bool nfg, .slice C p q, .bool nfg', .slice C' p' q']) (by simp)).four
  go_wp2_with fail
  refine (rat_checks_any w0.heap.size 2 2 (two ((neg, A, n, c, l), (neg', A', n', c', l')) ((nfg, C, p, q, k), (nfg', C', p', q', k'))) _ hL (by decide) (by decide)).mono ?_
  rintro e1 w1 ⟨rfl, hb1⟩
  rw [HO.out]
  have hbx := below_box hb1
  have K1 := K0.next hbx
  have hx1 := hx0.next hbx
  have hy1 := hy0.next hbx
  clear K0 hx0 hy0 hb1 hbx hL hw0 xa0 xb0 xc0 xd0 ya0 yb0 yc0 yd0
  obtain ⟨⟨xa1, xb1, xc1, xd1⟩, _, _⟩ := (K1.blk (g := w.heap.size) (vs := [.bool neg, .slice A n c, .bool neg', .slice A' n' c']) (by simp)).four
  obtain ⟨⟨ya1, yb1, yc1, yd1⟩, _, _⟩ := (K1.blk (g := w.heap.size + 1) (vs := [.bool nfg, .slice C p q, .bool nfg', .slice C' p' q']) (by simp)).four
  have hgb1 : gb < w1.heap.size := Nat.lt_of_lt_of_le hgb K1.1.size
  have hcb1 := ((bcell K1.1).1 gb 0 hgb).trans hcb
  go_wp2_with fail
  refine (always1_sub gb neg A n c l neg' A' n' c' l' nfg C p q k nfg' C' p' q' k' x y r _ hgb1 hcb1 hx1 hy1 hr).mono ?_
  rintro e2 w2 ⟨neg2, A2, n2, c2, ne2, B2, m2, d2, rfl, I2, J2, hb2⟩
  have K2 := (((K1.next hb2).int J2).int I2).var (g := w2.heap.size) rfl [.bool neg2, .slice A2 n2 c2, .bool ne2, .slice B2 m2 d2] 26
  have hz : w.heap.size + 1 + 1 < w2.heap.size := ((K1.next hb2).blk (g := w.heap.size + 1 + 1) (vs := [.bool false, .slice none 0 0, .bool false, .slice none 0 0]) (by simp)).1
  clear K1 hx1 hy1 hb2 I2 J2 xa1 xb1 xc1 xd1 ya1 yb1 yc1 yd1
  go_upto_region 4 with (fail)
  generalize hg2 : w2.heap.size = g2 at K2 hz ⊢
  generalize w2.alloc (.cells #[.bool neg2, .slice A2 n2 c2, .bool ne2, .slice B2 m2 d2] 26) = w3 at K2 ⊢
  clear hg2
  obtain ⟨⟨ua, ub, uc, ud⟩, _, _⟩ := (K2.blk (g := g2) (vs := [.bool neg2, .slice A2 n2 c2, .bool ne2, .slice B2 m2 d2]) (by simp)).four
  go_wp2_with fail
  refine (frac_answered_any neg2 ne2 A2 B2 n2 c2 m2 d2 r _ (K2.at_ (by simp)) (K2.at_ (by simp)) hs).mono ?_
  rintro e4 w4 ⟨neg4, A4, n4, c4, ne4, B4, m4, d4, rfl, I4, J4, hb4⟩
  have K4 := ((K2.next hb4).int J4).int I4
  clear K2 hb4 I4 J4 ua ub uc ud
  obtain ⟨⟨ra4, rb4, rc4, rd4⟩, ⟨re4, rf4, rg4, rh4⟩, ri4⟩ := (K4.blk (g := w.heap.size + 1 + 1) (vs := [.bool false, .slice none 0 0, .bool false, .slice none 0 0]) (by simp)).four
  go_wp2_with fail
  have KE := (K4.pick (L' := [(w.heap.size + 1 + 1, [.bool false, .slice none 0 0, .bool false, .slice none 0 0])]) (l' := [(neg4, A4, n4, c4, r.num), (ne4, B4, m4, d4, (r.den : Int))]) (by simp) (by simp)).set4 (by simp <;> omega) neg4 A4 n4 c4 ne4 B4 m4 d4
  exact bodyPost_ret (v := .tuple #[.agg #[.bool neg4, .slice A4 n4 c4, .bool ne4, .slice B4 m4 d4], .int .i64 0]) (by simp [results, Try.results71, go_sem, ra4, rb4, rc4, rd4]) rfl ⟨_, _, _, _, _, _, _, _, rfl, KE.at_ (by simp), KE.at_ (by simp), KE.1⟩

set_option maxRecDepth 100000 in
set_option maxHeartbeats 3200000 in
theorem frac_sub_any (neg : Bool) (A : Option Addr) (n c : Nat) (l : List Nat) (neg' : Bool) (A' : Option Addr) (n' c' : Nat) (l' : List Nat) (nfg : Bool) (C : Option Addr) (p q : Nat) (k : List Nat) (nfg' : Bool) (C' : Option Addr) (p' q' : Nat) (k' : List Nat) (x y r : Rat) (w : World) (hx : OkF w ((neg, A, n, c, l), (neg', A', n', c', l')) x) (hy : OkF w ((nfg, C, p, q, k), (nfg', C', p', q', k')) y) (hs : Sz r 2048) (hr : Hid (x - y = r)) :
    Calls Try.prog 38 #[.agg #[.bool neg, .slice A n c, .bool neg', .slice A' n' c'], .agg #[.bool nfg, .slice C p q, .bool nfg', .slice C' p' q']] w (RetFk w r) := by
  have K0 := (((Mm.nil w).var (g := w.heap.size) rfl [.bool neg, .slice A n c, .bool neg', .slice A' n' c'] 26).var (g := w.heap.size + 1) (by simp) [.bool nfg, .slice C p q, .bool nfg', .slice C' p' q'] 26).var (g := w.heap.size + 1 + 1) (by simp) [.bool false, .slice none 0 0, .bool false, .slice none 0 0] 26
  have hx0 := hx.next K0.1
  have hy0 := hy.next K0.1
  have HS := Lib.hid hs
  clear hx hy hs
  go_enter Try.func38, Try.ntmps38
  go_upto_region 1 with (fail)
  generalize ((w.alloc (.cells #[.bool neg, .slice A n c, .bool neg', .slice A' n' c'] 26)).alloc (.cells #[.bool nfg, .slice C p q, .bool nfg', .slice C' p' q'] 26)).alloc (.cells #[.bool false, .slice none 0 0, .bool false, .slice none 0 0] 26) = w0 at K0 hx0 hy0 ⊢
  obtain ⟨⟨xa0, xb0, xc0, xd0⟩, _, _⟩ := (K0.blk (g := w.heap.size) (vs := [.bool neg, .slice A n c, .bool neg', .slice A' n' c']) (by simp)).four
  obtain ⟨⟨ya0, yb0, yc0, yd0⟩, _, _⟩ := (K0.blk (g := w.heap.size + 1) (vs := [.bool nfg, .slice C p q, .bool nfg', .slice C' p' q']) (by simp)).four
  have e0a : ¬ w.heap.size + 1 + 1 = w.heap.size := by omega
  have e0b : ¬ w.heap.size + 1 + 1 = w.heap.size + 1 := by omega
  go_wp2_with fail
  go_region_held3 (fun w' => w'.cell? ⟨w.heap.size, 0, none⟩ = some (.bool neg) ∧ w'.cell? ⟨w.heap.size, 1, none⟩ = some (.slice A n c) ∧ w'.cell? ⟨w.heap.size, 2, none⟩ = some (.bool neg') ∧ w'.cell? ⟨w.heap.size, 3, none⟩ = some (.slice A' n' c') ∧ w'.cell? ⟨w.heap.size + 1, 0, none⟩ = some (.bool nfg) ∧ w'.cell? ⟨w.heap.size + 1, 1, none⟩ = some (.slice C p q) ∧ w'.cell? ⟨w.heap.size + 1, 2, none⟩ = some (.bool nfg') ∧ w'.cell? ⟨w.heap.size + 1, 3, none⟩ = some (.slice C' p' q'))
    (go_keep)
    (first
      | (go_at_call 69; (with_reducible refine (always_any 70 _).mono ?_); rintro e1 w1 ⟨g1, rfl, hg1, hc1, hb1⟩; (first | (with_reducible have K1 := K0.next hb1) | (with_reducible have K1 := K0.drew.next hb1) | (with_reducible have K1 := (K0.drewN _).next hb1)); obtain ⟨⟨xa1, xb1, xc1, xd1⟩, _, _⟩ := (K1.blk (g := w.heap.size) (vs := [.bool neg, .slice A n c, .bool neg', .slice A' n' c']) (by simp)).four; obtain ⟨⟨ya1, yb1, yc1, yd1⟩, _, _⟩ := (K1.blk (g := w.heap.size + 1) (vs := [.bool nfg, .slice C p q, .bool nfg', .slice C' p' q']) (by simp)).four)
      | (go_at_call 71; (with_reducible refine (do_sub g1 neg A n c l neg' A' n' c' l' nfg C p q k nfg' C' p' q' k' x y r _ ?_ ?_ ?_ ?_ HS.out hr).mono ?_); (first | (with_reducible exact hg1) | exact hg1); (first | (with_reducible exact hc1) | exact hc1); (first | exact hx0.next hb1 | exact (hx0.next (below_drewN (Below.refl _ _) 1)).next hb1 | exact (hx0.next hb1).next (below_drewN (Below.refl _ _) 1)); (first | exact hy0.next hb1 | exact (hy0.next (below_drewN (Below.refl _ _) 1)).next hb1 | exact (hy0.next hb1).next (below_drewN (Below.refl _ _) 1)); rintro e2 w2 ⟨neg2, A2, n2, c2, ne2, B2, m2, d2, rfl, I2, J2, hb2⟩; (first | (with_reducible have K2 := ((K1.next hb2).int J2).int I2) | (with_reducible have K2 := ((K1.drew.next hb2).int J2).int I2) | (with_reducible have K2 := (((K1.drewN _).next hb2).int J2).int I2)); obtain ⟨⟨xa2, xb2, xc2, xd2⟩, _, _⟩ := (K2.blk (g := w.heap.size) (vs := [.bool neg, .slice A n c, .bool neg', .slice A' n' c']) (by simp)).four; obtain ⟨⟨ya2, yb2, yc2, yd2⟩, _, _⟩ := (K2.blk (g := w.heap.size + 1) (vs := [.bool nfg, .slice C p q, .bool nfg', .slice C' p' q']) (by simp)).four; obtain ⟨⟨ra2, rb2, rc2, rd2⟩, ⟨re2, rf2, rg2, rh2⟩, ri2⟩ := (K2.blk (g := w.heap.size + 1 + 1) (vs := [.bool false, .slice none 0 0, .bool false, .slice none 0 0]) (by simp)).four; clear I2 J2 hb2)
      | fail)
  all_goals
   go_wp2_with fail
   have KE := (K2.pick (L' := [(w.heap.size + 1 + 1, [.bool false, .slice none 0 0, .bool false, .slice none 0 0])]) (l' := [(neg2, A2, n2, c2, r.num), (ne2, B2, m2, d2, (r.den : Int))]) (by simp) (by simp)).set4 (by simp <;> omega) neg2 A2 n2 c2 ne2 B2 m2 d2
   obtain ⟨l2, l3, O2⟩ := okF_of (KE.at_ (neg := neg2) (A := A2) (n := n2) (c := c2) (z := r.num) (by simp)) (KE.at_ (neg := ne2) (A := B2) (n := m2) (c := d2) (z := (r.den : Int)) (by simp)) HS.out
   exact bodyPost_ret (v := .tuple #[.agg #[.bool neg2, .slice A2 n2 c2, .bool ne2, .slice B2 m2 d2], .int .i64 0]) (by simp [results, Try.results38, go_sem, ra2, rb2, rc2, rd2]) rfl ⟨_, _, _, _, _, _, _, _, _, _, rfl, O2, KE.1⟩

end Go.Proofs.Ytdmdaoginojalaa
