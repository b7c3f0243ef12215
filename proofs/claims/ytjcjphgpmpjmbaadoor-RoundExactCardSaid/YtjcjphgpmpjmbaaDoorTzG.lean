/-
  The fractions (frac): may one be, what a float is worth, two against one another.
-/
import Derived.Test.YtjcjphgpmpjmbaaDoorTzF
import Derived.Test.YtjcjphgpmpjmbaaDoorExX
import Derived.Test.YtjcjphgpmpjmbaaDoorMaP
import Derived.Test.YtjcjphgpmpjmbaaDoorRaO
namespace Go.Proofs.YtjcjphgpmpjmbaaDoor
open Go.RowKit

/-- A fraction that may be, in memory as limbs, and what it is worth. -/
def OkF (w : World) (f : LmE) (r : Rat) : Prop := LmE.at_ w f ∧ okB f = true ∧ rv f = r
theorem OkF.next {w w' : World} {f : LmE} {r : Rat} (h : OkF w f r) (hb : Below w.heap.size w w') : OkF w' f r := ⟨LmE.at_.below h.1 hb, h.2⟩
theorem okF_of {w : World} {neg neg' : Bool} {A A' : Option Addr} {n c n' c' : Nat} {r : Rat} (I : IsInt w neg A n c r.num) (J : IsInt w neg' A' n' c' (r.den : Int)) (hs : Sz r 2048) :
    ∃ l l', OkF w ((neg, A, n, c, l), (neg', A', n', c', l')) r := by
  have h1 := int_len I hs.1
  have h2 := int_len J hs.2
  obtain ⟨l, S1, c1, g1, z1⟩ := I
  obtain ⟨l', S2, c2, g2, z2⟩ := J
  have hd : 0 < sgnd neg' (Lm.lv l') := by rw [← z2]; have := r.den_nz; omega
  have hg : Nat.gcd (Lm.lv l) (Lm.lv l') = 1 := by
    have e1 : r.num.natAbs = Lm.lv l := by rw [z1, sgnd_abs]
    have e2 : r.den = Lm.lv l' := by
      have : ((r.den : Int)).natAbs = Lm.lv l' := by rw [z2, sgnd_abs]
      simpa using this
    rw [← e1, ← e2]
    exact r.reduced
  refine ⟨l, l', ⟨S1, S2, Nat.le_trans h1 (by decide), Nat.le_trans h2 (by decide)⟩, (okB_iff _).2 ⟨⟨by show l.length ≤ 2048; have := S1.len; omega, c1, g1⟩, ⟨by show l'.length ≤ 2048; have := S2.len; omega, c2, g2⟩, hd, hg⟩, ?_⟩
  show Rat.divInt (sgnd neg (Lm.lv l)) (sgnd neg' (Lm.lv l')) = r
  rw [← z1, ← z2]
  exact Rat.num_divInt_den r
theorem OkF.ints {w : World} {neg : Bool} {A : Option Addr} {n c : Nat} {l : List Nat} {neg' : Bool} {A' : Option Addr} {n' c' : Nat} {l' : List Nat} {r : Rat} (h : OkF w ((neg, A, n, c, l), (neg', A', n', c', l')) r) : IsInt w neg A n c r.num ∧ IsInt w neg' A' n' c' (r.den : Int) ∧ Sz r 2048 := by
  have := ok_ints h.2.1 h.1
  rw [h.2.2] at this
  exact this

set_option maxRecDepth 100000 in
set_option maxHeartbeats 1600000 in
theorem frac_cmp_any (neg : Bool) (A : Option Addr) (n c : Nat) (l : List Nat) (neg' : Bool) (A' : Option Addr) (n' c' : Nat) (l' : List Nat) (nfg : Bool) (C : Option Addr) (p q : Nat) (k : List Nat) (nfg' : Bool) (C' : Option Addr) (p' q' : Nat) (k' : List Nat) (x y : Rat) (v : Int) (w : World) (hx : OkF w ((neg, A, n, c, l), (neg', A', n', c', l')) x) (hy : OkF w ((nfg, C, p, q, k), (nfg', C', p', q', k')) y) (hv : Hid (rcmp x y = v)) :
    Calls Tryd.prog 21 #[.agg #[.bool neg, .slice A n c, .bool neg', .slice A' n' c'], .agg #[.bool nfg, .slice C p q, .bool nfg', .slice C' p' q']] w (RetV w (.int .i64 v)) := by
  have K0 := ((Mm.nil w).var (g := w.heap.size) rfl [.bool neg, .slice A n c, .bool neg', .slice A' n' c'] 26).var (g := w.heap.size + 1) (by simp) [.bool nfg, .slice C p q, .bool nfg', .slice C' p' q'] 26
  have hx0 := hx.next K0.1
  have hy0 := hy.next K0.1
  have hL := lfs_two ((w.alloc (.cells #[.bool neg, .slice A n c, .bool neg', .slice A' n' c'] 26)).alloc (.cells #[.bool nfg, .slice C p q, .bool nfg', .slice C' p' q'] 26)) (g := w.heap.size + 1 + 1) (by simp) 26 hx0.1 hy0.1
  have HL := Lib.hid hL
  have HO : Hid (okAll (two ((neg, A, n, c, l), (neg', A', n', c', l')) ((nfg, C, p, q, k), (nfg', C', p', q', k'))) 2 = true) := Lib.hid (by rw [okAll_two, hx.2.1, hy.2.1]; rfl)
  clear hx hy hL
  go_enter Tryd.func21, Tryd.ntmps21
  go_wp2_with fail
  have KB := K0.box (.cells #[.bool neg, .slice A n c, .bool neg', .slice A' n' c', .bool nfg, .slice C p q, .bool nfg', .slice C' p' q'] 26)
  have hx1 := hx0.next (w' := ((w.alloc (.cells #[.bool neg, .slice A n c, .bool neg', .slice A' n' c'] 26)).alloc (.cells #[.bool nfg, .slice C p q, .bool nfg', .slice C' p' q'] 26)).alloc (.cells #[.bool neg, .slice A n c, .bool neg', .slice A' n' c', .bool nfg, .slice C p q, .bool nfg', .slice C' p' q'] 26)) ((Below.refl _ _).alloc (Nat.le_refl _) _)
  have hy1 := hy0.next (w' := ((w.alloc (.cells #[.bool neg, .slice A n c, .bool neg', .slice A' n' c'] 26)).alloc (.cells #[.bool nfg, .slice C p q, .bool nfg', .slice C' p' q'] 26)).alloc (.cells #[.bool neg, .slice A n c, .bool neg', .slice A' n' c', .bool nfg, .slice C p q, .bool nfg', .slice C' p' q'] 26)) ((Below.refl _ _).alloc (Nat.le_refl _) _)
  refine (rat_checks_any (w.heap.size + 1 + 1) 2 2 (two ((neg, A, n, c, l), (neg', A', n', c', l')) ((nfg, C, p, q, k), (nfg', C', p', q', k'))) _ HL.out (by decide) (by decide)).mono ?_
  rintro e1 w1 ⟨rfl, hb1⟩
  rw [HO.out]
  have K1 := KB.next hb1
  have hx2 := hx1.next hb1
  have hy2 := hy1.next hb1
  obtain ⟨i1, i2, i3⟩ := hx2.ints
  obtain ⟨j1, j2, j3⟩ := hy2.ints
  obtain ⟨⟨qa1, qb1, qc1, qd1⟩, _, _⟩ := (K1.blk (g := w.heap.size) (vs := [.bool neg, .slice A n c, .bool neg', .slice A' n' c']) (by simp)).four
  obtain ⟨⟨ra1, rb1, rc1, rd1⟩, _, _⟩ := (K1.blk (g := w.heap.size + 1) (vs := [.bool nfg, .slice C p q, .bool nfg', .slice C' p' q']) (by simp)).four
  clear hx0 hy0 hx1 hy1 hx2 hy2 K0 KB hb1
  go_wp2_with fail
  refine (rat_cmp_any neg neg' A A' n c n' c' nfg nfg' C C' p q p' q' x y v 2048 2048 _ i1 i2 j1 j2 i3 j3 (by decide) hv).mono ?_
  rintro e2 w2 ⟨rfl, hb2⟩
  go_wp2_with fail
  go_ret
  exact ⟨rfl, (K1.next hb2).1⟩

set_option maxRecDepth 100000 in
set_option maxHeartbeats 1600000 in
theorem frac_float_fin (x : Nat) (hx : x < 2 ^ 64) (w : World) (hT : Tab w) (hf : Flt.Fin x) : Calls Tryd.prog 35 #[.float .f64 x] w (fun e w' => ∃ (neg : Bool) (A : Option Addr) (n c : Nat) (l : List Nat) (neg' : Bool) (A' : Option Addr) (n' c' : Nat) (l' : List Nat), e = .returned (.tuple #[.agg #[.bool neg, .slice A n c, .bool neg', .slice A' n' c'], .int .i64 0]) ∧ OkF w' ((neg, A, n, c, l), (neg', A', n', c', l')) (fr x) ∧ Below w.heap.size w w') := by
  have hn : Flt.nanB x = false := by unfold Flt.nanB; unfold Flt.Fin at hf; simp; omega
  have hi : Flt.infB x = false := by unfold Flt.infB; unfold Flt.Fin at hf; simp; omega
  have HS := Lib.hid (fr_sz hf)
  have K0 := (Mm.nil w).var (g := w.heap.size) rfl [.bool false, .slice none 0 0, .bool false, .slice none 0 0] 26
  have HT := Lib.hid (hT.next K0.1)
  clear hf hT
  go_enter Tryd.func35, Tryd.ntmps35
  go_wp2_with (first | (go_at_call 14; refine (isNaN_any _ _).mono ?_; rintro e w' ⟨rfl, rfl⟩; rw [hn]) | (go_at_call 34; refine (isInf0_any _ hx _).mono ?_; rintro e w' ⟨rfl, rfl⟩; rw [hi]))
  refine (rat_float_any x hx _ HT.out).mono ?_
  rintro e4 w4 ⟨neg4, A4, n4, c4, ne4, B4, m4, d4, rfl, I4, J4, hb4⟩
  have K4 := ((K0.next hb4).int J4).int I4
  clear hb4 I4 J4 K0
  obtain ⟨⟨qa4r, qb4r, qc4r, qd4r⟩, ⟨qe4, qf4, qg4, qh4⟩, qi4⟩ := (K4.blk (g := w.heap.size) (vs := [.bool false, .slice none 0 0, .bool false, .slice none 0 0]) (by simp)).four
  go_wp2_with fail
  have KE := K4.set4 (by simp) neg4 A4 n4 c4 ne4 B4 m4 d4
  obtain ⟨l, l', hO⟩ := okF_of (KE.at_ (neg := neg4) (A := A4) (n := n4) (c := c4) (z := (fr x).num) (by simp)) (KE.at_ (neg := ne4) (A := B4) (n := m4) (c := d4) (z := ((fr x).den : Int)) (by simp)) (HS.out.mono (by decide))
  exact bodyPost_ret (v := .tuple #[.agg #[.bool neg4, .slice A4 n4 c4, .bool ne4, .slice B4 m4 d4], .int .i64 0]) (by simp [results, Tryd.results35, go_sem, qa4r, qb4r, qc4r, qd4r]) rfl ⟨_, _, _, _, _, _, _, _, _, _, rfl, hO, KE.1⟩
set_option maxRecDepth 100000 in
set_option maxHeartbeats 1600000 in
theorem frac_float_no (x : Nat) (hx : x < 2 ^ 64) (w : World) (hf : ¬ Flt.Fin x) : Calls Tryd.prog 35 #[.float .f64 x] w (RetV w (.tuple #[.agg #[.bool false, .slice none 0 0, .bool false, .slice none 0 0], .int .i64 6])) := by
  cases hn : Flt.nanB x with
  | true =>
    clear hf
    go_enter Tryd.func35, Tryd.ntmps35
    go_wp2_with (first | (go_at_call 14; refine (isNaN_any _ _).mono ?_; rintro e w' ⟨rfl, rfl⟩; rw [hn]) | fail)
    exact bodyPost_ret (v := .tuple #[.agg #[.bool false, .slice none 0 0, .bool false, .slice none 0 0], .int .i64 6]) (by simp [results, Tryd.results35, go_sem]) rfl ⟨rfl, by first | exact (Below.refl _ _).alloc (Nat.le_refl _) _ | exact below_result (below_result ((Below.refl _ _).alloc (Nat.le_refl _) _) (Nat.le_refl _) _ _) (Nat.le_refl _) _ _⟩
  | false =>
    have hi : Flt.infB x = true := by
      unfold Flt.nanB at hn
      unfold Flt.Fin at hf
      unfold Flt.infB
      simp at hn ⊢
      omega
    clear hf
    go_enter Tryd.func35, Tryd.ntmps35
    go_wp2_with (first | (go_at_call 14; refine (isNaN_any _ _).mono ?_; rintro e w' ⟨rfl, rfl⟩; rw [hn]) | (go_at_call 34; refine (isInf0_any _ hx _).mono ?_; rintro e w' ⟨rfl, rfl⟩; rw [hi]) | fail)
    exact bodyPost_ret (v := .tuple #[.agg #[.bool false, .slice none 0 0, .bool false, .slice none 0 0], .int .i64 6]) (by simp [results, Tryd.results35, go_sem]) rfl ⟨rfl, by first | exact (Below.refl _ _).alloc (Nat.le_refl _) _ | exact below_result (below_result ((Below.refl _ _).alloc (Nat.le_refl _) _) (Nat.le_refl _) _ _) (Nat.le_refl _) _ _⟩
end Go.Proofs.YtjcjphgpmpjmbaaDoor
