/-
  No number of a short fraction is too long (exact.Long, ratio.Long, ratio.Answer).
  What a float is worth (ratio.FromFloat): the table of the library lies in its place.
  May a fraction be? (ratio.Check, polestarref02.Check)
-/
import Derived.Test.YtgekmbfmfiikkaaGreatDoorRaL
import Derived.Test.YtgekmbfmfiikkaaGreatDoorRefX
import Ieee.Arith
import Derived.Lib.TrailingZeros
import Derived.Test.YtgekmbfmfiikkaaGreatDoorExG
import Derived.Test.YtgekmbfmfiikkaaGreatDoorCom
import Derived.Shelf.Spec.TrailingZeros
set_option maxHeartbeats 3200000
set_option maxRecDepth 100000
namespace Go.Proofs.YtgekmbfmfiikkaaGreatDoor
open Go.RowKit
theorem ex_long1_no (neg : Bool) (A : Option Addr) (n c : Nat) (w : World) (hn : n ≤ 2048) : Calls Tryz.prog 223 #[.agg #[.bool neg, .slice A n c]] w (RetV w (.bool false)) := by
 have hl : ¬ (2048 : Int) < (n : Int) := by omega
 go_enter Tryz.func223, Tryz.ntmps223
 go_wp2_with fail
 go_ret
 exact ⟨rfl, (Below.refl _ _).alloc (Nat.le_refl _) _⟩
theorem index_no (g : Nat) (neg : Bool) (A : Option Addr) (n c : Nat) (w : World) (hg : g < w.heap.size) (c0 : w.cell? ⟨g, 0, none⟩ = some (.bool neg)) (c1 : w.cell? ⟨g, 1, none⟩ = some (.slice A n c)) (hn : n ≤ 2048) :
  Calls Tryz.prog 280 #[.slice (some ⟨g, 0, none⟩) 1 1, .func (.func 223) #[] #[]] w (RetV w (.int .i64 (-1))) := by
 go_enter Tryz.func280, Tryz.ntmps280
 go_wp2_with fail
 go_loopw [8] (fun i wr => ∃ k : Nat, k ≤ 1 ∧ i = .int .i64 (k : Int) ∧ Below w.heap.size w wr) (fun i _ => 1 - (intOf i).toNat)
 case atStart => exact ⟨0, Nat.zero_le _, rfl, Below.refl _ _⟩
 case round =>
  obtain ⟨k, hk, rfl, hb⟩ := hrel
  match k, hk with
  | 0, _ =>
   have d0 := (hb.cell (p := ⟨g, 0, none⟩) hg).trans c0
   have d1 := (hb.cell (p := ⟨g, 1, none⟩) hg).trans c1
   have hsz := hb.size
   go_wp2_with fail
   refine (ex_long1_no neg A n c _ hn).mono ?_
   rintro e1 w1 ⟨rfl, hb1⟩
   have hb2 := hb.trans (hb1.mono hsz)
   go_wp2_with fail
   refine ⟨⟨1, by decide, rfl, hb2⟩, ?_⟩
   simp [intOf]
  | 1, _ =>
   go_wp2_with fail
   go_ret
   exact ⟨rfl, hb⟩
theorem contains_no (g : Nat) (neg : Bool) (A : Option Addr) (n c : Nat) (w : World) (hg : g < w.heap.size) (c0 : w.cell? ⟨g, 0, none⟩ = some (.bool neg)) (c1 : w.cell? ⟨g, 1, none⟩ = some (.slice A n c)) (hn : n ≤ 2048) :
  Calls Tryz.prog 222 #[.slice (some ⟨g, 0, none⟩) 1 1, .func (.func 223) #[] #[]] w (RetV w (.bool false)) := by
 go_enter Tryz.func222, Tryz.ntmps222
 go_wp2_with fail
 refine (index_no g neg A n c _ hg c0 c1 hn).mono ?_
 rintro e1 w1 ⟨rfl, hb1⟩
 go_wp2_with fail
 go_ret
 exact ⟨rfl, hb1⟩
theorem ex_long_no (g : Nat) (neg : Bool) (A : Option Addr) (n c : Nat) (w : World) (hg : g < w.heap.size) (c0 : w.cell? ⟨g, 0, none⟩ = some (.bool neg)) (c1 : w.cell? ⟨g, 1, none⟩ = some (.slice A n c)) (hn : n ≤ 2048) :
  Calls Tryz.prog 115 #[.slice (some ⟨g, 0, none⟩) 1 1] w (RetV w (.bool false)) := by
 go_enter Tryz.func115, Tryz.ntmps115
 go_wp2_with fail
 refine (contains_no g neg A n c _ hg c0 c1 hn).mono ?_
 rintro e1 w1 ⟨rfl, hb1⟩
 go_wp2_with fail
 go_ret
 exact ⟨rfl, hb1⟩
theorem rat_long_no (g : Nat) (neg neg' : Bool) (A A' : Option Addr) (n c n' c' : Nat) (w : World) (hg : g < w.heap.size) (c0 : w.cell? ⟨g, 0, none⟩ = some (.bool neg)) (c1 : w.cell? ⟨g, 1, none⟩ = some (.slice A n c)) (c2 : w.cell? ⟨g, 2, none⟩ = some (.bool neg')) (c3 : w.cell? ⟨g, 3, none⟩ = some (.slice A' n' c')) (hn : n ≤ 2048) (hn' : n' ≤ 2048) :
  Calls Tryz.prog 114 #[.slice (some ⟨g, 0, none⟩) 1 1] w (RetV w (.bool false)) := by
 go_enter Tryz.func114, Tryz.ntmps114
 go_wp2_with fail
 go_loopw [7] (fun i wr => ∃ k : Nat, k ≤ 1 ∧ i = .int .i64 (k : Int) ∧ Below w.heap.size w wr) (fun i _ => 1 - (intOf i).toNat)
 case atStart => exact ⟨0, Nat.zero_le _, rfl, Below.refl _ _⟩
 case round =>
  obtain ⟨k, hk, rfl, hb⟩ := hrel
  match k, hk with
  | 0, _ =>
   have d0 := (hb.cell (p := ⟨g, 0, none⟩) hg).trans c0
   have d1 := (hb.cell (p := ⟨g, 1, none⟩) hg).trans c1
   have d2 := (hb.cell (p := ⟨g, 2, none⟩) hg).trans c2
   have d3 := (hb.cell (p := ⟨g, 3, none⟩) hg).trans c3
   have hsz := hb.size
   have K0 := (Mm.nil wr).var (g := wr.heap.size) rfl [.bool neg, .slice A n c, .bool neg', .slice A' n' c'] 26
   go_upto_region 4 with (fail)
   generalize wr.alloc (.cells #[.bool neg, .slice A n c, .bool neg', .slice A' n' c'] 26) = w0 at K0 ⊢
   obtain ⟨⟨qa0, qb0, qc0, qd0⟩, _, _⟩ := (K0.blk (g := wr.heap.size) (by repeat constructor)).four
   go_wp2_with fail
   refine (ex_long_no w0.heap.size neg A n c _ (by simp) (by simp [go_sem]) (by simp [go_sem]) hn).mono ?_
   rintro e1 w1 ⟨rfl, hb1⟩
   have K1 := K0.next (below_box hb1)
   obtain ⟨⟨_, _, _, _⟩, _, _⟩ := (K1.blk (g := wr.heap.size) (by repeat constructor)).four
   clear K0 hb1 qa0 qb0 qc0 qd0
   go_wp2_with fail
   refine (ex_long_no w1.heap.size neg' A' n' c' _ (by simp) (by simp [go_sem]) (by simp [go_sem]) hn').mono ?_
   rintro e2 w2 ⟨rfl, hb2⟩
   have K2 := K1.next (below_box hb2)
   have hb3 := hb.trans (K2.1.mono hsz)
   clear K1 K2 hb2
   go_wp2_with fail
   refine ⟨⟨1, by decide, rfl, hb3⟩, ?_⟩
   simp [intOf]
  | 1, _ =>
   go_wp2_with fail
   go_ret
   exact ⟨rfl, hb⟩
theorem rat_answer_no (g : Nat) (neg neg' : Bool) (A A' : Option Addr) (n c n' c' : Nat) (w : World) (hg : g < w.heap.size) (c0 : w.cell? ⟨g, 0, none⟩ = some (.bool neg)) (c1 : w.cell? ⟨g, 1, none⟩ = some (.slice A n c)) (c2 : w.cell? ⟨g, 2, none⟩ = some (.bool neg')) (c3 : w.cell? ⟨g, 3, none⟩ = some (.slice A' n' c')) (hn : n ≤ 2048) (hn' : n' ≤ 2048) :
  Calls Tryz.prog 266 #[.slice (some ⟨g, 0, none⟩) 1 1] w (RetV w (.int .i64 0)) := by
 go_enter Tryz.func266, Tryz.ntmps266
 go_wp2_with fail
 refine (rat_long_no g neg neg' A A' n c n' c' _ hg c0 c1 c2 c3 hn hn').mono ?_
 rintro e1 w1 ⟨rfl, hb1⟩
 go_wp2_with fail
 go_ret
 exact ⟨rfl, hb1⟩
end Go.Proofs.YtgekmbfmfiikkaaGreatDoor
namespace Go.Proofs.YtgekmbfmfiikkaaGreatDoor
open Go.RowKit
theorem rat_nou_any (w : World) : Calls Tryz.prog 209 #[] w (RetFr w 0) := by
 have K0 := (Mm.nil w).var (g := w.heap.size) rfl [.bool false, .slice none 0 0, .bool false, .slice none 0 0] 26
 go_enter Tryz.func209, Tryz.ntmps209
 go_wp2_with fail
 refine (ex_of_any 1 _ (by decide)).mono ?_
 rintro e1 w1 ⟨neg1, A1, n1, c1, rfl, I1, hb1⟩
 have K1 := (K0.next hb1).int I1
 obtain ⟨⟨qa1r, qb1r, qc1r, qd1r⟩, ⟨_, _, _, _⟩, _⟩ := (K1.blk (g := w.heap.size) (by repeat constructor)).four
 clear I1 hb1
 go_wp2_with fail
 have KE := K1.set4 (by simp) false none 0 0 neg1 A1 n1 c1
 exact bodyPost_ret (v := .agg #[.bool false, .slice none 0 0, .bool neg1, .slice A1 n1 c1]) (by simp [results, Tryz.results209, go_sem, qa1r, qb1r, qc1r, qd1r]) rfl ⟨false, none, 0, 0, neg1, A1, n1, c1, rfl, isInt_nought, KE.at_ (by simp), KE.1⟩
end Go.Proofs.YtgekmbfmfiikkaaGreatDoor
namespace Go.Proofs.YtgekmbfmfiikkaaGreatDoor
open Go.RowKit
def okFr (neg : Bool) (l : List Nat) (neg' : Bool) (l' : List Nat) : Prop := okInt neg l ∧ okInt neg' l' ∧ 0 < sgnd neg' (Lm.lv l') ∧ Nat.gcd (Lm.lv l) (Lm.lv l') = 1
open Classical in
noncomputable def chkFr (neg : Bool) (l : List Nat) (neg' : Bool) (l' : List Nat) : Int := if okFr neg l neg' l' then 0 else 1
theorem chkFr_ok {neg : Bool} {l : List Nat} {neg' : Bool} {l' : List Nat} (h : okFr neg l neg' l') : chkFr neg l neg' l' = 0 := by unfold chkFr; rw [if_pos h]
theorem chkFr_no {neg : Bool} {l : List Nat} {neg' : Bool} {l' : List Nat} (h : ¬ okFr neg l neg' l') : chkFr neg l neg' l' = 1 := by unfold chkFr; rw [if_neg h]
theorem sgnd_abs (s : Bool) (a : Nat) : (sgnd s a).natAbs = a := by unfold sgnd; cases s <;> simp
theorem sign_pos {z : Int} (h : 0 < z) : z.sign = 1 := Int.sign_eq_one_of_pos h
theorem sign_not_pos {z : Int} (h : ¬ 0 < z) : z.sign = 0 ∨ z.sign = -1 := by
 rcases Int.lt_trichotomy z 0 with k | k | k
 ·exact .inr (Int.sign_eq_neg_one_of_neg k)
 ·subst k; exact .inl rfl
 ·exact absurd k h
theorem ref_below_int (neg neg' : Bool) (A A' : Option Addr) (n c n' c' : Nat) (x y : Int) (t : Bool) (w : World) (hx : IsInt w neg A n c x) (hy : IsInt w neg' A' n' c' y) (hn : n ≤ 1000000000) (hn' : n' ≤ 1000000000) (ht : Hid (decide (x < y) = t)) :
  Calls Tryz.prog 333 #[.agg #[.bool neg, .slice A n c], .agg #[.bool neg', .slice A' n' c']] w (RetV w (.bool t)) := by
 have hx2 := (hx.alloc (.cells #[.bool neg, .slice A n c] 24)).alloc (.cells #[.bool neg', .slice A' n' c'] 24)
 have hy2 := (hy.alloc (.cells #[.bool neg, .slice A n c] 24)).alloc (.cells #[.bool neg', .slice A' n' c'] 24)
 obtain ⟨v, hv⟩ : ∃ v, icmp x y = v := ⟨_, rfl⟩
 have hvt : decide (v < 0) = t := by
  rw [← ht.out, ← hv]
  unfold icmp
  split
  ·rename_i h; rw [decide_eq_true (show (-1 : Int) < 0 by decide), decide_eq_true h]
  ·rename_i h
   rw [decide_eq_false h]
   split <;> decide
 have HV := Lib.hid hv
 have HT := Lib.hid hvt
 clear hv hvt
 go_enter Tryz.func333, Tryz.ntmps333
 go_wp2_with fail
 refine (ref_cmp_int neg neg' A A' n c n' c' x y _ (by exact hx2) (by exact hy2) hn hn').mono ?_
 rintro e1 w1 ⟨rfl, hb1⟩
 rw [HV.out]
 go_wp2_with fail
 go_ret
 exact ⟨by rw [← HT.out]; rfl, below_box (below_box hb1)⟩
theorem ratio_check (neg neg' : Bool) (A A' : Option Addr) (n c n' c' : Nat) (l l' : List Nat) (w : World) (ha : Sl w A n c l) (hb : Sl w A' n' c' l') (hn : n ≤ 1000000000) (hn' : n' ≤ 1000000000) :
  Calls Tryz.prog 257 #[.agg #[.bool neg, .slice A n c, .bool neg', .slice A' n' c']] w (RetV w (.int .i64 (chkFr neg l neg' l'))) := by
 have K0 := (Mm.nil w).var (g := w.heap.size) rfl [.bool neg, .slice A n c, .bool neg', .slice A' n' c'] 26
 have ha0 := ha.below K0.1
 have hb0 := hb.below K0.1
 by_cases k1 : okInt neg l
 ·have E1 : Hid (chk neg l = 0) := Lib.hid (chk_ok k1)
  by_cases k2 : okInt neg' l'
  ·have E2 : Hid (chk neg' l' = 0) := Lib.hid (chk_ok k2)
   have HI1 : IsInt w neg A n c (sgnd neg (Lm.lv l)) := ⟨l, ha, k1.2.1, k1.2.2, rfl⟩
   have HI2 : IsInt w neg' A' n' c' (sgnd neg' (Lm.lv l')) := ⟨l', hb, k2.2.1, k2.2.2, rfl⟩
   have hl1 : n ≤ 2048 := by have := k1.1; have := ha.len; omega
   have hl2 : n' ≤ 2048 := by have := k2.1; have := hb.len; omega
   by_cases k3 : 0 < sgnd neg' (Lm.lv l')
   ·have E3 : Hid ((sgnd neg' (Lm.lv l')).sign = 1) := Lib.hid (sign_pos k3)
    obtain ⟨G, hG⟩ : ∃ G, Nat.gcd (Lm.lv l) (Lm.lv l') = G := ⟨_, rfl⟩
    have HG : Hid (Nat.gcd (sgnd neg (Lm.lv l)).natAbs (sgnd neg' (Lm.lv l')).natAbs = G) := Lib.hid (by rw [sgnd_abs, sgnd_abs]; exact hG)
    have HGB : Hid ((G : Int).natAbs < 2 ^ (32 * n')) := Lib.hid (by
     have hp : 0 < Lm.lv l' := by
      unfold sgnd at k3
      split at k3 <;> omega
     have h1 : G ≤ Lm.lv l' := by rw [← hG]; exact Nat.le_of_dvd hp (Nat.gcd_dvd_right _ _)
     have h2 := Lm.lv_lt hb.ok
     rw [hb.len, show Lm.B ^ n' = 2 ^ (32 * n') by rw [Nat.pow_mul]] at h2
     rw [Int.natAbs_natCast]
     omega)
    have HC : Hid (chkFr neg l neg' l' = if G = 1 then 0 else 1) := Lib.hid (by
     by_cases hg : G = 1
     ·rw [if_pos hg]; exact chkFr_ok ⟨k1, k2, k3, by rw [hG, hg]⟩
     ·rw [if_neg hg]; exact chkFr_no (fun h => hg (by rw [← hG]; exact h.2.2.2)))
    have K0 := (((Mm.nil w).int HI1).int HI2).var (g := w.heap.size) rfl [.bool neg, .slice A n c, .bool neg', .slice A' n' c'] 26
    clear k1 k2 k3 hG HI1 HI2 ha hb
    go_enter Tryz.func257, Tryz.ntmps257
    go_wp2_with fail
    refine (ex_check_sl neg A n c l _ ha0 hn).mono ?_
    rintro e1 w1 ⟨rfl, hb1⟩
    rw [E1.out]
    have K1 := (K0.next hb1)
    have ha1 := ha0.below hb1
    have hb1' := hb0.below hb1
    obtain ⟨⟨qa1, qb1, qc1, qd1⟩, ⟨qe1, qf1, qg1, qh1⟩, qi1⟩ := (K1.blk (g := w.heap.size) (by repeat constructor)).four
    go_wp2_with fail
    refine (ex_check_sl neg' A' n' c' l' _ hb1' hn').mono ?_
    rintro e2 w2 ⟨rfl, hb2⟩
    rw [E2.out]
    have K2 := (K1.next hb2)
    have ha2 := ha1.below hb2
    have hb2' := hb1'.below hb2
    obtain ⟨⟨qa2, qb2, qc2, qd2⟩, ⟨qe2, qf2, qg2, qh2⟩, qi2⟩ := (K2.blk (g := w.heap.size) (by repeat constructor)).four
    go_wp2_with fail
    refine (ex_sign_any neg' A' n' c' _ _ (K2.at_ (neg := neg') (A := A') (n := n') (c := c') (z := sgnd neg' (Lm.lv l')) (by simp))).mono ?_
    rintro e3 w3 ⟨rfl, hb3⟩
    rw [E3.out]
    have K3 := (K2.next hb3)
    have ha3 := ha2.below hb3
    have hb3' := hb2'.below hb3
    obtain ⟨⟨qa3, qb3, qc3, qd3⟩, ⟨qe3, qf3, qg3, qh3⟩, qi3⟩ := (K3.blk (g := w.heap.size) (by repeat constructor)).four
    go_wp2_with fail
    refine (ex_Common_any neg neg' A A' n c n' c' _ _ G _ (K3.at_ (neg := neg) (A := A) (n := n) (c := c) (z := sgnd neg (Lm.lv l)) (by simp)) (K3.at_ (neg := neg') (A := A') (n := n') (c := c') (z := sgnd neg' (Lm.lv l')) (by simp)) (by omega) (by omega) HG).mono ?_
    rintro e4 w4 ⟨ng, Ag, m4, c4, rfl, I4, hb4⟩
    have hm4 : m4 ≤ n' := int_len I4 HGB.out
    have K4 := (K3.next hb4).int I4
    clear I4
    go_wp2_with fail
    refine (ex_of_any 1 _ (by decide)).mono ?_
    rintro e5 w5 ⟨no, Ao, m5, c5, rfl, I5, hb5⟩
    have hm5 : m5 ≤ 1 := int_len I5 (by decide)
    have K5 := (K4.next hb5).int I5
    clear I5
    go_wp2_with fail
    refine (ex_cmp_int ng no Ag Ao m4 c4 m5 c5 (G : Int) 1 _ (K5.at_ (by simp)) (K5.at_ (by simp)) (by omega) (by omega)).mono ?_
    rintro e6 w6 ⟨rfl, hb6⟩
    have K6 := K5.next hb6
    by_cases hg : G = 1
    ·have E6 : Hid (icmp (G : Int) 1 = 0) := Lib.hid (by rw [hg]; rfl)
     rw [E6.out]
     rw [if_pos hg] at HC
     clear hg
     go_wp2_with fail
     go_ret
     exact ⟨by rw [HC.out]; rfl, K6.1⟩
    ·obtain ⟨v, hv⟩ : ∃ v, icmp (G : Int) 1 = v := ⟨_, rfl⟩
     have hv0 : (v != 0) = true := by
      rw [← hv]; unfold icmp
      split
      ·rfl
      ·rw [if_pos (by omega)]; rfl
     rw [hv]
     rw [if_neg hg] at HC
     clear hg hv
     go_wp2_with fail
     go_ret
     exact ⟨by rw [HC.out]; rfl, K6.1⟩
   ·obtain ⟨S, hS⟩ : ∃ S, (sgnd neg' (Lm.lv l')).sign = S := ⟨_, rfl⟩
    have hS0 : S ≤ 0 := by rw [← hS]; rcases sign_not_pos k3 with h | h <;> omega
    have E3 := Lib.hid hS
    have HC := Lib.hid (chkFr_no (neg := neg) (l := l) (neg' := neg') (l' := l') (fun h => k3 h.2.2.1))
    have K0 := (((Mm.nil w).int HI1).int HI2).var (g := w.heap.size) rfl [.bool neg, .slice A n c, .bool neg', .slice A' n' c'] 26
    clear k1 k2 k3 hS HI1 HI2 ha hb
    go_enter Tryz.func257, Tryz.ntmps257
    go_wp2_with fail
    refine (ex_check_sl neg A n c l _ ha0 hn).mono ?_
    rintro e1 w1 ⟨rfl, hb1⟩
    rw [E1.out]
    have K1 := (K0.next hb1)
    have ha1 := ha0.below hb1
    have hb1' := hb0.below hb1
    obtain ⟨⟨qa1, qb1, qc1, qd1⟩, ⟨qe1, qf1, qg1, qh1⟩, qi1⟩ := (K1.blk (g := w.heap.size) (by repeat constructor)).four
    go_wp2_with fail
    refine (ex_check_sl neg' A' n' c' l' _ hb1' hn').mono ?_
    rintro e2 w2 ⟨rfl, hb2⟩
    rw [E2.out]
    have K2 := (K1.next hb2)
    have ha2 := ha1.below hb2
    have hb2' := hb1'.below hb2
    obtain ⟨⟨qa2, qb2, qc2, qd2⟩, ⟨qe2, qf2, qg2, qh2⟩, qi2⟩ := (K2.blk (g := w.heap.size) (by repeat constructor)).four
    go_wp2_with fail
    refine (ex_sign_any neg' A' n' c' _ _ (K2.at_ (neg := neg') (A := A') (n := n') (c := c') (z := sgnd neg' (Lm.lv l')) (by simp))).mono ?_
    rintro e3 w3 ⟨rfl, hb3⟩
    rw [E3.out]
    have K3 := (K2.next hb3)
    have ha3 := ha2.below hb3
    have hb3' := hb2'.below hb3
    obtain ⟨⟨qa3, qb3, qc3, qd3⟩, ⟨qe3, qf3, qg3, qh3⟩, qi3⟩ := (K3.blk (g := w.heap.size) (by repeat constructor)).four
    go_wp2_with fail
    go_ret
    exact ⟨by rw [HC.out]; rfl, K3.1⟩
  ·have E2 : Hid (chk neg' l' = 1) := Lib.hid (chk_no k2)
   have HC := Lib.hid (chkFr_no (neg := neg) (l := l) (neg' := neg') (l' := l') (fun h => k2 h.2.1))
   clear k1 k2 ha hb
   go_enter Tryz.func257, Tryz.ntmps257
   go_wp2_with fail
   refine (ex_check_sl neg A n c l _ ha0 hn).mono ?_
   rintro e1 w1 ⟨rfl, hb1⟩
   rw [E1.out]
   have K1 := (K0.next hb1)
   have ha1 := ha0.below hb1
   have hb1' := hb0.below hb1
   obtain ⟨⟨qa1, qb1, qc1, qd1⟩, ⟨qe1, qf1, qg1, qh1⟩, qi1⟩ := (K1.blk (g := w.heap.size) (by repeat constructor)).four
   go_wp2_with fail
   refine (ex_check_sl neg' A' n' c' l' _ hb1' hn').mono ?_
   rintro e2 w2 ⟨rfl, hb2⟩
   rw [E2.out]
   have K2 := (K1.next hb2)
   have ha2 := ha1.below hb2
   have hb2' := hb1'.below hb2
   obtain ⟨⟨qa2, qb2, qc2, qd2⟩, ⟨qe2, qf2, qg2, qh2⟩, qi2⟩ := (K2.blk (g := w.heap.size) (by repeat constructor)).four
   go_wp2_with fail
   go_ret
   exact ⟨by rw [HC.out]; rfl, K2.1⟩
 ·have E1 : Hid (chk neg l = 1) := Lib.hid (chk_no k1)
  have HC := Lib.hid (chkFr_no (neg := neg) (l := l) (neg' := neg') (l' := l') (fun h => k1 h.1))
  clear k1 ha hb
  go_enter Tryz.func257, Tryz.ntmps257
  go_wp2_with fail
  refine (ex_check_sl neg A n c l _ ha0 hn).mono ?_
  rintro e1 w1 ⟨rfl, hb1⟩
  rw [E1.out]
  have K1 := (K0.next hb1)
  have ha1 := ha0.below hb1
  have hb1' := hb0.below hb1
  obtain ⟨⟨qa1, qb1, qc1, qd1⟩, ⟨qe1, qf1, qg1, qh1⟩, qi1⟩ := (K1.blk (g := w.heap.size) (by repeat constructor)).four
  go_wp2_with fail
  go_ret
  exact ⟨by rw [HC.out]; rfl, K1.1⟩
theorem ref2_check (neg neg' : Bool) (A A' : Option Addr) (n c n' c' : Nat) (l l' : List Nat) (w : World) (ha : Sl w A n c l) (hb : Sl w A' n' c' l') (hn : n ≤ 1000000000) (hn' : n' ≤ 1000000000) :
  Calls Tryz.prog 258 #[.agg #[.bool neg, .slice A n c, .bool neg', .slice A' n' c']] w (RetV w (.int .i64 (chkFr neg l neg' l'))) := by
 have K0 := (Mm.nil w).var (g := w.heap.size) rfl [.bool neg, .slice A n c, .bool neg', .slice A' n' c'] 26
 have ha0 := ha.below K0.1
 have hb0 := hb.below K0.1
 by_cases k1 : okInt neg l
 ·have E1 : Hid (chk neg l = 0) := Lib.hid (chk_ok k1)
  by_cases k2 : okInt neg' l'
  ·have E2 : Hid (chk neg' l' = 0) := Lib.hid (chk_ok k2)
   have HI1 : IsInt w neg A n c (sgnd neg (Lm.lv l)) := ⟨l, ha, k1.2.1, k1.2.2, rfl⟩
   have HI2 : IsInt w neg' A' n' c' (sgnd neg' (Lm.lv l')) := ⟨l', hb, k2.2.1, k2.2.2, rfl⟩
   have hl1 : n ≤ 2048 := by have := k1.1; have := ha.len; omega
   have hl2 : n' ≤ 2048 := by have := k2.1; have := hb.len; omega
   by_cases k3 : 0 < sgnd neg' (Lm.lv l')
   ·have E3 : Hid ((sgnd neg' (Lm.lv l')).sign = 1) := Lib.hid (sign_pos k3)
    obtain ⟨G, hG⟩ : ∃ G, Nat.gcd (Lm.lv l) (Lm.lv l') = G := ⟨_, rfl⟩
    have HG : Hid (Nat.gcd (sgnd neg (Lm.lv l)).natAbs (sgnd neg' (Lm.lv l')).natAbs = G) := Lib.hid (by rw [sgnd_abs, sgnd_abs]; exact hG)
    have HGB : Hid ((G : Int).natAbs < 2 ^ (32 * n')) := Lib.hid (by
     have hp : 0 < Lm.lv l' := by
      unfold sgnd at k3
      split at k3 <;> omega
     have h1 : G ≤ Lm.lv l' := by rw [← hG]; exact Nat.le_of_dvd hp (Nat.gcd_dvd_right _ _)
     have h2 := Lm.lv_lt hb.ok
     rw [hb.len, show Lm.B ^ n' = 2 ^ (32 * n') by rw [Nat.pow_mul]] at h2
     rw [Int.natAbs_natCast]
     omega)
    have HC : Hid (chkFr neg l neg' l' = if G = 1 then 0 else 1) := Lib.hid (by
     by_cases hg : G = 1
     ·rw [if_pos hg]; exact chkFr_ok ⟨k1, k2, k3, by rw [hG, hg]⟩
     ·rw [if_neg hg]; exact chkFr_no (fun h => hg (by rw [← hG]; exact h.2.2.2)))
    have K0 := (((Mm.nil w).int HI1).int HI2).var (g := w.heap.size) rfl [.bool neg, .slice A n c, .bool neg', .slice A' n' c'] 26
    clear k1 k2 k3 hG HI1 HI2 ha hb
    go_enter Tryz.func258, Tryz.ntmps258
    go_wp2_with fail
    refine (ref_check_sl neg A n c l _ ha0 hn).mono ?_
    rintro e1 w1 ⟨rfl, hb1⟩
    rw [E1.out]
    have K1 := (K0.next hb1)
    have ha1 := ha0.below hb1
    have hb1' := hb0.below hb1
    obtain ⟨⟨qa1, qb1, qc1, qd1⟩, ⟨qe1, qf1, qg1, qh1⟩, qi1⟩ := (K1.blk (g := w.heap.size) (by repeat constructor)).four
    go_wp2_with fail
    refine (ref_check_sl neg' A' n' c' l' _ hb1' hn').mono ?_
    rintro e2 w2 ⟨rfl, hb2⟩
    rw [E2.out]
    have K2 := (K1.next hb2)
    have ha2 := ha1.below hb2
    have hb2' := hb1'.below hb2
    obtain ⟨⟨qa2, qb2, qc2, qd2⟩, ⟨qe2, qf2, qg2, qh2⟩, qi2⟩ := (K2.blk (g := w.heap.size) (by repeat constructor)).four
    go_wp2_with fail
    refine (ref_sign_any neg' A' n' c' _ _ (K2.at_ (neg := neg') (A := A') (n := n') (c := c') (z := sgnd neg' (Lm.lv l')) (by simp))).mono ?_
    rintro e3 w3 ⟨rfl, hb3⟩
    rw [E3.out]
    have K3 := (K2.next hb3)
    have ha3 := ha2.below hb3
    have hb3' := hb2'.below hb3
    obtain ⟨⟨qa3, qb3, qc3, qd3⟩, ⟨qe3, qf3, qg3, qh3⟩, qi3⟩ := (K3.blk (g := w.heap.size) (by repeat constructor)).four
    go_wp2_with fail
    refine (ref2_common_any neg neg' A A' n c n' c' _ _ G _ (K3.at_ (neg := neg) (A := A) (n := n) (c := c) (z := sgnd neg (Lm.lv l)) (by simp)) (K3.at_ (neg := neg') (A := A') (n := n') (c := c') (z := sgnd neg' (Lm.lv l')) (by simp)) (by omega) (by omega) HG).mono ?_
    rintro e4 w4 ⟨ng, Ag, m4, c4, rfl, I4, hb4⟩
    have hm4 : m4 ≤ n' := int_len I4 HGB.out
    have K4 := ((K3.next hb4).int I4).var (g := w4.heap.size) rfl [.bool ng, .slice Ag m4 c4] 24
    clear I4
    obtain ⟨t, ht⟩ : ∃ t, decide ((1 : Int) < (G : Int)) = t := ⟨_, rfl⟩
    have HT := Lib.hid ht
    clear ht
    have qv := (K4.blk (g := w4.heap.size) (by repeat constructor)).two
    generalize hw5 : w4.alloc (.cells #[.bool ng, .slice Ag m4 c4] 24) = w5 at K4 qv
    obtain ⟨qv0, qv1, qv2, qv3, qv4⟩ := qv
    go_wp2_with fail
    try rw [hw5]
    go_region_held3 (fun w' => w'.cell? ⟨w4.heap.size, 0, none⟩ = some (.bool ng) ∧ w'.cell? ⟨w4.heap.size, 1, none⟩ = some (.slice Ag m4 c4))
     (go_keep)
     (first
      | (go_at_call 284; apply Calls.withMm (w0 := w); (case K => with_reducible repeat (first | exact K4 | apply Mm.drew | apply Mm.drewN)); intro KX; (with_reducible refine (ref_of_any 1 _ ?_).mono ?_); (focus (decide; done)); rintro e6 w6 ⟨no, Ao, m6, c6, rfl, I6, hb6⟩; have hm6 : m6 ≤ 1 := int_len I6 (by decide); (with_reducible have K6 := (KX.next hb6).int I6); obtain ⟨za, zb, zc, zd, ze⟩ := (K6.blk (g := w4.heap.size) (by repeat constructor)).two; clear KX I6 hb6)
      | (go_at_call 333; apply Calls.withMm (w0 := w); (case K => with_reducible repeat (first | exact K6 | apply Mm.drew | apply Mm.drewN)); intro KX; (with_reducible refine (ref_below_int no ng Ao Ag m6 c6 m4 c4 1 (G : Int) t _ ?_ ?_ (by omega) (by omega) HT).mono ?_); (with_reducible exact KX.at_ (by simp)); (with_reducible exact KX.at_ (by simp)); rintro e7 w7 ⟨rfl, hb7⟩; (with_reducible have K7 := KX.next hb7); obtain ⟨ya, yb, yc, yd, ye⟩ := (K7.blk (g := w4.heap.size) (by repeat constructor)).two; clear KX hb7))
    have hG0 : G ≠ 0 := fun h => by
     have := HG.out
     rw [h, sgnd_abs, sgnd_abs] at this
     have h2 := Nat.eq_zero_of_gcd_eq_zero_right this
     have h3 := E3.out
     rw [h2] at h3
     unfold sgnd at h3
     split at h3 <;> exact absurd h3 (by decide)
    by_cases hg : G = 1
    ·have ht : t = false := by rw [← HT.out]; exact decide_eq_false (by omega)
     subst ht
     rw [if_pos hg] at HC
     clear hg
     go_wp2_with fail
     go_ret
     exact ⟨by rw [HC.out]; rfl, K7.1⟩
    ·have ht : t = true := by rw [← HT.out]; exact decide_eq_true (by omega)
     subst ht
     rw [if_neg hg] at HC
     clear hg
     go_wp2_with fail
     go_ret
     exact ⟨by rw [HC.out]; rfl, K7.1⟩
   ·obtain ⟨S, hS⟩ : ∃ S, (sgnd neg' (Lm.lv l')).sign = S := ⟨_, rfl⟩
    have hS0 : S ≤ 0 := by rw [← hS]; rcases sign_not_pos k3 with h | h <;> omega
    have E3 := Lib.hid hS
    have HC := Lib.hid (chkFr_no (neg := neg) (l := l) (neg' := neg') (l' := l') (fun h => k3 h.2.2.1))
    have K0 := (((Mm.nil w).int HI1).int HI2).var (g := w.heap.size) rfl [.bool neg, .slice A n c, .bool neg', .slice A' n' c'] 26
    clear k1 k2 k3 hS HI1 HI2 ha hb
    go_enter Tryz.func258, Tryz.ntmps258
    go_wp2_with fail
    refine (ref_check_sl neg A n c l _ ha0 hn).mono ?_
    rintro e1 w1 ⟨rfl, hb1⟩
    rw [E1.out]
    have K1 := (K0.next hb1)
    have ha1 := ha0.below hb1
    have hb1' := hb0.below hb1
    obtain ⟨⟨qa1, qb1, qc1, qd1⟩, ⟨qe1, qf1, qg1, qh1⟩, qi1⟩ := (K1.blk (g := w.heap.size) (by repeat constructor)).four
    go_wp2_with fail
    refine (ref_check_sl neg' A' n' c' l' _ hb1' hn').mono ?_
    rintro e2 w2 ⟨rfl, hb2⟩
    rw [E2.out]
    have K2 := (K1.next hb2)
    have ha2 := ha1.below hb2
    have hb2' := hb1'.below hb2
    obtain ⟨⟨qa2, qb2, qc2, qd2⟩, ⟨qe2, qf2, qg2, qh2⟩, qi2⟩ := (K2.blk (g := w.heap.size) (by repeat constructor)).four
    go_wp2_with fail
    refine (ref_sign_any neg' A' n' c' _ _ (K2.at_ (neg := neg') (A := A') (n := n') (c := c') (z := sgnd neg' (Lm.lv l')) (by simp))).mono ?_
    rintro e3 w3 ⟨rfl, hb3⟩
    rw [E3.out]
    have K3 := (K2.next hb3)
    have ha3 := ha2.below hb3
    have hb3' := hb2'.below hb3
    obtain ⟨⟨qa3, qb3, qc3, qd3⟩, ⟨qe3, qf3, qg3, qh3⟩, qi3⟩ := (K3.blk (g := w.heap.size) (by repeat constructor)).four
    go_wp2_with fail
    go_ret
    exact ⟨by rw [HC.out]; rfl, K3.1⟩
  ·have E2 : Hid (chk neg' l' = 1) := Lib.hid (chk_no k2)
   have HC := Lib.hid (chkFr_no (neg := neg) (l := l) (neg' := neg') (l' := l') (fun h => k2 h.2.1))
   clear k1 k2 ha hb
   go_enter Tryz.func258, Tryz.ntmps258
   go_wp2_with fail
   refine (ref_check_sl neg A n c l _ ha0 hn).mono ?_
   rintro e1 w1 ⟨rfl, hb1⟩
   rw [E1.out]
   have K1 := (K0.next hb1)
   have ha1 := ha0.below hb1
   have hb1' := hb0.below hb1
   obtain ⟨⟨qa1, qb1, qc1, qd1⟩, ⟨qe1, qf1, qg1, qh1⟩, qi1⟩ := (K1.blk (g := w.heap.size) (by repeat constructor)).four
   go_wp2_with fail
   refine (ref_check_sl neg' A' n' c' l' _ hb1' hn').mono ?_
   rintro e2 w2 ⟨rfl, hb2⟩
   rw [E2.out]
   have K2 := (K1.next hb2)
   have ha2 := ha1.below hb2
   have hb2' := hb1'.below hb2
   obtain ⟨⟨qa2, qb2, qc2, qd2⟩, ⟨qe2, qf2, qg2, qh2⟩, qi2⟩ := (K2.blk (g := w.heap.size) (by repeat constructor)).four
   go_wp2_with fail
   go_ret
   exact ⟨by rw [HC.out]; rfl, K2.1⟩
 ·have E1 : Hid (chk neg l = 1) := Lib.hid (chk_no k1)
  have HC := Lib.hid (chkFr_no (neg := neg) (l := l) (neg' := neg') (l' := l') (fun h => k1 h.1))
  clear k1 ha hb
  go_enter Tryz.func258, Tryz.ntmps258
  go_wp2_with fail
  refine (ref_check_sl neg A n c l _ ha0 hn).mono ?_
  rintro e1 w1 ⟨rfl, hb1⟩
  rw [E1.out]
  have K1 := (K0.next hb1)
  have ha1 := ha0.below hb1
  have hb1' := hb0.below hb1
  obtain ⟨⟨qa1, qb1, qc1, qd1⟩, ⟨qe1, qf1, qg1, qh1⟩, qi1⟩ := (K1.blk (g := w.heap.size) (by repeat constructor)).four
  go_wp2_with fail
  go_ret
  exact ⟨by rw [HC.out]; rfl, K1.1⟩
end Go.Proofs.YtgekmbfmfiikkaaGreatDoor
