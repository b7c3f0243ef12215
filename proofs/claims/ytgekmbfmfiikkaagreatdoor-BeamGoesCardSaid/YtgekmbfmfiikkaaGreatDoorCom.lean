/-
  The references' whole numbers (polestarref01): the greatest number that goes into both, by halving.
-/
import Derived.Test.YtgekmbfmfiikkaaGreatDoorRefX
import Derived.Deep.LoopGhost
namespace Go.Proofs.YtgekmbfmfiikkaaGreatDoor
open Go.RowKit
def Lv (w : World) (A : Option Addr) (n c X : Nat) : Prop := ∃ l, Sl w A n c l ∧ Lm.canon l ∧ Lm.lv l = X
theorem Lv.below {w w' : World} {A : Option Addr} {n c X : Nat} (h : Lv w A n c X) (hb : Below w.heap.size w w') : Lv w' A n c X := by
 obtain ⟨l, h1, h2⟩ := h
 exact ⟨l, h1.below hb, h2⟩
theorem Lv.drewN {w : World} {A : Option Addr} {n c X : Nat} (h : Lv w A n c X) (j : Nat) : Lv (w.drewN j) A n c X := h.below (below_drewN (Below.refl _ _) j)
theorem Lv.zero {w : World} {A : Option Addr} {n c X : Nat} (h : Lv w A n c X) : n = 0 ↔ X = 0 := by
 obtain ⟨l, h1, h2, rfl⟩ := h
 rw [Lm.lv_zero h2, ← h1.len]
 exact List.length_eq_zero_iff
theorem Lv.lt {w : World} {A : Option Addr} {n c X : Nat} (h : Lv w A n c X) : X < 2 ^ (32 * n) := by
 obtain ⟨l, h1, h2, rfl⟩ := h
 have := Lm.lv_lt h1.ok
 rw [h1.len] at this
 rw [Nat.pow_mul]
 exact this
theorem lv_of_int {w : World} {neg : Bool} {A : Option Addr} {n c : Nat} {z : Int} (h : IsInt w neg A n c z) : Lv w A n c z.natAbs := by
 obtain ⟨l, h1, h2, _, rfl⟩ := h
 refine ⟨l, h1, h2, ?_⟩
 unfold sgnd
 split <;> omega
theorem Lv.int {w : World} {A : Option Addr} {n c X : Nat} (h : Lv w A n c X) : IsInt w false A n c (X : Int) := by
 obtain ⟨l, h1, h2, rfl⟩ := h
 exact ⟨l, h1, h2, fun _ => rfl, rfl⟩
def RetLv (W : World) (X n0 : Nat) (e : Ending) (w' : World) : Prop := ∃ A n c, e = .returned (.slice A n c) ∧ Lv w' A n c X ∧ n ≤ n0 ∧ Below W.heap.size W w'
theorem ref_even_any (A : Option Addr) (n c X : Nat) (b : Bool) (w : World) (h : Lv w A n c X) (h0 : 0 < X) (hb : Hid (decide (X % 2 = 0) = b)) :
  Calls Tryz.prog 371 #[.slice A n c] w fun e w' => e = .returned (.bool b) ∧ w = w' := by
 have hn : 0 < n := by
  rcases Nat.eq_zero_or_pos n with k | k
  ·have := h.zero.1 k; omega
  ·exact k
 obtain ⟨l, h1, _, hX⟩ := h
 obtain ⟨ad, rfl, _, hl, hc, hx⟩ := h1.at_ hn
 have e : X % 2 = l[0] % 2 := by
  match l, hl, hX with
  | x :: xs, _, hX =>
   have : Lm.lv (x :: xs) = x + 4294967296 * Lm.lv xs := rfl
   simp only [List.getElem_cons_zero]
   omega
 obtain ⟨x, hxx⟩ : ∃ x, l[0] = x := ⟨_, rfl⟩
 rw [hxx] at hc hx e
 have hadd : ad.add 0 = ad := by unfold Addr.add; simp
 rw [hadd] at hc
 clear hadd
 have HB : Hid (decide (x % 2 = 0) = b) := Lib.hid (by rw [← e]; exact hb.out)
 clear hxx e hX h1 hl
 cases b with
 | true =>
  have hx2 : x % 2 = 0 := of_decide_eq_true HB.out
  have hd : ((x : Int) % 2 == 0) = true := by rw [beq_iff_eq]; omega
  go_enter Tryz.func371, Tryz.ntmps371
  go_wp2_with fail
  go_ret
  exact ⟨rfl, rfl⟩
 | false =>
  have hx2 : ¬ x % 2 = 0 := of_decide_eq_false HB.out
  have hd : ((x : Int) % 2 == 0) = false := by rw [beq_eq_false_iff_ne]; omega
  go_enter Tryz.func371, Tryz.ntmps371
  go_wp2_with fail
  go_ret
  exact ⟨rfl, rfl⟩
theorem ref_half_lv (A : Option Addr) (n c X Y : Nat) (w : World) (h : Lv w A n c X) (hn : n ≤ 1000000000) (hY : Hid (X / 2 = Y)) :
  Calls Tryz.prog 288 #[.slice A n c] w (RetLv w Y n) := by
 obtain ⟨l0, ha, _, hX⟩ := h
 have HX := Lib.hid hX
 clear hX
 go_enter Tryz.func288, Tryz.ntmps288
 go_wp2_with fail
 refine (ref_short_any A n c 2 l0 _ ha hn (by decide) (by decide)).mono ?_
 rintro e w1 ⟨A1, n1, c1, l, r, rfl, hS, ⟨hv, hr, hc, hl⟩, hb⟩
 have HV := Lib.hid hv
 clear hv
 go_wp2_with fail
 go_ret
 have e := HV.out
 rw [HX.out] at e
 have e2 := hY.out
 exact ⟨A1, n1, c1, rfl, ⟨l, hS, hc, by omega⟩, by rw [← hS.len]; exact hl, hb⟩
theorem ref_sub_lv (A A' : Option Addr) (n c n' c' X Y Z : Nat) (w : World) (ha : Lv w A n c X) (hb : Lv w A' n' c' Y) (hn : n ≤ 1000000000) (hle : Y ≤ X) (hZ : Hid (X - Y = Z)) :
  Calls Tryz.prog 348 #[.slice A n c, .slice A' n' c'] w (RetLv w Z n) := by
 obtain ⟨a, ha, ca, rfl⟩ := ha
 obtain ⟨b, hb, cb, rfl⟩ := hb
 have hn' : n' ≤ n := by
  rcases Nat.lt_or_ge n n' with k | k
  ·have := Lm.len_of_lv ha.ok hb.ok cb (by rw [ha.len, hb.len]; exact k)
   omega
  ·exact k
 refine (ref_sub_any A A' n c n' c' a b w ha hb hn hn' hle).mono ?_
 rintro e w' ⟨A1, n1, c1, l, rfl, hS, ⟨hv, hc, hl⟩, hbw⟩
 exact ⟨A1, n1, c1, rfl, ⟨l, hS, hc, by rw [hv]; exact hZ.out⟩, by rw [← hS.len]; exact hl, hbw⟩
theorem ref_cmp_lt (A A' : Option Addr) (n c n' c' X Y : Nat) (w : World) (ha : Lv w A n c X) (hb : Lv w A' n' c' Y) (hn : n ≤ 1000000000) (hn' : n' ≤ 1000000000) (hlt : X < Y) :
  Calls Tryz.prog 347 #[.slice A n c, .slice A' n' c'] w fun e w' => e = .returned (.int .i64 (-1)) ∧ ∃ j, w' = w.drewN j := by
 obtain ⟨a, ha, ca, rfl⟩ := ha
 obtain ⟨b, hb, cb, rfl⟩ := hb
 refine (ref_cmp_any A A' n c n' c' a b w ha hb ca cb hn hn').mono ?_
 rintro e w' ⟨rfl, h⟩
 exact ⟨by rw [Lm.cmp_neg hlt], h⟩
def RetGe (W : World) (e : Ending) (w' : World) : Prop := ∃ r : Int, 0 ≤ r ∧ r ≤ 1 ∧ e = .returned (.int .i64 r) ∧ ∃ j, w' = W.drewN j
theorem ref_cmp_nl (A A' : Option Addr) (n c n' c' X Y : Nat) (w : World) (ha : Lv w A n c X) (hb : Lv w A' n' c' Y) (hn : n ≤ 1000000000) (hn' : n' ≤ 1000000000) (hge : Y ≤ X) :
  Calls Tryz.prog 347 #[.slice A n c, .slice A' n' c'] w (RetGe w) := by
 obtain ⟨a, ha, ca, rfl⟩ := ha
 obtain ⟨b, hb, cb, rfl⟩ := hb
 refine (ref_cmp_any A A' n c n' c' a b w ha hb ca cb hn hn').mono ?_
 rintro e w' ⟨rfl, h⟩
 refine ⟨Lm.cmp a b, ?_, ?_, rfl, h⟩
 ·unfold Lm.cmp; rw [if_neg (by omega)]; split <;> decide
 ·unfold Lm.cmp; rw [if_neg (by omega)]; split <;> decide
def CmA (w : World) (wr : World) : Prop := Mm w [(w.heap.size + 1 + 1, [.bool false, .slice none 0 0])] [] wr
def CmR (w : World) (G : Nat) (m : Nat) (va vb vt : Value) (wr : World) : Prop :=
 ∃ (A1 : Option Addr) (n1 c1 : Nat) (A2 : Option Addr) (n2 c2 b t : Nat), va = .slice A1 n1 c1 ∧ vb = .slice A2 n2 c2 ∧ vt = .int .i64 (t : Int) ∧ Lv wr A1 n1 c1 m ∧ Lv wr A2 n2 c2 b ∧ n1 ≤ 1000000 ∧ n2 ≤ 1000000 ∧ CmA w wr ∧
  Hid (0 < m ∧ 0 < b ∧ 2 ^ t * Nat.gcd m b = G)
def CmS (w : World) (G2 : Nat) (m : Nat) (va vb : Value) (wr : World) : Prop :=
 ∃ (A1 : Option Addr) (n1 c1 a : Nat) (A2 : Option Addr) (n2 c2 b : Nat), va = .slice A1 n1 c1 ∧ vb = .slice A2 n2 c2 ∧ Lv wr A1 n1 c1 a ∧ Lv wr A2 n2 c2 b ∧ n1 ≤ 1000000 ∧ n2 ≤ 1000000 ∧ CmA w wr ∧
  Hid (m = a + b ∧ 0 < b ∧ (a % 2 = 1 ∨ b % 2 = 1) ∧ Nat.gcd a b = G2)
theorem twos_le {t g G n : Nat} (h : 2 ^ t * g = G) (hg : 0 < g) (hG : G < 2 ^ (32 * n)) : t < 32 * n := by
 rcases Nat.lt_or_ge t (32 * n) with k | k
 ·exact k
 ·have := Nat.pow_le_pow_right (show 0 < 2 by decide) k
  have h2 : 2 ^ t * 1 ≤ 2 ^ t * g := Nat.mul_le_mul_left _ hg
  omega
theorem CmR.half {m b t G m' b' : Nat} (h : 2 ^ t * Nat.gcd m b = G) (hm : m % 2 = 0) (hb : b % 2 = 0) (e1 : m / 2 = m') (e2 : b / 2 = b') : 2 ^ (t + 1) * Nat.gcd m' b' = G := by
 rw [← h, ← gcd_half_both hm hb, e1, e2, Nat.pow_succ, Nat.mul_assoc]
theorem gcd_part {a b G : Nat} (h : Nat.gcd a b = G) (hb : b ≤ a) : Nat.gcd (a - b) b = G := by rw [gcd_less hb, h]
set_option maxRecDepth 100000 in
set_option maxHeartbeats 6400000 in
theorem ref_Common_pos (neg neg' : Bool) (A A' : Option Addr) (n c n' c' : Nat) (x y : Int) (G : Nat) (w : World) (hx : IsInt w neg A n c x) (hy : IsInt w neg' A' n' c' y) (hn : n ≤ 1000000) (hn' : n' ≤ 1000000) (hx0 : x ≠ 0) (hy0 : y ≠ 0)
  (hG : Hid (Nat.gcd x.natAbs y.natAbs = G)) :
  Calls Tryz.prog 364 #[.agg #[.bool neg, .slice A n c], .agg #[.bool neg', .slice A' n' c']] w (RetInt w (G : Int)) := by
 have lx := lv_of_int hx
 have ly := lv_of_int hy
 obtain ⟨X, hX⟩ : ∃ X, x.natAbs = X := ⟨_, rfl⟩
 obtain ⟨Y, hY⟩ : ∃ Y, y.natAbs = Y := ⟨_, rfl⟩
 rw [hX] at lx
 rw [hY] at ly
 have hG' := hG.out
 rw [hX, hY] at hG'
 have hX0 : 0 < X := by omega
 have hY0 : 0 < Y := by omega
 have hne1 : ((n : Int) == 0) = false := by rw [beq_eq_false_iff_ne]; have := lx.zero; omega
 have hne2 : ((n' : Int) == 0) = false := by rw [beq_eq_false_iff_ne]; have := ly.zero; omega
 have HGB : Hid (G < 2 ^ (32 * n)) := Lib.hid (by
  have h1 := lx.lt
  have h2 : G ≤ X := by rw [← hG']; exact Nat.le_of_dvd hX0 (Nat.gcd_dvd_left X Y)
  omega)
 have HST : Hid (0 < X ∧ 0 < Y ∧ 2 ^ 0 * Nat.gcd X Y = G) := Lib.hid ⟨hX0, hY0, by rw [hG', Nat.pow_zero, Nat.one_mul]⟩
 clear hX hY hG' hX0 hY0 hx0 hy0 hx hy hG
 have K0 := (((Mm.nil w).box (.cells #[.bool neg, .slice A n c] 24)).box (.cells #[.bool neg', .slice A' n' c'] 24)).var (g := w.heap.size + 1 + 1) (by simp) [.bool false, .slice none 0 0] 24
 have lx0 := lx.below K0.1
 have ly0 := ly.below K0.1
 go_enter Tryz.func364, Tryz.ntmps364
 go_wp2_with fail
 go_loopg [5, 6, 7] X (fun m va vb vt wr => CmR w G m va vb vt wr)
 case atStart => exact ⟨A, n, c, A', n', c', Y, 0, rfl, rfl, rfl, lx0, ly0, hn, hn', K0, HST⟩
 case round =>
  clear lx ly lx0 ly0 K0 HST hne1 hne2
  obtain ⟨A1, n1, c1, A2, n2, c2, b, t, rfl, rfl, rfl, la, lb, h1, h2, K1, HR⟩ := hrel
  obtain ⟨a, rfl⟩ : ∃ a, a = gk := ⟨_, rfl⟩
  have ht : t < 32000000 := by
   have h := twos_le HR.out.2.2 (Nat.gcd_pos_of_pos_left _ HR.out.1) HGB.out
   omega
  obtain ⟨e1, he1⟩ : ∃ e, decide (a % 2 = 0) = e := ⟨_, rfl⟩
  obtain ⟨e2, he2⟩ : ∃ e, decide (b % 2 = 0) = e := ⟨_, rfl⟩
  have HE1 := Lib.hid he1
  have HE2 := Lib.hid he2
  have ha0 := HR.out.1
  have hb0 := HR.out.2.1
  clear he1 he2
  obtain ⟨p, hp⟩ : ∃ p, Nat.gcd a b = p := ⟨_, rfl⟩
  have HP : Hid (2 ^ t * p = G ∧ 0 < p ∧ Nat.gcd a b = p) := Lib.hid ⟨by rw [← hp]; exact HR.out.2.2, by rw [← hp]; exact Nat.gcd_pos_of_pos_left _ ha0, hp⟩
  clear hp
  by_cases hev : e1 = true ∧ e2 = true
  ·obtain ⟨rfl, rfl⟩ := hev
   obtain ⟨a', ha'⟩ : ∃ a', a / 2 = a' := ⟨_, rfl⟩
   obtain ⟨b', hb'⟩ : ∃ b', b / 2 = b' := ⟨_, rfl⟩
   have HA := Lib.hid ha'
   have HB := Lib.hid hb'
   clear ha' hb'
   go_wp2_with fail
   refine (ref_even_any A1 n1 c1 a true _ la ha0 HE1).mono ?_
   rintro e3 w3 ⟨rfl, rfl⟩
   go_wp2_with fail
   refine (ref_even_any A2 n2 c2 b true _ lb hb0 HE2).mono ?_
   rintro e4 w4 ⟨rfl, rfl⟩
   go_wp2_with fail
   refine (ref_half_lv A1 n1 c1 a a' _ la (by omega) HA).mono ?_
   rintro e5 w5 ⟨A5, n5, c5, rfl, l5, h5, hb5⟩
   have lb5 := lb.below hb5
   have K5 : CmA w w5 := K1.next hb5
   clear la lb K1 hb5
   go_wp2_with fail
   refine (ref_half_lv A2 n2 c2 b b' _ lb5 (by omega) HB).mono ?_
   rintro e6 w6 ⟨A6, n6, c6, rfl, l6, h6, hb6⟩
   have l56 := l5.below hb6
   have K6 : CmA w w6 := K5.next hb6
   clear l5 K5 lb5 hb6
   go_wp2_with fail
   have hae : a % 2 = 0 := of_decide_eq_true HE1.out
   have hbe : b % 2 = 0 := of_decide_eq_true HE2.out
   have q1 := HA.out
   have q2 := HB.out
   go_roundg a'
   case rel => exact ⟨A5, n5, c5, A6, n6, c6, b', t + 1, rfl, rfl, by go_num, l56, l6, by omega, by omega, K6, Lib.hid ⟨by omega, by omega, CmR.half HR.out.2.2 hae hbe q1 q2⟩⟩
   case measure => omega
  ·have HO : Hid (a % 2 = 1 ∨ b % 2 = 1) := Lib.hid (by
    have q1 := HE1.out
    have q2 := HE2.out
    rcases Nat.mod_two_eq_zero_or_one a with k | k
    ·rcases Nat.mod_two_eq_zero_or_one b with m | m
     ·exact absurd ⟨by rw [← q1]; exact decide_eq_true k, by rw [← q2]; exact decide_eq_true m⟩ hev
     ·exact .inr m
    ·exact .inl k)
   clear HR
   cases e1
   ·go_wp2_with fail
    refine (ref_even_any A1 n1 c1 a false _ la ha0 HE1).mono ?_
    rintro e3 w3 ⟨rfl, rfl⟩
    clear hev
    go_wp2_with fail
    clear HE1 HE2
    go_loopg [5, 6, 8] (a + b) (fun m va vb _ wr => CmS w p m va vb wr)
    case atStart => exact ⟨A1, n1, c1, a, A2, n2, c2, b, rfl, rfl, la, lb, h1, h2, K1, Lib.hid ⟨rfl, hb0, HO.out, HP.out.2.2⟩⟩
    case round =>
     clear la lb K1 h1 h2
     obtain ⟨A3, n3, c3, a3, A4, n4, c4, b4, rfl, rfl, l3, l4, h3, h4, K3, HQ⟩ := hrel
     obtain ⟨wo, rfl⟩ : ∃ wo : World, wo = wr := ⟨_, rfl⟩
     obtain ⟨M, rfl⟩ : ∃ M, M = gk := ⟨_, rfl⟩
     by_cases hz : a3 = 0
     ·have hn3 : n3 = 0 := l3.zero.2 hz
      subst hn3
      have HZ := Lib.hid hz
      clear hz
      obtain ⟨lb4, s4, can4, v4⟩ := l4
      have HV := Lib.hid v4
      clear v4
      go_wp2_with fail
      refine (ref_signed_any false A4 n4 c4 lb4 _ s4 (by omega)).mono ?_
      rintro e7 w7 ⟨neg7, A7, n7, c7, rfl, I7, hb7⟩
      have K7 : CmA w w7 := K3.next hb7
      have hn7 : n7 ≤ 1000000 := by
       have := isInt_len I7 (Lv.int ⟨lb4, s4, can4, rfl⟩) rfl
       omega
      clear K3 hb7 s4 can4 l3
      go_wp2_with fail
      refine (ref_double_any neg7 A7 n7 c7 t _ _ I7 (by omega) (by omega)).mono ?_
      rintro e8 w8 ⟨neg8, A8, n8, c8, rfl, I8, hb8⟩
      have K8 := K7.next hb8
      have KI := K8.int I8
      have KB := K8.blk (g := w.heap.size + 1 + 1) (vs := [.bool false, .slice none 0 0]) (by simp)
      obtain ⟨x0, x1, x2, x3, x4⟩ := KB.two
      have KE := KI.set2 (by simp) neg8 A8 n8 c8
      have HE : sgnd false (Lm.lv lb4) * 2 ^ t = (G : Int) := by
       have g1 := HQ.out.2.2.2
       rw [HZ.out, Nat.gcd_zero_left] at g1
       have g2 := HP.out.1
       rw [HV.out, g1]
       show (p : Int) * 2 ^ t = (G : Int)
       rw [← g2, Int.natCast_mul, Int.mul_comm, Int.natCast_pow]
       rfl
      rw [HE] at KE
      clear I7 I8 hb8 K7 K8 KI KB
      go_wp2_with fail
      exact bodyPost_ret (v := .agg #[.bool neg8, .slice A8 n8 c8]) (by simp [results, Tryz.results364, go_sem, x0, x1]) rfl ⟨neg8, A8, n8, c8, rfl, KE.at_ (by simp), KE.1⟩
     ·have hn3 : 0 < n3 := by
       rcases Nat.eq_zero_or_pos n3 with k | k
       ·exact absurd (l3.zero.1 k) hz
       ·exact k
      have HM := Lib.hid HQ.out.1
      have HQ0 : Hid (0 < a3 ∧ a3 ≤ a3 ∧ (a3 % 2 = 1 ∨ b4 % 2 = 1) ∧ Nat.gcd a3 b4 = p) := Lib.hid ⟨by omega, Nat.le_refl _, HQ.out.2.2⟩
      have hb40 := HQ.out.2.1
      clear hz HQ
      go_wp2_with fail
      go_loopg [5] a3 (fun m va wr => ∃ (A5 : Option Addr) (n5 c5 : Nat), va = .slice A5 n5 c5 ∧ Lv wr A5 n5 c5 m ∧ Lv wr A4 n4 c4 b4 ∧ n5 ≤ 1000000 ∧ CmA w wr ∧ Hid (0 < m ∧ m ≤ a3 ∧ (m % 2 = 1 ∨ b4 % 2 = 1) ∧ Nat.gcd m b4 = p))
      case atStart => exact ⟨A3, n3, c3, rfl, l3, l4, h3, K3, HQ0⟩
      case round =>
       clear l3 l4 K3 h3 hn3 HQ0
       obtain ⟨A5, n5, c5, rfl, l5, l4, h5, K5, HQ⟩ := hrel
       obtain ⟨m5, rfl⟩ : ∃ m5, m5 = gk := ⟨_, rfl⟩
       have hm5 := HQ.out.1
       by_cases he : m5 % 2 = 0
       ·obtain ⟨m6, hm6⟩ : ∃ m6, m5 / 2 = m6 := ⟨_, rfl⟩
        have HD : Hid (decide (m5 % 2 = 0) = true) := Lib.hid (decide_eq_true he)
        have HH := Lib.hid hm6
        have HR : Hid (0 < m6 ∧ m6 ≤ a3 ∧ (m6 % 2 = 1 ∨ b4 % 2 = 1) ∧ Nat.gcd m6 b4 = p ∧ m6 < m5) := Lib.hid (by
         obtain ⟨_, q2, q3, q4⟩ := HQ.out
         have ho : b4 % 2 = 1 := by omega
         exact ⟨by omega, by omega, .inr ho, by rw [← hm6, gcd_half_left he ho]; exact q4, by omega⟩)
        clear he hm6 HQ
        go_wp2_with fail
        refine (ref_even_any A5 n5 c5 m5 true _ l5 hm5 HD).mono ?_
        rintro e7 w7 ⟨rfl, rfl⟩
        go_wp2_with fail
        refine (ref_half_lv A5 n5 c5 m5 m6 _ l5 (by omega) HH).mono ?_
        rintro e8 w8 ⟨A8, n8, c8, rfl, l8, h8, hb8⟩
        have l48 := l4.below hb8
        have K8 : CmA w w8 := K5.next hb8
        clear l5 l4 K5 hb8
        go_wp2_with fail
        go_roundg m6
        case rel => exact ⟨A8, n8, c8, rfl, l8, l48, by omega, K8, Lib.hid ⟨HR.out.1, HR.out.2.1, HR.out.2.2.1, HR.out.2.2.2.1⟩⟩
        case measure => exact HR.out.2.2.2.2
       ·have HD : Hid (decide (m5 % 2 = 0) = false) := Lib.hid (decide_eq_false he)
        have HQ0 : Hid (m5 % 2 = 1 ∧ m5 ≤ a3 ∧ Nat.gcd m5 b4 = p) := Lib.hid ⟨by omega, HQ.out.2.1, HQ.out.2.2.2⟩
        clear he HQ
        go_wp2_with fail
        refine (ref_even_any A5 n5 c5 m5 false _ l5 hm5 HD).mono ?_
        rintro e7 w7 ⟨rfl, rfl⟩
        go_wp2_with fail
        go_loopg [6] b4 (fun m vb wr => ∃ (A6 : Option Addr) (n6 c6 : Nat), vb = .slice A6 n6 c6 ∧ Lv wr A5 n5 c5 m5 ∧ Lv wr A6 n6 c6 m ∧ n6 ≤ 1000000 ∧ CmA w wr ∧ Hid (0 < m ∧ m ≤ b4 ∧ Nat.gcd m5 m = p))
        case atStart => exact ⟨A4, n4, c4, rfl, l5, l4, h4, K5, Lib.hid ⟨hb40, Nat.le_refl _, HQ0.out.2.2⟩⟩
        case round =>
         clear l5 l4 K5 h4
         obtain ⟨A6, n6, c6, rfl, l5, l6, h6, K6, HQ⟩ := hrel
         obtain ⟨m6, rfl⟩ : ∃ m6, m6 = gk := ⟨_, rfl⟩
         have hm6 := HQ.out.1
         by_cases he : m6 % 2 = 0
         ·obtain ⟨m7, hm7⟩ : ∃ m7, m6 / 2 = m7 := ⟨_, rfl⟩
          have HD2 : Hid (decide (m6 % 2 = 0) = true) := Lib.hid (decide_eq_true he)
          have HH := Lib.hid hm7
          have HR : Hid (0 < m7 ∧ m7 ≤ b4 ∧ Nat.gcd m5 m7 = p ∧ m7 < m6) := Lib.hid (by
           obtain ⟨_, q2, q3⟩ := HQ.out
           exact ⟨by omega, by omega, by rw [← hm7, gcd_half_right HQ0.out.1 he]; exact q3, by omega⟩)
          clear he hm7 HQ
          go_wp2_with fail
          refine (ref_even_any A6 n6 c6 m6 true _ l6 hm6 HD2).mono ?_
          rintro e7 w7 ⟨rfl, rfl⟩
          go_wp2_with fail
          refine (ref_half_lv A6 n6 c6 m6 m7 _ l6 (by omega) HH).mono ?_
          rintro e8 w8 ⟨A8, n8, c8, rfl, l8, h8, hb8⟩
          have l58 := l5.below hb8
          have K8 : CmA w w8 := K6.next hb8
          clear l5 l6 K6 hb8
          go_wp2_with fail
          go_roundg m7
          case rel => exact ⟨A8, n8, c8, rfl, l58, l8, by omega, K8, Lib.hid ⟨HR.out.1, HR.out.2.1, HR.out.2.2.1⟩⟩
          case measure => exact HR.out.2.2.2
         ·have HD2 : Hid (decide (m6 % 2 = 0) = false) := Lib.hid (decide_eq_false he)
          have HO6 : Hid (m6 % 2 = 1 ∧ m6 ≤ b4 ∧ Nat.gcd m5 m6 = p) := Lib.hid ⟨by omega, HQ.out.2⟩
          clear he HQ
          go_wp2_with fail
          refine (ref_even_any A6 n6 c6 m6 false _ l6 hm6 HD2).mono ?_
          rintro e7 w7 ⟨rfl, rfl⟩
          by_cases hlt : m5 < m6
          ·obtain ⟨z, hz⟩ : ∃ z, m6 - m5 = z := ⟨_, rfl⟩
           have HZ := Lib.hid hz
           clear hz
           go_wp2_with fail
           refine (ref_cmp_lt A5 A6 n5 c5 n6 c6 m5 m6 _ l5 l6 (by omega) (by omega) hlt).mono ?_
           rintro e8 w8 ⟨rfl, j, rfl⟩
           go_wp2_with fail
           refine (ref_sub_lv A6 A5 n6 c6 n5 c5 m6 m5 z _ (l6.drewN j) (l5.drewN j) (by omega) (by omega) HZ).mono ?_
           rintro e9 w9 ⟨A9, n9, c9, rfl, l9, h9, hb9⟩
           have l59 := (l5.drewN j).below hb9
           have K9 : CmA w w9 := (Mm.drewN K6 j).next hb9
           clear l5 l6 K6 hb9
           go_wp2_with fail
           have q1 := HZ.out
           have q2 := HO6.out
           have q3 := HQ0.out
           have q4 := HM.out
           go_roundg (z + m5)
           case rel => exact ⟨A9, n9, c9, z, A5, n5, c5, m5, rfl, rfl, l9, l59, by omega, h5, K9, Lib.hid ⟨rfl, hm5, .inr q3.1, by rw [← q1]; exact gcd_part (by rw [Nat.gcd_comm]; exact q2.2.2) (by omega)⟩⟩
           case measure => omega
          ·obtain ⟨z, hz⟩ : ∃ z, m5 - m6 = z := ⟨_, rfl⟩
           have HZ := Lib.hid hz
           have hge : m6 ≤ m5 := by omega
           clear hz hlt
           go_wp2_with fail
           refine (ref_cmp_nl A5 A6 n5 c5 n6 c6 m5 m6 _ l5 l6 (by omega) (by omega) hge).mono ?_
           rintro e8 w8 ⟨r, hr0, hr1, rfl, j, rfl⟩
           go_wp2_with fail
           refine (ref_sub_lv A5 A6 n5 c5 n6 c6 m5 m6 z _ (l5.drewN j) (l6.drewN j) (by omega) hge HZ).mono ?_
           rintro e9 w9 ⟨A9, n9, c9, rfl, l9, h9, hb9⟩
           have l69 := (l6.drewN j).below hb9
           have K9 : CmA w w9 := (Mm.drewN K6 j).next hb9
           clear l5 l6 K6 hb9
           go_wp2_with fail
           have q1 := HZ.out
           have q2 := HO6.out
           have q3 := HQ0.out
           have q4 := HM.out
           go_roundg (z + m6)
           case rel => exact ⟨A9, n9, c9, z, A6, n6, c6, m6, rfl, rfl, l9, l69, by omega, h6, K9, Lib.hid ⟨rfl, hm6, .inr q2.1, by rw [← q1]; exact gcd_part q2.2.2 hge⟩⟩
           case measure => omega
   ·cases e2
    ·go_wp2_with fail
     refine (ref_even_any A1 n1 c1 a true _ la ha0 HE1).mono ?_
     rintro e3 w3 ⟨rfl, rfl⟩
     go_wp2_with fail
     refine (ref_even_any A2 n2 c2 b false _ lb hb0 HE2).mono ?_
     rintro e4 w4 ⟨rfl, rfl⟩
     clear hev
     go_wp2_with fail
     clear HE1 HE2
     go_loopg [5, 6, 8] (a + b) (fun m va vb _ wr => CmS w p m va vb wr)
     case atStart => exact ⟨A1, n1, c1, a, A2, n2, c2, b, rfl, rfl, la, lb, h1, h2, K1, Lib.hid ⟨rfl, hb0, HO.out, HP.out.2.2⟩⟩
     case round =>
      clear la lb K1 h1 h2
      obtain ⟨A3, n3, c3, a3, A4, n4, c4, b4, rfl, rfl, l3, l4, h3, h4, K3, HQ⟩ := hrel
      obtain ⟨wo, rfl⟩ : ∃ wo : World, wo = wr := ⟨_, rfl⟩
      obtain ⟨M, rfl⟩ : ∃ M, M = gk := ⟨_, rfl⟩
      by_cases hz : a3 = 0
      ·have hn3 : n3 = 0 := l3.zero.2 hz
       subst hn3
       have HZ := Lib.hid hz
       clear hz
       obtain ⟨lb4, s4, can4, v4⟩ := l4
       have HV := Lib.hid v4
       clear v4
       go_wp2_with fail
       refine (ref_signed_any false A4 n4 c4 lb4 _ s4 (by omega)).mono ?_
       rintro e7 w7 ⟨neg7, A7, n7, c7, rfl, I7, hb7⟩
       have K7 : CmA w w7 := K3.next hb7
       have hn7 : n7 ≤ 1000000 := by
        have := isInt_len I7 (Lv.int ⟨lb4, s4, can4, rfl⟩) rfl
        omega
       clear K3 hb7 s4 can4 l3
       go_wp2_with fail
       refine (ref_double_any neg7 A7 n7 c7 t _ _ I7 (by omega) (by omega)).mono ?_
       rintro e8 w8 ⟨neg8, A8, n8, c8, rfl, I8, hb8⟩
       have K8 := K7.next hb8
       have KI := K8.int I8
       have KB := K8.blk (g := w.heap.size + 1 + 1) (vs := [.bool false, .slice none 0 0]) (by simp)
       obtain ⟨x0, x1, x2, x3, x4⟩ := KB.two
       have KE := KI.set2 (by simp) neg8 A8 n8 c8
       have HE : sgnd false (Lm.lv lb4) * 2 ^ t = (G : Int) := by
        have g1 := HQ.out.2.2.2
        rw [HZ.out, Nat.gcd_zero_left] at g1
        have g2 := HP.out.1
        rw [HV.out, g1]
        show (p : Int) * 2 ^ t = (G : Int)
        rw [← g2, Int.natCast_mul, Int.mul_comm, Int.natCast_pow]
        rfl
       rw [HE] at KE
       clear I7 I8 hb8 K7 K8 KI KB
       go_wp2_with fail
       exact bodyPost_ret (v := .agg #[.bool neg8, .slice A8 n8 c8]) (by simp [results, Tryz.results364, go_sem, x0, x1]) rfl ⟨neg8, A8, n8, c8, rfl, KE.at_ (by simp), KE.1⟩
      ·have hn3 : 0 < n3 := by
        rcases Nat.eq_zero_or_pos n3 with k | k
        ·exact absurd (l3.zero.1 k) hz
        ·exact k
       have HM := Lib.hid HQ.out.1
       have HQ0 : Hid (0 < a3 ∧ a3 ≤ a3 ∧ (a3 % 2 = 1 ∨ b4 % 2 = 1) ∧ Nat.gcd a3 b4 = p) := Lib.hid ⟨by omega, Nat.le_refl _, HQ.out.2.2⟩
       have hb40 := HQ.out.2.1
       clear hz HQ
       go_wp2_with fail
       go_loopg [5] a3 (fun m va wr => ∃ (A5 : Option Addr) (n5 c5 : Nat), va = .slice A5 n5 c5 ∧ Lv wr A5 n5 c5 m ∧ Lv wr A4 n4 c4 b4 ∧ n5 ≤ 1000000 ∧ CmA w wr ∧ Hid (0 < m ∧ m ≤ a3 ∧ (m % 2 = 1 ∨ b4 % 2 = 1) ∧ Nat.gcd m b4 = p))
       case atStart => exact ⟨A3, n3, c3, rfl, l3, l4, h3, K3, HQ0⟩
       case round =>
        clear l3 l4 K3 h3 hn3 HQ0
        obtain ⟨A5, n5, c5, rfl, l5, l4, h5, K5, HQ⟩ := hrel
        obtain ⟨m5, rfl⟩ : ∃ m5, m5 = gk := ⟨_, rfl⟩
        have hm5 := HQ.out.1
        by_cases he : m5 % 2 = 0
        ·obtain ⟨m6, hm6⟩ : ∃ m6, m5 / 2 = m6 := ⟨_, rfl⟩
         have HD : Hid (decide (m5 % 2 = 0) = true) := Lib.hid (decide_eq_true he)
         have HH := Lib.hid hm6
         have HR : Hid (0 < m6 ∧ m6 ≤ a3 ∧ (m6 % 2 = 1 ∨ b4 % 2 = 1) ∧ Nat.gcd m6 b4 = p ∧ m6 < m5) := Lib.hid (by
          obtain ⟨_, q2, q3, q4⟩ := HQ.out
          have ho : b4 % 2 = 1 := by omega
          exact ⟨by omega, by omega, .inr ho, by rw [← hm6, gcd_half_left he ho]; exact q4, by omega⟩)
         clear he hm6 HQ
         go_wp2_with fail
         refine (ref_even_any A5 n5 c5 m5 true _ l5 hm5 HD).mono ?_
         rintro e7 w7 ⟨rfl, rfl⟩
         go_wp2_with fail
         refine (ref_half_lv A5 n5 c5 m5 m6 _ l5 (by omega) HH).mono ?_
         rintro e8 w8 ⟨A8, n8, c8, rfl, l8, h8, hb8⟩
         have l48 := l4.below hb8
         have K8 : CmA w w8 := K5.next hb8
         clear l5 l4 K5 hb8
         go_wp2_with fail
         go_roundg m6
         case rel => exact ⟨A8, n8, c8, rfl, l8, l48, by omega, K8, Lib.hid ⟨HR.out.1, HR.out.2.1, HR.out.2.2.1, HR.out.2.2.2.1⟩⟩
         case measure => exact HR.out.2.2.2.2
        ·have HD : Hid (decide (m5 % 2 = 0) = false) := Lib.hid (decide_eq_false he)
         have HQ0 : Hid (m5 % 2 = 1 ∧ m5 ≤ a3 ∧ Nat.gcd m5 b4 = p) := Lib.hid ⟨by omega, HQ.out.2.1, HQ.out.2.2.2⟩
         clear he HQ
         go_wp2_with fail
         refine (ref_even_any A5 n5 c5 m5 false _ l5 hm5 HD).mono ?_
         rintro e7 w7 ⟨rfl, rfl⟩
         go_wp2_with fail
         go_loopg [6] b4 (fun m vb wr => ∃ (A6 : Option Addr) (n6 c6 : Nat), vb = .slice A6 n6 c6 ∧ Lv wr A5 n5 c5 m5 ∧ Lv wr A6 n6 c6 m ∧ n6 ≤ 1000000 ∧ CmA w wr ∧ Hid (0 < m ∧ m ≤ b4 ∧ Nat.gcd m5 m = p))
         case atStart => exact ⟨A4, n4, c4, rfl, l5, l4, h4, K5, Lib.hid ⟨hb40, Nat.le_refl _, HQ0.out.2.2⟩⟩
         case round =>
          clear l5 l4 K5 h4
          obtain ⟨A6, n6, c6, rfl, l5, l6, h6, K6, HQ⟩ := hrel
          obtain ⟨m6, rfl⟩ : ∃ m6, m6 = gk := ⟨_, rfl⟩
          have hm6 := HQ.out.1
          by_cases he : m6 % 2 = 0
          ·obtain ⟨m7, hm7⟩ : ∃ m7, m6 / 2 = m7 := ⟨_, rfl⟩
           have HD2 : Hid (decide (m6 % 2 = 0) = true) := Lib.hid (decide_eq_true he)
           have HH := Lib.hid hm7
           have HR : Hid (0 < m7 ∧ m7 ≤ b4 ∧ Nat.gcd m5 m7 = p ∧ m7 < m6) := Lib.hid (by
            obtain ⟨_, q2, q3⟩ := HQ.out
            exact ⟨by omega, by omega, by rw [← hm7, gcd_half_right HQ0.out.1 he]; exact q3, by omega⟩)
           clear he hm7 HQ
           go_wp2_with fail
           refine (ref_even_any A6 n6 c6 m6 true _ l6 hm6 HD2).mono ?_
           rintro e7 w7 ⟨rfl, rfl⟩
           go_wp2_with fail
           refine (ref_half_lv A6 n6 c6 m6 m7 _ l6 (by omega) HH).mono ?_
           rintro e8 w8 ⟨A8, n8, c8, rfl, l8, h8, hb8⟩
           have l58 := l5.below hb8
           have K8 : CmA w w8 := K6.next hb8
           clear l5 l6 K6 hb8
           go_wp2_with fail
           go_roundg m7
           case rel => exact ⟨A8, n8, c8, rfl, l58, l8, by omega, K8, Lib.hid ⟨HR.out.1, HR.out.2.1, HR.out.2.2.1⟩⟩
           case measure => exact HR.out.2.2.2
          ·have HD2 : Hid (decide (m6 % 2 = 0) = false) := Lib.hid (decide_eq_false he)
           have HO6 : Hid (m6 % 2 = 1 ∧ m6 ≤ b4 ∧ Nat.gcd m5 m6 = p) := Lib.hid ⟨by omega, HQ.out.2⟩
           clear he HQ
           go_wp2_with fail
           refine (ref_even_any A6 n6 c6 m6 false _ l6 hm6 HD2).mono ?_
           rintro e7 w7 ⟨rfl, rfl⟩
           by_cases hlt : m5 < m6
           ·obtain ⟨z, hz⟩ : ∃ z, m6 - m5 = z := ⟨_, rfl⟩
            have HZ := Lib.hid hz
            clear hz
            go_wp2_with fail
            refine (ref_cmp_lt A5 A6 n5 c5 n6 c6 m5 m6 _ l5 l6 (by omega) (by omega) hlt).mono ?_
            rintro e8 w8 ⟨rfl, j, rfl⟩
            go_wp2_with fail
            refine (ref_sub_lv A6 A5 n6 c6 n5 c5 m6 m5 z _ (l6.drewN j) (l5.drewN j) (by omega) (by omega) HZ).mono ?_
            rintro e9 w9 ⟨A9, n9, c9, rfl, l9, h9, hb9⟩
            have l59 := (l5.drewN j).below hb9
            have K9 : CmA w w9 := (Mm.drewN K6 j).next hb9
            clear l5 l6 K6 hb9
            go_wp2_with fail
            have q1 := HZ.out
            have q2 := HO6.out
            have q3 := HQ0.out
            have q4 := HM.out
            go_roundg (z + m5)
            case rel => exact ⟨A9, n9, c9, z, A5, n5, c5, m5, rfl, rfl, l9, l59, by omega, h5, K9, Lib.hid ⟨rfl, hm5, .inr q3.1, by rw [← q1]; exact gcd_part (by rw [Nat.gcd_comm]; exact q2.2.2) (by omega)⟩⟩
            case measure => omega
           ·obtain ⟨z, hz⟩ : ∃ z, m5 - m6 = z := ⟨_, rfl⟩
            have HZ := Lib.hid hz
            have hge : m6 ≤ m5 := by omega
            clear hz hlt
            go_wp2_with fail
            refine (ref_cmp_nl A5 A6 n5 c5 n6 c6 m5 m6 _ l5 l6 (by omega) (by omega) hge).mono ?_
            rintro e8 w8 ⟨r, hr0, hr1, rfl, j, rfl⟩
            go_wp2_with fail
            refine (ref_sub_lv A5 A6 n5 c5 n6 c6 m5 m6 z _ (l5.drewN j) (l6.drewN j) (by omega) hge HZ).mono ?_
            rintro e9 w9 ⟨A9, n9, c9, rfl, l9, h9, hb9⟩
            have l69 := (l6.drewN j).below hb9
            have K9 : CmA w w9 := (Mm.drewN K6 j).next hb9
            clear l5 l6 K6 hb9
            go_wp2_with fail
            have q1 := HZ.out
            have q2 := HO6.out
            have q3 := HQ0.out
            have q4 := HM.out
            go_roundg (z + m6)
            case rel => exact ⟨A9, n9, c9, z, A6, n6, c6, m6, rfl, rfl, l9, l69, by omega, h6, K9, Lib.hid ⟨rfl, hm6, .inr q2.1, by rw [← q1]; exact gcd_part q2.2.2 hge⟩⟩
            case measure => omega
    ·exact absurd ⟨rfl, rfl⟩ hev
theorem ref_Common_any (neg neg' : Bool) (A A' : Option Addr) (n c n' c' : Nat) (x y : Int) (G : Nat) (w : World) (hx : IsInt w neg A n c x) (hy : IsInt w neg' A' n' c' y) (hn : n ≤ 1000000) (hn' : n' ≤ 1000000) (hG : Hid (Nat.gcd x.natAbs y.natAbs = G)) :
  Calls Tryz.prog 364 #[.agg #[.bool neg, .slice A n c], .agg #[.bool neg', .slice A' n' c']] w (RetInt w (G : Int)) := by
 by_cases hx0 : x = 0
 ·subst hx0
  have hn0 : n = 0 := (lv_of_int hx).zero.2 rfl
  have hg := hG.out
  rw [show (0 : Int).natAbs = 0 from rfl, Nat.gcd_zero_left] at hg
  subst hn0
  obtain ⟨l, s, can, v⟩ := lv_of_int hy
  rw [hg] at v
  have HV := Lib.hid v
  have K0 := (((Mm.nil w).box (.cells #[.bool neg, .slice A 0 c] 24)).box (.cells #[.bool neg', .slice A' n' c'] 24)).var (g := w.heap.size + 1 + 1) (by simp) [.bool false, .slice none 0 0] 24
  have s0 := s.below K0.1
  clear hG hg v hx hy s can
  go_enter Tryz.func364, Tryz.ntmps364
  go_wp2_with fail
  refine (ref_signed_any false A' n' c' l _ s0 (by omega)).mono ?_
  rintro e8 w8 ⟨neg8, A8, n8, c8, rfl, I8, hb8⟩
  have K8 := K0.next hb8
  have KI := K8.int I8
  have KB := K8.blk (g := w.heap.size + 1 + 1) (vs := [.bool false, .slice none 0 0]) (by simp)
  obtain ⟨x0, x1, x2, x3, x4⟩ := KB.two
  have KE := KI.set2 (by simp) neg8 A8 n8 c8
  have HE : sgnd false (Lm.lv l) = (G : Int) := by rw [HV.out]; rfl
  rw [HE] at KE
  clear I8 hb8 K8 KI KB HE K0
  go_wp2_with fail
  exact bodyPost_ret (v := .agg #[.bool neg8, .slice A8 n8 c8]) (by simp [results, Tryz.results364, go_sem, x0, x1]) rfl ⟨neg8, A8, n8, c8, rfl, KE.at_ (by simp), KE.1⟩
 ·by_cases hy0 : y = 0
  ·subst hy0
   have hn0 : n' = 0 := (lv_of_int hy).zero.2 rfl
   have hg := hG.out
   rw [show (0 : Int).natAbs = 0 from rfl, Nat.gcd_zero_right] at hg
   subst hn0
   have hne : ((n : Int) == 0) = false := by rw [beq_eq_false_iff_ne]; have := (lv_of_int hx).zero; omega
   obtain ⟨l, s, can, v⟩ := lv_of_int hx
   rw [hg] at v
   have HV := Lib.hid v
   have K0 := (((Mm.nil w).box (.cells #[.bool neg, .slice A n c] 24)).box (.cells #[.bool neg', .slice A' 0 c'] 24)).var (g := w.heap.size + 1 + 1) (by simp) [.bool false, .slice none 0 0] 24
   have s0 := s.below K0.1
   clear hG hg v hx hy s can hx0
   go_enter Tryz.func364, Tryz.ntmps364
   go_wp2_with fail
   refine (ref_signed_any false A n c l _ s0 (by omega)).mono ?_
   rintro e8 w8 ⟨neg8, A8, n8, c8, rfl, I8, hb8⟩
   have K8 := K0.next hb8
   have KI := K8.int I8
   have KB := K8.blk (g := w.heap.size + 1 + 1) (vs := [.bool false, .slice none 0 0]) (by simp)
   obtain ⟨x0, x1, x2, x3, x4⟩ := KB.two
   have KE := KI.set2 (by simp) neg8 A8 n8 c8
   have HE : sgnd false (Lm.lv l) = (G : Int) := by rw [HV.out]; rfl
   rw [HE] at KE
   clear I8 hb8 K8 KI KB HE K0
   go_wp2_with fail
   exact bodyPost_ret (v := .agg #[.bool neg8, .slice A8 n8 c8]) (by simp [results, Tryz.results364, go_sem, x0, x1]) rfl ⟨neg8, A8, n8, c8, rfl, KE.at_ (by simp), KE.1⟩
  ·exact ref_Common_pos neg neg' A A' n c n' c' x y G w hx hy hn hn' hx0 hy0 hG
end Go.Proofs.YtgekmbfmfiikkaaGreatDoor
