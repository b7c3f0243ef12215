/-
  A whole number is what another one is (SameInt).
  Are fractions, complex numbers the same (SameFrac, SameGauss)? Sizes (MatrixSize, GaussSize).
-/
import Derived.Test.YtdmdaoginojalaaFrp
import Derived.Test.YtdmdaoginojalaaBmG
import Derived.Test.YtdmdaoginojalaaExFb
namespace Go.Proofs.Ytdmdaoginojalaa
open Go.RowKit

set_option maxRecDepth 100000 in
set_option maxHeartbeats 1600000 in
theorem same_int_any (neg : Bool) (A A' : Option Addr) (n c c' : Nat) (l : List Nat) (w : World) (ha : Sl w A n c l) (hb : Sl w A' n c' l) (hn : n ≤ 1000000000) :
    Calls Try.prog 58 #[.agg #[.bool neg, .slice A n c], .agg #[.bool neg, .slice A' n c']] w (RetV w (.bool true)) := by
  have K0 := ((Mm.nil w).var (g := w.heap.size) rfl [.bool neg, .slice A n c] 24).var (g := w.heap.size + 1) (by simp) [.bool neg, .slice A' n c'] 24
  have ha0 := ha.below K0.1
  have hb0 := hb.below K0.1
  clear ha hb
  go_enter Try.func58, Try.ntmps58
  go_wp2_with fail
  generalize (w.alloc (.cells #[.bool neg, .slice A n c] 24)).alloc (.cells #[.bool neg, .slice A' n c'] 24) = w0 at K0 ha0 hb0 ⊢
  go_loopw [5] (fun ix wr => ∃ k : Nat, k ≤ n ∧ ix = .int .i64 (k : Int) ∧ Sl wr A n c l ∧ Sl wr A' n c' l ∧ Mm w [(w.heap.size, [.bool neg, .slice A n c]), (w.heap.size + 1, [.bool neg, .slice A' n c'])] [] wr) (fun ix _ => n - (intOf ix).toNat)
  case atStart => exact ⟨0, Nat.zero_le _, rfl, ha0, hb0, K0.pick (by simp) (by simp)⟩
  case round =>
    clear ha0 hb0 K0
    obtain ⟨k, hk, rfl, ha0, hb0, K0⟩ := hrel
    obtain ⟨qa0, qb0, qc0, qd0, qe0⟩ := (K0.blk (g := w.heap.size) (vs := [.bool neg, .slice A n c]) (by simp)).two
    obtain ⟨qa1, qb1, qc1, qd1, qe1⟩ := (K0.blk (g := w.heap.size + 1) (vs := [.bool neg, .slice A' n c']) (by simp)).two
    by_cases hkn : k = n
    · subst hkn
      go_wp2_with fail
      go_ret
      exact ⟨rfl, K0.1⟩
    · have hlt : k < n := by omega
      obtain ⟨ad, rfl, _, hld, hcd, _⟩ := ha0.at_ hlt
      obtain ⟨bd, rfl, _, _, hce, _⟩ := hb0.at_ hlt
      obtain ⟨x, hx⟩ : ∃ x, l[k] = x := ⟨_, rfl⟩
      rw [hx] at hcd hce
      have hlt' : (k : Int) < (n : Int) := by omega
      have hk0 : (0 : Int) ≤ (k : Int) := Int.natCast_nonneg _
      clear hx hkn
      go_wp2_with fail
      go_quiet (fail)
      go_wp2_with fail
      go_roundw
      case rel => exact ⟨k + 1, hlt, congrArg (Value.int .i64) (by omega), ha0.drewN _, hb0.drewN _, K0.drewN _⟩
      case measure => simp [intOf] <;> omega
end Go.Proofs.Ytdmdaoginojalaa

namespace Go.Proofs.Ytdmdaoginojalaa
open Go.RowKit

theorem isInt_same {w w' : World} {s s' : Bool} {A A' : Option Addr} {n c n' c' : Nat} {z : Int} (h : IsInt w s A n c z) (k : IsInt w' s' A' n' c' z) : s = s' ∧ n = n' ∧ ∃ l, Sl w A n c l ∧ Sl w' A' n' c' l := by
  have hn := isInt_len h k rfl
  obtain ⟨a, ha, ca, na, rfl⟩ := h
  obtain ⟨b, hb, cb, nb, e⟩ := k
  have hs : ∀ (s : Bool) (m : Nat), (sgnd s m).natAbs = m := by intro s m; unfold sgnd; split <;> omega
  have h1 : Lm.lv a = Lm.lv b := by have := congrArg Int.natAbs e; rw [hs, hs] at this; exact this
  have := Lm.lv_inj ha.ok ca hb.ok cb h1
  subst this
  refine ⟨?_, hn, a, ha, hb⟩
  by_cases h0 : a = []
  · rw [na h0, nb h0]
  · have hp : Lm.lv a ≠ 0 := fun x => h0 ((Lm.lv_zero ca).1 x)
    cases s <;> cases s' <;> simp [sgnd] at e ⊢ <;> omega

set_option maxRecDepth 100000 in
set_option maxHeartbeats 6400000 in
theorem same_frac_ok (sa : Bool) (Aa : Option Addr) (na ca : Nat) (la : List Nat) (za : Bool) (Ba : Option Addr) (ma da : Nat) (ka : List Nat) (sb : Bool) (Ab : Option Addr) (nb cb : Nat) (lb : List Nat) (zb : Bool) (Bb : Option Addr) (mb db : Nat) (kb : List Nat) (x : Rat) (w : World) (oa : OkF w ((sa, Aa, na, ca, la), (za, Ba, ma, da, ka)) x) (ob : OkF w ((sb, Ab, nb, cb, lb), (zb, Bb, mb, db, kb)) x) :
    Calls Try.prog 25 #[.agg #[.bool sa, .slice Aa na ca, .bool za, .slice Ba ma da], .agg #[.bool sb, .slice Ab nb cb, .bool zb, .slice Bb mb db]] w (RetV w (.bool true)) := by
  have h1 := int_len oa.ints.1 oa.ints.2.2.1
  have h2 := int_len oa.ints.2.1 (by rw [Int.natAbs_natCast]; exact oa.ints.2.2.2)
  obtain ⟨rfl, rfl, l1, S1, T1⟩ := isInt_same oa.ints.1 ob.ints.1
  obtain ⟨rfl, rfl, l2, S2, T2⟩ := isInt_same oa.ints.2.1 ob.ints.2.1
  have K0 := ((Mm.nil w).var (g := w.heap.size) rfl [.bool sa, .slice Aa na ca, .bool za, .slice Ba ma da] 26).var (g := w.heap.size + 1) (by simp) [.bool sa, .slice Ab na cb, .bool za, .slice Bb ma db] 26
  replace S1 := S1.below K0.1
  replace S2 := S2.below K0.1
  replace T1 := T1.below K0.1
  replace T2 := T2.below K0.1
  clear oa ob
  go_enter Try.func25, Try.ntmps25
  go_upto_region 1 with (fail)
  generalize (w.alloc (.cells #[.bool sa, .slice Aa na ca, .bool za, .slice Ba ma da] 26)).alloc (.cells #[.bool sa, .slice Ab na cb, .bool za, .slice Bb ma db] 26) = w0 at K0 S1 S2 T1 T2 ⊢
  obtain ⟨⟨p0, p1, p2, p3⟩, _, _⟩ := (K0.blk (g := w.heap.size) (vs := [.bool sa, .slice Aa na ca, .bool za, .slice Ba ma da]) (by simp)).four
  obtain ⟨⟨q0, q1, q2, q3⟩, _, _⟩ := (K0.blk (g := w.heap.size + 1) (vs := [.bool sa, .slice Ab na cb, .bool za, .slice Bb ma db]) (by simp)).four
  go_wp2_with fail
  refine (same_int_any sa Aa Ab na ca cb l1 _ S1 T1 (by omega)).mono ?_
  rintro e1 w1 ⟨rfl, hb⟩
  have K1 := K0.next hb
  replace S2 := S2.below hb
  replace T2 := T2.below hb
  clear K0 hb S1 T1 p0 p1 p2 p3 q0 q1 q2 q3
  obtain ⟨⟨p0, p1, p2, p3⟩, _, _⟩ := (K1.blk (g := w.heap.size) (vs := [.bool sa, .slice Aa na ca, .bool za, .slice Ba ma da]) (by simp)).four
  obtain ⟨⟨q0, q1, q2, q3⟩, _, _⟩ := (K1.blk (g := w.heap.size + 1) (vs := [.bool sa, .slice Ab na cb, .bool za, .slice Bb ma db]) (by simp)).four
  go_wp2_with fail
  refine (same_int_any za Ba Bb ma da db l2 _ S2 T2 (by omega)).mono ?_
  rintro e2 w2 ⟨rfl, hb⟩
  go_wp2_with fail
  go_ret
  exact ⟨rfl, (K1.next hb).1⟩

set_option maxRecDepth 100000 in
set_option maxHeartbeats 6400000 in
theorem same_gauss_ok (sa : Bool) (Aa : Option Addr) (na ca : Nat) (la : List Nat) (za : Bool) (Ba : Option Addr) (ma da : Nat) (ka : List Nat) (sb : Bool) (Ab : Option Addr) (nb cb : Nat) (lb : List Nat) (zb : Bool) (Bb : Option Addr) (mb db : Nat) (kb : List Nat) (sc : Bool) (Ac : Option Addr) (nc cc : Nat) (lc : List Nat) (zc : Bool) (Bc : Option Addr) (mc dc : Nat) (kc : List Nat) (sd : Bool) (Ad : Option Addr) (nd cd : Nat) (ld : List Nat) (zd : Bool) (Bd : Option Addr) (md dd : Nat) (kd : List Nat) (x y : Rat) (w : World) (oa : OkF w ((sa, Aa, na, ca, la), (za, Ba, ma, da, ka)) x) (ob : OkF w ((sb, Ab, nb, cb, lb), (zb, Bb, mb, db, kb)) y) (oc : OkF w ((sc, Ac, nc, cc, lc), (zc, Bc, mc, dc, kc)) x) (od : OkF w ((sd, Ad, nd, cd, ld), (zd, Bd, md, dd, kd)) y) :
    Calls Try.prog 13 #[.agg #[.bool sa, .slice Aa na ca, .bool za, .slice Ba ma da, .bool sb, .slice Ab nb cb, .bool zb, .slice Bb mb db], .agg #[.bool sc, .slice Ac nc cc, .bool zc, .slice Bc mc dc, .bool sd, .slice Ad nd cd, .bool zd, .slice Bd md dd]] w (RetV w (.bool true)) := by
  have K0 := ((Mm.nil w).var (g := w.heap.size) rfl [.bool sa, .slice Aa na ca, .bool za, .slice Ba ma da, .bool sb, .slice Ab nb cb, .bool zb, .slice Bb mb db] 30).var (g := w.heap.size + 1) (by simp) [.bool sc, .slice Ac nc cc, .bool zc, .slice Bc mc dc, .bool sd, .slice Ad nd cd, .bool zd, .slice Bd md dd] 30
  replace oa := oa.next K0.1
  replace ob := ob.next K0.1
  replace oc := oc.next K0.1
  replace od := od.next K0.1
  go_enter Try.func13, Try.ntmps13
  go_upto_region 1 with (fail)
  generalize (w.alloc (.cells #[.bool sa, .slice Aa na ca, .bool za, .slice Ba ma da, .bool sb, .slice Ab nb cb, .bool zb, .slice Bb mb db] 30)).alloc (.cells #[.bool sc, .slice Ac nc cc, .bool zc, .slice Bc mc dc, .bool sd, .slice Ad nd cd, .bool zd, .slice Bd md dd] 30) = w0 at K0 oa ob oc od ⊢
  obtain ⟨p0, p1, p2, p3, p4, p5, p6, p7⟩ := (K0.blk (g := w.heap.size) (vs := [.bool sa, .slice Aa na ca, .bool za, .slice Ba ma da, .bool sb, .slice Ab nb cb, .bool zb, .slice Bb mb db]) (by simp)).c8
  obtain ⟨q0, q1, q2, q3, q4, q5, q6, q7⟩ := (K0.blk (g := w.heap.size + 1) (vs := [.bool sc, .slice Ac nc cc, .bool zc, .slice Bc mc dc, .bool sd, .slice Ad nd cd, .bool zd, .slice Bd md dd]) (by simp)).c8
  go_wp2_with fail
  refine (same_frac_ok sa Aa na ca la za Ba ma da ka sc Ac nc cc lc zc Bc mc dc kc x _ oa oc).mono ?_
  rintro e1 w1 ⟨rfl, hb⟩
  have K1 := K0.next hb
  replace ob := ob.next hb
  replace od := od.next hb
  clear K0 hb oa oc p0 p1 p2 p3 p4 p5 p6 p7 q0 q1 q2 q3 q4 q5 q6 q7
  obtain ⟨p0, p1, p2, p3, p4, p5, p6, p7⟩ := (K1.blk (g := w.heap.size) (vs := [.bool sa, .slice Aa na ca, .bool za, .slice Ba ma da, .bool sb, .slice Ab nb cb, .bool zb, .slice Bb mb db]) (by simp)).c8
  obtain ⟨q0, q1, q2, q3, q4, q5, q6, q7⟩ := (K1.blk (g := w.heap.size + 1) (vs := [.bool sc, .slice Ac nc cc, .bool zc, .slice Bc mc dc, .bool sd, .slice Ad nd cd, .bool zd, .slice Bd md dd]) (by simp)).c8
  go_wp2_with fail
  refine (same_frac_ok sb Ab nb cb lb zb Bb mb db kb sd Ad nd cd ld zd Bd md dd kd y _ ob od).mono ?_
  rintro e2 w2 ⟨rfl, hb⟩
  go_wp2_with fail
  go_ret
  exact ⟨rfl, (K1.next hb).1⟩

set_option maxRecDepth 100000 in
set_option maxHeartbeats 6400000 in
theorem gauss_size_any (sa : Bool) (Aa : Option Addr) (na ca : Nat) (za : Bool) (Ba : Option Addr) (ma da : Nat) (sb : Bool) (Ab : Option Addr) (nb cb : Nat) (zb : Bool) (Bb : Option Addr) (mb db : Nat) (w : World) (ha : na ≤ 281474976710656) (ia : ma ≤ 281474976710656) (hb : nb ≤ 281474976710656) (ib : mb ≤ 281474976710656) :
    Calls Try.prog 21 #[.agg #[.bool sa, .slice Aa na ca, .bool za, .slice Ba ma da, .bool sb, .slice Ab nb cb, .bool zb, .slice Bb mb db]] w (RetV w (.int .i64 (((2 + na + ma) + (2 + nb + mb) : Nat) : Int))) := by
  have K0 := (Mm.nil w).var (g := w.heap.size) rfl [.bool sa, .slice Aa na ca, .bool za, .slice Ba ma da, .bool sb, .slice Ab nb cb, .bool zb, .slice Bb mb db] 30
  obtain ⟨fa, hfa⟩ : ∃ f, 2 + na + ma = f := ⟨_, rfl⟩
  obtain ⟨fb, hfb⟩ : ∃ f, 2 + nb + mb = f := ⟨_, rfl⟩
  simp only [hfa, hfb]
  obtain ⟨T, hT⟩ : ∃ T, fa + fb = T := ⟨_, rfl⟩
  rw [hT]
  have W1 : IntKind.i64.wrap ((fa : Int) + (fb : Int)) = (T : Int) := by rw [IntWalk.i64_in _ (by omega)]; omega
  clear hT
  have HFa := Lib.hid hfa
  have Ha := Lib.hid ha
  have Ia := Lib.hid ia
  have HFb := Lib.hid hfb
  have Hb := Lib.hid hb
  have Ib := Lib.hid ib
  clear hfa ha ia hfb hb ib
  go_enter Try.func21, Try.ntmps21
  go_upto_region 1 with (fail)
  generalize w.alloc (.cells #[.bool sa, .slice Aa na ca, .bool za, .slice Ba ma da, .bool sb, .slice Ab nb cb, .bool zb, .slice Bb mb db] 30) = w0 at K0 ⊢
  obtain ⟨q0_0, q0_1, q0_2, q0_3, q0_4, q0_5, q0_6, q0_7⟩ := (K0.blk (g := w.heap.size) (vs := [.bool sa, .slice Aa na ca, .bool za, .slice Ba ma da, .bool sb, .slice Ab nb cb, .bool zb, .slice Bb mb db]) (by simp)).c8
  go_region_held3 (fun w' => w'.cell? ⟨w.heap.size, 0, none⟩ = some (.bool sa) ∧ w'.cell? ⟨w.heap.size, 1, none⟩ = some (.slice Aa na ca) ∧ w'.cell? ⟨w.heap.size, 2, none⟩ = some (.bool za) ∧ w'.cell? ⟨w.heap.size, 3, none⟩ = some (.slice Ba ma da) ∧ w'.cell? ⟨w.heap.size, 4, none⟩ = some (.bool sb) ∧ w'.cell? ⟨w.heap.size, 5, none⟩ = some (.slice Ab nb cb) ∧ w'.cell? ⟨w.heap.size, 6, none⟩ = some (.bool zb) ∧ w'.cell? ⟨w.heap.size, 7, none⟩ = some (.slice Bb mb db))
    (go_keep)
    (first
      | (go_at_call 50; apply Calls.withMm (w0 := w); (case K => (repeat (first | (with_reducible exact K1) | (with_reducible apply Mm.drewN) | (with_reducible apply Mm.drew) | (with_reducible apply Mm.varz)))); intro KX; (with_reducible refine (frac_size_any sb zb Ab Bb nb cb mb db _ Hb.out Ib.out).mono ?_); rintro e2 w2 ⟨rfl, hb2⟩; rw [HFb.out]; have K2 := KX.next hb2; clear KX; obtain ⟨q2_0, q2_1, q2_2, q2_3, q2_4, q2_5, q2_6, q2_7⟩ := (K2.blk (g := w.heap.size) (vs := [.bool sa, .slice Aa na ca, .bool za, .slice Ba ma da, .bool sb, .slice Ab nb cb, .bool zb, .slice Bb mb db]) (by simp)).c8; clear hb2)
      | (go_at_call 50; apply Calls.withMm (w0 := w); (case K => (repeat (first | (with_reducible exact K0) | (with_reducible apply Mm.drewN) | (with_reducible apply Mm.drew) | (with_reducible apply Mm.varz)))); intro KX; (with_reducible refine (frac_size_any sa za Aa Ba na ca ma da _ Ha.out Ia.out).mono ?_); rintro e1 w1 ⟨rfl, hb1⟩; rw [HFa.out]; have K1 := KX.next hb1; clear KX; obtain ⟨q1_0, q1_1, q1_2, q1_3, q1_4, q1_5, q1_6, q1_7⟩ := (K1.blk (g := w.heap.size) (vs := [.bool sa, .slice Aa na ca, .bool za, .slice Ba ma da, .bool sb, .slice Ab nb cb, .bool zb, .slice Bb mb db]) (by simp)).c8; clear hb1)
      | fail)
  all_goals
    go_wp2_with fail
    go_ret
    exact ⟨rfl, K2.1⟩

set_option maxRecDepth 100000 in
set_option maxHeartbeats 6400000 in
theorem matrix_size_any (sa : Bool) (Aa : Option Addr) (na ca : Nat) (za : Bool) (Ba : Option Addr) (ma da : Nat) (sb : Bool) (Ab : Option Addr) (nb cb : Nat) (zb : Bool) (Bb : Option Addr) (mb db : Nat) (sc : Bool) (Ac : Option Addr) (nc cc : Nat) (zc : Bool) (Bc : Option Addr) (mc dc : Nat) (sd : Bool) (Ad : Option Addr) (nd cd : Nat) (zd : Bool) (Bd : Option Addr) (md dd : Nat) (w : World) (ha : na ≤ 281474976710656) (ia : ma ≤ 281474976710656) (hb : nb ≤ 281474976710656) (ib : mb ≤ 281474976710656) (hc : nc ≤ 281474976710656) (ic : mc ≤ 281474976710656) (hd : nd ≤ 281474976710656) (id : md ≤ 281474976710656) :
    Calls Try.prog 20 #[.agg #[.bool sa, .slice Aa na ca, .bool za, .slice Ba ma da, .bool sb, .slice Ab nb cb, .bool zb, .slice Bb mb db, .bool sc, .slice Ac nc cc, .bool zc, .slice Bc mc dc, .bool sd, .slice Ad nd cd, .bool zd, .slice Bd md dd]] w (RetV w (.int .i64 (((2 + na + ma) + (2 + nb + mb) + (2 + nc + mc) + (2 + nd + md) : Nat) : Int))) := by
  have K0 := (Mm.nil w).var (g := w.heap.size) rfl [.bool sa, .slice Aa na ca, .bool za, .slice Ba ma da, .bool sb, .slice Ab nb cb, .bool zb, .slice Bb mb db, .bool sc, .slice Ac nc cc, .bool zc, .slice Bc mc dc, .bool sd, .slice Ad nd cd, .bool zd, .slice Bd md dd] 28
  obtain ⟨fa, hfa⟩ : ∃ f, 2 + na + ma = f := ⟨_, rfl⟩
  obtain ⟨fb, hfb⟩ : ∃ f, 2 + nb + mb = f := ⟨_, rfl⟩
  obtain ⟨fc, hfc⟩ : ∃ f, 2 + nc + mc = f := ⟨_, rfl⟩
  obtain ⟨fd, hfd⟩ : ∃ f, 2 + nd + md = f := ⟨_, rfl⟩
  simp only [hfa, hfb, hfc, hfd]
  obtain ⟨T, hT⟩ : ∃ T, fa + fb + fc + fd = T := ⟨_, rfl⟩
  rw [hT]
  have W1 : IntKind.i64.wrap ((fa : Int) + (fb : Int)) = (fa : Int) + (fb : Int) := by rw [IntWalk.i64_in _ (by omega)]
  have W2 : IntKind.i64.wrap ((fa : Int) + (fb : Int) + (fc : Int)) = (fa : Int) + (fb : Int) + (fc : Int) := by rw [IntWalk.i64_in _ (by omega)]
  have W3 : IntKind.i64.wrap ((fa : Int) + (fb : Int) + (fc : Int) + (fd : Int)) = (T : Int) := by rw [IntWalk.i64_in _ (by omega)]; omega
  clear hT
  have HFa := Lib.hid hfa
  have Ha := Lib.hid ha
  have Ia := Lib.hid ia
  have HFb := Lib.hid hfb
  have Hb := Lib.hid hb
  have Ib := Lib.hid ib
  have HFc := Lib.hid hfc
  have Hc := Lib.hid hc
  have Ic := Lib.hid ic
  have HFd := Lib.hid hfd
  have Hd := Lib.hid hd
  have Id := Lib.hid id
  clear hfa ha ia hfb hb ib hfc hc ic hfd hd id
  go_enter Try.func20, Try.ntmps20
  go_upto_region 1 with (fail)
  generalize w.alloc (.cells #[.bool sa, .slice Aa na ca, .bool za, .slice Ba ma da, .bool sb, .slice Ab nb cb, .bool zb, .slice Bb mb db, .bool sc, .slice Ac nc cc, .bool zc, .slice Bc mc dc, .bool sd, .slice Ad nd cd, .bool zd, .slice Bd md dd] 28) = w0 at K0 ⊢
  obtain ⟨q0_0, q0_1, q0_2, q0_3, q0_4, q0_5, q0_6, q0_7, q0_8, q0_9, q0_10, q0_11, q0_12, q0_13, q0_14, q0_15⟩ := (K0.blk (g := w.heap.size) (vs := [.bool sa, .slice Aa na ca, .bool za, .slice Ba ma da, .bool sb, .slice Ab nb cb, .bool zb, .slice Bb mb db, .bool sc, .slice Ac nc cc, .bool zc, .slice Bc mc dc, .bool sd, .slice Ad nd cd, .bool zd, .slice Bd md dd]) (by simp)).c16
  go_region_held3 (fun w' => w'.cell? ⟨w.heap.size, 0, none⟩ = some (.bool sa) ∧ w'.cell? ⟨w.heap.size, 1, none⟩ = some (.slice Aa na ca) ∧ w'.cell? ⟨w.heap.size, 2, none⟩ = some (.bool za) ∧ w'.cell? ⟨w.heap.size, 3, none⟩ = some (.slice Ba ma da) ∧ w'.cell? ⟨w.heap.size, 4, none⟩ = some (.bool sb) ∧ w'.cell? ⟨w.heap.size, 5, none⟩ = some (.slice Ab nb cb) ∧ w'.cell? ⟨w.heap.size, 6, none⟩ = some (.bool zb) ∧ w'.cell? ⟨w.heap.size, 7, none⟩ = some (.slice Bb mb db) ∧ w'.cell? ⟨w.heap.size, 8, none⟩ = some (.bool sc) ∧ w'.cell? ⟨w.heap.size, 9, none⟩ = some (.slice Ac nc cc) ∧ w'.cell? ⟨w.heap.size, 10, none⟩ = some (.bool zc) ∧ w'.cell? ⟨w.heap.size, 11, none⟩ = some (.slice Bc mc dc) ∧ w'.cell? ⟨w.heap.size, 12, none⟩ = some (.bool sd) ∧ w'.cell? ⟨w.heap.size, 13, none⟩ = some (.slice Ad nd cd) ∧ w'.cell? ⟨w.heap.size, 14, none⟩ = some (.bool zd) ∧ w'.cell? ⟨w.heap.size, 15, none⟩ = some (.slice Bd md dd))
    (go_keep)
    (first
      | (go_at_call 50; apply Calls.withMm (w0 := w); (case K => (repeat (first | (with_reducible exact K3) | (with_reducible apply Mm.drewN) | (with_reducible apply Mm.drew) | (with_reducible apply Mm.varz)))); intro KX; (with_reducible refine (frac_size_any sd zd Ad Bd nd cd md dd _ Hd.out Id.out).mono ?_); rintro e4 w4 ⟨rfl, hb4⟩; rw [HFd.out]; have K4 := KX.next hb4; clear KX; obtain ⟨q4_0, q4_1, q4_2, q4_3, q4_4, q4_5, q4_6, q4_7, q4_8, q4_9, q4_10, q4_11, q4_12, q4_13, q4_14, q4_15⟩ := (K4.blk (g := w.heap.size) (vs := [.bool sa, .slice Aa na ca, .bool za, .slice Ba ma da, .bool sb, .slice Ab nb cb, .bool zb, .slice Bb mb db, .bool sc, .slice Ac nc cc, .bool zc, .slice Bc mc dc, .bool sd, .slice Ad nd cd, .bool zd, .slice Bd md dd]) (by simp)).c16; clear hb4)
      | (go_at_call 50; apply Calls.withMm (w0 := w); (case K => (repeat (first | (with_reducible exact K2) | (with_reducible apply Mm.drewN) | (with_reducible apply Mm.drew) | (with_reducible apply Mm.varz)))); intro KX; (with_reducible refine (frac_size_any sc zc Ac Bc nc cc mc dc _ Hc.out Ic.out).mono ?_); rintro e3 w3 ⟨rfl, hb3⟩; rw [HFc.out]; have K3 := KX.next hb3; clear KX; obtain ⟨q3_0, q3_1, q3_2, q3_3, q3_4, q3_5, q3_6, q3_7, q3_8, q3_9, q3_10, q3_11, q3_12, q3_13, q3_14, q3_15⟩ := (K3.blk (g := w.heap.size) (vs := [.bool sa, .slice Aa na ca, .bool za, .slice Ba ma da, .bool sb, .slice Ab nb cb, .bool zb, .slice Bb mb db, .bool sc, .slice Ac nc cc, .bool zc, .slice Bc mc dc, .bool sd, .slice Ad nd cd, .bool zd, .slice Bd md dd]) (by simp)).c16; clear hb3)
      | (go_at_call 50; apply Calls.withMm (w0 := w); (case K => (repeat (first | (with_reducible exact K1) | (with_reducible apply Mm.drewN) | (with_reducible apply Mm.drew) | (with_reducible apply Mm.varz)))); intro KX; (with_reducible refine (frac_size_any sb zb Ab Bb nb cb mb db _ Hb.out Ib.out).mono ?_); rintro e2 w2 ⟨rfl, hb2⟩; rw [HFb.out]; have K2 := KX.next hb2; clear KX; obtain ⟨q2_0, q2_1, q2_2, q2_3, q2_4, q2_5, q2_6, q2_7, q2_8, q2_9, q2_10, q2_11, q2_12, q2_13, q2_14, q2_15⟩ := (K2.blk (g := w.heap.size) (vs := [.bool sa, .slice Aa na ca, .bool za, .slice Ba ma da, .bool sb, .slice Ab nb cb, .bool zb, .slice Bb mb db, .bool sc, .slice Ac nc cc, .bool zc, .slice Bc mc dc, .bool sd, .slice Ad nd cd, .bool zd, .slice Bd md dd]) (by simp)).c16; clear hb2)
      | (go_at_call 50; apply Calls.withMm (w0 := w); (case K => (repeat (first | (with_reducible exact K0) | (with_reducible apply Mm.drewN) | (with_reducible apply Mm.drew) | (with_reducible apply Mm.varz)))); intro KX; (with_reducible refine (frac_size_any sa za Aa Ba na ca ma da _ Ha.out Ia.out).mono ?_); rintro e1 w1 ⟨rfl, hb1⟩; rw [HFa.out]; have K1 := KX.next hb1; clear KX; obtain ⟨q1_0, q1_1, q1_2, q1_3, q1_4, q1_5, q1_6, q1_7, q1_8, q1_9, q1_10, q1_11, q1_12, q1_13, q1_14, q1_15⟩ := (K1.blk (g := w.heap.size) (vs := [.bool sa, .slice Aa na ca, .bool za, .slice Ba ma da, .bool sb, .slice Ab nb cb, .bool zb, .slice Bb mb db, .bool sc, .slice Ac nc cc, .bool zc, .slice Bc mc dc, .bool sd, .slice Ad nd cd, .bool zd, .slice Bd md dd]) (by simp)).c16; clear hb1)
      | fail)
  all_goals
    go_wp2_with fail
    go_ret
    exact ⟨rfl, K4.1⟩
end Go.Proofs.Ytdmdaoginojalaa
