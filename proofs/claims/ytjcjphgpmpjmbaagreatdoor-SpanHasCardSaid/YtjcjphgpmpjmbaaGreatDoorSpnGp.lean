/-
  Does a span have a fraction? (span.Has, polestarref05.Has, polestarref05.Asked)
  Spans: roots (span.Sqrt) of spans that may be and do not lie below nought.
  SpanGrows.
-/
import Derived.Test.YtjcjphgpmpjmbaaGreatDoorSfO
import Derived.Test.YtjcjphgpmpjmbaaGreatDoorSpnV
import Derived.Test.YtjcjphgpmpjmbaaGreatDoorCom
import Derived.Test.YtjcjphgpmpjmbaaGreatDoorFrDp
import Derived.Test.YtjcjphgpmpjmbaaGreatDoorNeaP
import Derived.Test.YtjcjphgpmpjmbaaGreatDoorSpnW
import Derived.Test.YtjcjphgpmpjmbaaGreatDoorSpnL
namespace Go.Proofs.YtjcjphgpmpjmbaaGreatDoor
open Go.RowKit

def hasB (lo hi : Nat) (r : Rat) : Bool := decide (rcmp (fr lo) r ≤ 0) && decide (rcmp r (fr hi) ≤ 0)
noncomputable def hasV (lo hi : Nat) (f : LmE) : Bool × Int := if okS lo hi && okB f then (hasB lo hi (rv f), 0) else (false, 1)

set_option maxRecDepth 100000 in
set_option maxHeartbeats 3200000 in
theorem span_has_any (lo hi : Nat) (b1 : lo < 2 ^ 64) (b2 : hi < 2 ^ 64) (neg : Bool) (A : Option Addr) (n c : Nat) (l : List Nat) (neg' : Bool) (A' : Option Addr) (n' c' : Nat) (l' : List Nat) (w : World) (hx : LmE.at_ w ((neg, A, n, c, l), (neg', A', n', c', l'))) (hT : Tab w) :
    Calls Tryz.prog 10 #[.agg #[.float .f64 lo, .float .f64 hi], .agg #[.bool neg, .slice A n c, .bool neg', .slice A' n' c']] w (RetV w (.tuple #[.bool (hasV lo hi ((neg, A, n, c, l), (neg', A', n', c', l'))).1, .int .i64 (hasV lo hi ((neg, A, n, c, l), (neg', A', n', c', l'))).2])) := by
  obtain ⟨os, hos⟩ : ∃ o, okS lo hi = o := ⟨_, rfl⟩
  obtain ⟨ob, hob⟩ : ∃ o, okB ((neg, A, n, c, l), (neg', A', n', c', l')) = o := ⟨_, rfl⟩
  obtain ⟨r, hr⟩ : ∃ r, rv ((neg, A, n, c, l), (neg', A', n', c', l')) = r := ⟨_, rfl⟩
  have HV : Hid (hasV lo hi ((neg, A, n, c, l), (neg', A', n', c', l')) = if os && ob then (hasB lo hi r, 0) else (false, 1)) := Lib.hid (by unfold hasV; rw [hos, hob, hr])
  have HOS := Lib.hid hos
  have HOB := Lib.hid hob
  have HR := Lib.hid hr
  have K0 := (((Mm.nil w).var (g := w.heap.size) rfl [.float .f64 lo, .float .f64 hi] 24).var (g := w.heap.size + 1) (by simp) [.bool neg, .slice A n c, .bool neg', .slice A' n' c'] 29).box (.cells #[.float .f64 lo, .float .f64 hi] 24)
  have hx0 := LmE.at_.below hx K0.1
  have HT := Lib.hid hT
  clear hos hob hr hx hT
  go_enter Tryz.func10, Tryz.ntmps10
  go_wp2_with fail
  refine (span_may_one (w.heap.size + 1 + 1) lo hi _ b1 b2 (by simp) (by simp [go_sem]) (by simp [go_sem])).mono ?_
  rintro e1 w1 ⟨rfl, hb1⟩
  rw [HOS.out]
  have K1 := K0.next hb1
  have hx1 := LmE.at_.below hx0 hb1
  clear K0 hx0 hb1
  obtain ⟨⟨qa1, qb1, qc1, qd1⟩, _, _⟩ := (K1.blk (g := w.heap.size + 1) (vs := [.bool neg, .slice A n c, .bool neg', .slice A' n' c']) (by simp)).four
  obtain ⟨ra1, rb1, _, _, re1⟩ := (K1.blk (g := w.heap.size) (vs := [.float .f64 lo, .float .f64 hi]) (by simp)).two
  cases os with
  | false =>
    have HV2 : Hid (hasV lo hi ((neg, A, n, c, l), (neg', A', n', c', l')) = (false, 1)) := HV
    go_wp2_with fail
    go_ret2
    exact ⟨by rw [HV2.out]; rfl, K1.1⟩
  | true =>
    go_wp2_with fail
    refine (frac_check_any neg A n c l neg' A' n' c' l' _ hx1).mono ?_
    rintro e2 w2 ⟨rfl, hb2⟩
    rw [HOB.out]
    have K2 := K1.next hb2
    have hx2 := LmE.at_.below hx1 hb2
    clear K1 hx1 hb2 qa1 qb1 qc1 qd1 ra1 rb1
    obtain ⟨⟨qa1, qb1, qc1, qd1⟩, _, _⟩ := (K2.blk (g := w.heap.size + 1) (vs := [.bool neg, .slice A n c, .bool neg', .slice A' n' c']) (by simp)).four
    obtain ⟨ra1, rb1, _, _, re2⟩ := (K2.blk (g := w.heap.size) (vs := [.float .f64 lo, .float .f64 hi]) (by simp)).two
    cases ob with
    | false =>
      have HV2 : Hid (hasV lo hi ((neg, A, n, c, l), (neg', A', n', c', l')) = (false, 1)) := HV
      go_wp2_with fail
      go_ret2
      exact ⟨by rw [HV2.out]; rfl, K2.1⟩
    | true =>
      have HV2 : Hid (hasV lo hi ((neg, A, n, c, l), (neg', A', n', c', l')) = (hasB lo hi r, 0)) := HV
      obtain ⟨f1, f2, _⟩ := okS_iff.1 HOS.out
      have O2 : OkF w2 ((neg, A, n, c, l), (neg', A', n', c', l')) r := ⟨hx2, HOB.out, HR.out⟩
      obtain ⟨v1, hv1⟩ : ∃ v, rcmp (fr lo) r = v := ⟨_, rfl⟩
      obtain ⟨v2, hv2⟩ : ∃ v, rcmp r (fr hi) = v := ⟨_, rfl⟩
      have HB : Hid (hasB lo hi r = (decide (v1 ≤ 0) && decide (v2 ≤ 0))) := Lib.hid (by unfold hasB; rw [hv1, hv2])
      have HV1 := Lib.hid hv1
      have HV3 := Lib.hid hv2
      have HF1 := Lib.hid f1
      have HF2 := Lib.hid f2
      have hT2 := Lib.hid (HT.out.next K2.1)
      have HE : Hid (hasV lo hi ((neg, A, n, c, l), (neg', A', n', c', l')) = (decide (v1 ≤ 0) && decide (v2 ≤ 0), 0)) := Lib.hid (by rw [HV2.out, HB.out])
      clear hv1 hv2 hx2 f1 f2 HV HV2 HB HOS HOB HR
      go_wp2_with fail
      refine (frac_float_fin lo b1 _ hT2.out HF1.out).mono ?_
      rintro e3 w3 ⟨s1, A1, n1, p1, l1, s2, A2, n2, p2, l2, rfl, O3, hb3⟩
      have K3 := (K2.next hb3).var (g := w3.heap.size) rfl [.bool s1, .slice A1 n1 p1, .bool s2, .slice A2 n2 p2] 29
      have O4 := O3.next (w' := w3.alloc (.cells #[.bool s1, .slice A1 n1 p1, .bool s2, .slice A2 n2 p2] 29)) ((Below.refl _ _).alloc (Nat.le_refl _) _)
      have O5 := (O2.next hb3).next (w' := w3.alloc (.cells #[.bool s1, .slice A1 n1 p1, .bool s2, .slice A2 n2 p2] 29)) ((Below.refl _ _).alloc (Nat.le_refl _) _)
      have hz3 : w.heap.size + 1 < w3.heap.size := by have := hb3.size; omega
      clear K2 O2 O3 hb3 qa1 qb1 qc1 qd1 ra1 rb1
      go_upto_region 4 with (fail)
      generalize hg3 : w3.heap.size = g3 at K3 ⊢
      generalize w3.alloc (.cells #[.bool s1, .slice A1 n1 p1, .bool s2, .slice A2 n2 p2] 29) = w4 at K3 O4 O5 ⊢
      obtain ⟨⟨qa1, qb1, qc1, qd1⟩, _, _⟩ := (K3.blk (g := w.heap.size + 1) (vs := [.bool neg, .slice A n c, .bool neg', .slice A' n' c']) (by simp)).four
      obtain ⟨ra1, rb1, _, _, re3⟩ := (K3.blk (g := w.heap.size) (vs := [.float .f64 lo, .float .f64 hi]) (by simp)).two
      have hT3 := Lib.hid (HT.out.next K3.1)
      go_wp2_with fail
      refine (frac_float_fin hi b2 _ hT3.out HF2.out).mono ?_
      rintro e5 w5 ⟨s3, A3, n3, p3, l3, s4, A4, n4, p4, l4, rfl, O6, hb5⟩
      have K5 := (K3.next hb5).var (g := w5.heap.size) rfl [.bool s3, .slice A3 n3 p3, .bool s4, .slice A4 n4 p4] 29
      have O7 := O6.next (w' := w5.alloc (.cells #[.bool s3, .slice A3 n3 p3, .bool s4, .slice A4 n4 p4] 29)) ((Below.refl _ _).alloc (Nat.le_refl _) _)
      have O8 := (O4.next hb5).next (w' := w5.alloc (.cells #[.bool s3, .slice A3 n3 p3, .bool s4, .slice A4 n4 p4] 29)) ((Below.refl _ _).alloc (Nat.le_refl _) _)
      have O9 := (O5.next hb5).next (w' := w5.alloc (.cells #[.bool s3, .slice A3 n3 p3, .bool s4, .slice A4 n4 p4] 29)) ((Below.refl _ _).alloc (Nat.le_refl _) _)
      clear K3 O4 O5 O6 hb5 qa1 qb1 qc1 qd1 ra1 rb1
      go_upto_region 5 with (fail)
      generalize hg5 : w5.heap.size = g5 at K5 ⊢
      generalize w5.alloc (.cells #[.bool s3, .slice A3 n3 p3, .bool s4, .slice A4 n4 p4] 29) = w6 at K5 O7 O8 O9 ⊢
      obtain ⟨⟨qa1, qb1, qc1, qd1⟩, _, _⟩ := (K5.blk (g := w.heap.size + 1) (vs := [.bool neg, .slice A n c, .bool neg', .slice A' n' c']) (by simp)).four
      obtain ⟨⟨ua1, ub1, uc1, ud1⟩, _, _⟩ := (K5.blk (g := g3) (vs := [.bool s1, .slice A1 n1 p1, .bool s2, .slice A2 n2 p2]) (by simp)).four
      obtain ⟨⟨va1, vb1, vc1, vd1⟩, _, _⟩ := (K5.blk (g := g5) (vs := [.bool s3, .slice A3 n3 p3, .bool s4, .slice A4 n4 p4]) (by simp)).four
      go_wp2_with fail
      refine (frac_cmp_any s1 A1 n1 p1 l1 s2 A2 n2 p2 l2 neg A n c l neg' A' n' c' l' (fr lo) r v1 _ O8 O9 HV1).mono ?_
      rintro e7 w7 ⟨rfl, hb7⟩
      have K7 := K5.next hb7
      have O10 := O7.next hb7
      have O11 := O9.next hb7
      clear K5 O7 O8 O9 hb7 qa1 qb1 qc1 qd1 ua1 ub1 uc1 ud1 va1 vb1 vc1 vd1
      obtain ⟨⟨qa1, qb1, qc1, qd1⟩, _, _⟩ := (K7.blk (g := w.heap.size + 1) (vs := [.bool neg, .slice A n c, .bool neg', .slice A' n' c']) (by simp)).four
      obtain ⟨⟨va1, vb1, vc1, vd1⟩, _, _⟩ := (K7.blk (g := g5) (vs := [.bool s3, .slice A3 n3 p3, .bool s4, .slice A4 n4 p4]) (by simp)).four
      by_cases h1 : v1 ≤ 0
      · have HE1 : Hid (hasV lo hi ((neg, A, n, c, l), (neg', A', n', c', l')) = (decide (v2 ≤ 0), 0)) := Lib.hid (by rw [HE.out, decide_eq_true h1, Bool.true_and])
        go_wp2_with fail
        refine (frac_cmp_any neg A n c l neg' A' n' c' l' s3 A3 n3 p3 l3 s4 A4 n4 p4 l4 r (fr hi) v2 _ O11 O10 HV3).mono ?_
        rintro e8 w8 ⟨rfl, hb8⟩
        have K8 := K7.next hb8
        go_wp2_with fail
        go_ret2
        exact ⟨by rw [HE1.out]; rfl, K8.1⟩
      · have HE2 : Hid (hasV lo hi ((neg, A, n, c, l), (neg', A', n', c', l')) = (false, 0)) := Lib.hid (by rw [HE.out, decide_eq_false h1, Bool.false_and])
        go_wp2_with fail
        go_ret2
        exact ⟨by rw [HE2.out]; rfl, K7.1⟩

end Go.Proofs.YtjcjphgpmpjmbaaGreatDoor

namespace Go.Proofs.YtjcjphgpmpjmbaaGreatDoor
open Go.RowKit

theorem pz_lt6 {v : Nat} (h : v < 2 ^ 64) : pz v < 2 ^ 64 := by unfold pz; split <;> omega
end Go.Proofs.YtjcjphgpmpjmbaaGreatDoor

namespace Go.Proofs.YtjcjphgpmpjmbaaGreatDoor
open Go.RowKit

theorem endsF_zero {lo hi : Nat} (h : (endsF lo hi).2.2 = 0) : Flt.Fin lo ∧ Flt.Fin hi ∧ endsF lo hi = (pz lo, pz hi, 0) := by
  unfold endsF at h ⊢
  split at h
  · rename_i hc
    obtain ⟨h1, h2⟩ := Bool.and_eq_true_iff.1 hc
    exact ⟨Flt.finB_iff.1 h1, Flt.finB_iff.1 h2, by rw [if_pos hc]⟩
  · exact absurd h (by decide)
theorem endsF_lt {lo hi : Nat} (h1 : lo < 2 ^ 64) (h2 : hi < 2 ^ 64) : (endsF lo hi).1 < 2 ^ 64 ∧ (endsF lo hi).2.1 < 2 ^ 64 := by
  unfold endsF
  split
  · exact ⟨pz_lt6 h1, pz_lt6 h2⟩
  · exact ⟨by decide, by decide⟩
/-! ### squares and their roots -/
/-! ### the root of the square -/
end Go.Proofs.YtjcjphgpmpjmbaaGreatDoor
