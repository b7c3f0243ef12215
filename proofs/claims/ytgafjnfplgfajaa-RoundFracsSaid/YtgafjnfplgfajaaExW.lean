/-
  The program's whole numbers (package exact): held against one another; bits; copies.
-/
import Derived.Test.YtgafjnfplgfajaaExV
import Derived.Test.YtgafjnfplgfajaaFrR
import Derived.Deep.RegionHeld3
namespace Go.Proofs.Ytgafjnfplgfajaa
open Go.RowKit

theorem icmp_facts (x y : Int) : (x < y → icmp x y = -1) ∧ (y < x → icmp x y = 1) ∧ (x = y → icmp x y = 0) := by
  unfold icmp
  refine ⟨fun h => if_pos h, fun h => ?_, fun h => ?_⟩
  · rw [if_neg (by omega), if_pos h]
  · rw [if_neg (by omega), if_neg (by omega)]
theorem sign_lt {x y : Int} (h : x.sign < y.sign) : x < y := by
  rcases Int.lt_trichotomy x 0 with a | a | a <;> rcases Int.lt_trichotomy y 0 with b | b | b
  all_goals first | (rw [Int.sign_eq_neg_one_of_neg a] at h) | (rw [Int.sign_eq_one_of_pos a] at h) | (rw [a] at h)
  all_goals first | (rw [Int.sign_eq_neg_one_of_neg b] at h) | (rw [Int.sign_eq_one_of_pos b] at h) | (rw [b] at h)
  all_goals simp at h
  all_goals omega
theorem icmp_clamp {x y v : Int} {neg neg' : Bool} {p q : Nat} (hs : x.sign = y.sign) (hx : x = sgnd neg p) (hy : y = sgnd neg' q) (nx : neg = decide (x < 0)) (ny : neg' = decide (y < 0)) (h : (v < 0 ↔ p < q) ∧ (0 < v ↔ q < p)) :
    (neg = false → icmp x y = max (-1) (min 1 v)) ∧ (neg = true → icmp x y = max (-1) (min 1 (-v))) := by
  have hb : neg' = neg := by
    rw [nx, ny]
    have h1 : x < 0 ↔ y < 0 := by rw [← Int.sign_eq_neg_one_iff_neg, ← Int.sign_eq_neg_one_iff_neg, hs]
    exact decide_eq_decide.2 h1.symm
  subst hb
  clear hs nx ny
  obtain ⟨h1, h2⟩ := h
  unfold icmp
  cases neg'
  · refine ⟨fun _ => ?_, fun h => absurd h (by decide)⟩
    rw [hx, hy]
    unfold sgnd
    simp only [Bool.false_eq_true, if_false]
    split <;> (try split) <;> omega
  · refine ⟨fun h => absurd h (by decide), fun _ => ?_⟩
    rw [hx, hy]
    unfold sgnd
    simp only [if_true]
    split <;> (try split) <;> omega
set_option maxRecDepth 100000 in
set_option maxHeartbeats 1600000 in
theorem ex_cmp_int (neg neg' : Bool) (A A' : Option Addr) (n c n' c' : Nat) (x y : Int) (w : World) (hx : IsInt w neg A n c x) (hy : IsInt w neg' A' n' c' y) (hn : n ≤ 1000000000) (hn' : n' ≤ 1000000000) :
    Calls Try.prog 71 #[.agg #[.bool neg, .slice A n c], .agg #[.bool neg', .slice A' n' c']] w (RetV w (.int .i64 (icmp x y))) := by
  have K0 := (((Mm.nil w).int hx).int hy).var (g := w.heap.size) rfl [.bool neg, .slice A n c] 36 |>.var (g := w.heap.size + 1) (by simp) [.bool neg', .slice A' n' c'] 36
  have HX := Lib.hid (isInt_neg hx)
  have HY := Lib.hid (isInt_neg hy)
  have HC := Lib.hid (icmp_facts x y)
  clear hx hy
  go_enter Try.func71, Try.ntmps71
  go_wp2_with fail
  generalize (w.alloc (.cells #[.bool neg, .slice A n c] 36)).alloc (.cells #[.bool neg', .slice A' n' c'] 36) = w0 at K0 ⊢
  obtain ⟨qa0x, qb0x, qc0x, qd0x, qe0x⟩ := (K0.blk (g := w.heap.size) (vs := [.bool neg, .slice A n c]) (by simp)).two
  obtain ⟨qa0y, qb0y, qc0y, qd0y, qe0y⟩ := (K0.blk (g := w.heap.size + 1) (vs := [.bool neg', .slice A' n' c']) (by simp)).two
  go_region_held3 (fun w' => w'.cell? ⟨w.heap.size, 0, none⟩ = some (.bool neg) ∧ w'.cell? ⟨w.heap.size, 1, none⟩ = some (.slice A n c) ∧ w'.cell? ⟨w.heap.size + 1, 0, none⟩ = some (.bool neg') ∧ w'.cell? ⟨w.heap.size + 1, 1, none⟩ = some (.slice A' n' c'))
    (go_keep)
    (first
      | (go_at_call 70; (with_reducible refine (ex_sign_any neg A n c x _ ?_).mono ?_); (first | (with_reducible exact K0.at_ (by simp)) | (with_reducible exact K0.drew.at_ (by simp)) | (with_reducible exact (K0.drewN _).at_ (by simp))); rintro e1 w1 ⟨rfl, hb1⟩; (first | (with_reducible have K1 := (K0.next hb1)) | (with_reducible have K1 := (K0.drew.next hb1)) | (with_reducible have K1 := ((K0.drewN _).next hb1))); have Q1x := (K1.blk (g := w.heap.size) (vs := [.bool neg, .slice A n c]) (by simp)).two; obtain ⟨qa1x, qb1x, qc1x, qd1x, qe1x⟩ := Q1x; have Q1y := (K1.blk (g := w.heap.size + 1) (vs := [.bool neg', .slice A' n' c']) (by simp)).two; obtain ⟨qa1y, qb1y, qc1y, qd1y, qe1y⟩ := Q1y; clear hb1)
      | (go_at_call 70; (with_reducible refine (ex_sign_any neg' A' n' c' y _ ?_).mono ?_); (first | (with_reducible exact K1.at_ (by simp)) | (with_reducible exact K1.drew.at_ (by simp)) | (with_reducible exact (K1.drewN _).at_ (by simp))); rintro e2 w2 ⟨rfl, hb2⟩; (first | (with_reducible have K2 := (K1.next hb2)) | (with_reducible have K2 := (K1.drew.next hb2)) | (with_reducible have K2 := ((K1.drewN _).next hb2))); have Q2x := (K2.blk (g := w.heap.size) (vs := [.bool neg, .slice A n c]) (by simp)).two; obtain ⟨qa2x, qb2x, qc2x, qd2x, qe2x⟩ := Q2x; have Q2y := (K2.blk (g := w.heap.size + 1) (vs := [.bool neg', .slice A' n' c']) (by simp)).two; obtain ⟨qa2y, qb2y, qc2y, qd2y, qe2y⟩ := Q2y; clear hb2))
  by_cases hs : x.sign = y.sign
  · have h1 : (x.sign != y.sign) = false := by rw [hs]; simp
    have HS := Lib.hid hs
    clear hs
    obtain ⟨a, ha, ca, na, hxe⟩ := (K2.at_ (neg := neg) (A := A) (n := n) (c := c) (z := x) (by simp))
    obtain ⟨b, hb, cb, nb, hye⟩ := (K2.at_ (neg := neg') (A := A') (n := n') (c := c') (z := y) (by simp))
    have HXE := Lib.hid hxe
    have HYE := Lib.hid hye
    clear na nb hxe hye
    go_wp2_with fail
    refine (ex_size_any A A' n c n' c' a b _ ha hb ca cb hn hn').mono ?_
    rintro e3 w3 ⟨v, rfl, hv1, hv2, hv3, hv4, k3, rfl⟩
    have HV := Lib.hid (And.intro hv1 hv2)
    clear hv1 hv2
    go_wp2_with fail
    · have hn0 : neg = true := by assumption
      have E := Lib.hid (icmp_clamp HS.out HXE.out HYE.out HX.out HY.out HV.out)
      go_ret
      exact ⟨by rw [E.out.2 hn0]; rfl, below_drewN K2.1 _⟩
    · have hn0 : neg = false := by assumption
      have E := Lib.hid (icmp_clamp HS.out HXE.out HYE.out HX.out HY.out HV.out)
      go_ret
      exact ⟨by rw [E.out.1 hn0]; rfl, below_drewN K2.1 _⟩
  · have h1 : (x.sign != y.sign) = true := by simpa using hs
    by_cases hl : x.sign < y.sign
    · have E : Hid (icmp x y = -1) := Lib.hid (HC.out.1 (sign_lt hl))
      go_wp2_with fail
      go_ret
      exact ⟨by rw [E.out]; rfl, K2.1⟩
    · have E : Hid (icmp x y = 1) := Lib.hid (HC.out.2.1 (sign_lt (by omega)))
      go_wp2_with fail
      go_ret
      exact ⟨by rw [E.out]; rfl, K2.1⟩
end Go.Proofs.Ytgafjnfplgfajaa
