/-
  The references' whole numbers (polestarref01): order.
-/
import Derived.Test.YthddodhcpfponaaRefG
namespace Go.Proofs.Ythddodhcpfponaa
open Go.RowKit

/-- Two numbers held against one another. -/
def icmp (x y : Int) : Int := if x < y then -1 else if y < x then 1 else 0

theorem cmp_bd (a b : List Nat) : -1 ≤ Lm.cmp a b ∧ Lm.cmp a b ≤ 1 := by unfold Lm.cmp; split <;> (try split) <;> omega

set_option maxRecDepth 100000 in
set_option maxHeartbeats 600000 in
theorem ref_cmp_int (neg neg' : Bool) (A A' : Option Addr) (n c n' c' : Nat) (x y : Int) (w : World) (hx : IsInt w neg A n c x) (hy : IsInt w neg' A' n' c' y) (hn : n ≤ 1000000000) (hn' : n' ≤ 1000000000) :
    Calls Try.prog 89 #[.agg #[.bool neg, .slice A n c], .agg #[.bool neg', .slice A' n' c']] w (RetV w (.int .i64 (icmp x y))) := by
  have hx2 := (hx.alloc (.cells #[.bool neg, .slice A n c] 32)).alloc (.cells #[.bool neg', .slice A' n' c'] 32)
  have hy2 := (hy.alloc (.cells #[.bool neg, .slice A n c] 32)).alloc (.cells #[.bool neg', .slice A' n' c'] 32)
  go_enter Try.func89, Try.ntmps89
  go_wp2_with fail
  refine (ref_sign_any _ _ _ _ _ _ (by exact hx2)).mono ?_
  rintro e w1 ⟨rfl, hb1⟩
  obtain ⟨hc1, hf1⟩ := bcell hb1
  have hz1 : w.heap.size + 1 < w1.heap.size := by have := hb1.size; simp at this; omega
  have hx3 := hx2.below hb1
  have hy3 := hy2.below hb1
  have k1 := hc1 w.heap.size 1 (by simp <;> omega)
  have k2 := hc1 (w.heap.size + 1) 1 (by simp <;> omega)
  have k0 := hc1 w.heap.size 0 (by simp <;> omega)
  have k3 := hc1 (w.heap.size + 1) 0 (by simp <;> omega)
  go_wp2_with fail
  refine (ref_sign_any _ _ _ _ _ _ (by exact hy3)).mono ?_
  rintro e w2 ⟨rfl, hb2⟩
  obtain ⟨hc2, hf2⟩ := bcell hb2
  have j1 := hc2 w.heap.size 1 (by omega)
  have j2 := hc2 (w.heap.size + 1) 1 (by omega)
  have hx4 := hx3.below hb2
  have hy4 := hy3.below hb2
  have hbb := below_next (below_box (below_box hb1)) hb2
  by_cases hs : x.sign = y.sign
  · obtain ⟨a, ha, ca, _, hxe⟩ := hx4
    obtain ⟨b, hb, cb, _, hye⟩ := hy4
    have h1 : (x.sign != y.sign) = false := by rw [hs]; simp
    have hcb := cmp_bd a b
    by_cases hx0 : x < 0
    · have hy0 : y < 0 := by
        rw [Int.sign_eq_neg_one_of_neg hx0] at hs
        rcases Int.lt_trichotomy y 0 with h | h | h
        · exact h
        · rw [h] at hs; simp at hs
        · rw [Int.sign_eq_one_of_pos h] at hs; omega
      have E : Hid (icmp x y = -(Lm.cmp a b)) := by
        have hn0 := isInt_neg hx
        have hn1 := isInt_neg hy
        rw [hn0, decide_eq_true hx0] at hxe
        rw [hn1, decide_eq_true hy0] at hye
        show icmp x y = -(Lm.cmp a b)
        rw [hxe, hye]
        unfold icmp Lm.cmp sgnd
        simp only [if_true]
        split <;> split <;> (try split) <;> omega
      have hH := Lib.hid hs
      clear hs hxe hye
      go_wp2_with (go_at_call 79; refine (ref_cmp_any _ _ _ _ _ _ _ _ _ (by exact ha) (by exact hb) ca cb hn hn').mono ?_; rintro e w' ⟨rfl, j, rfl⟩)
      go_ret
      refine ⟨by rw [E.out]; rfl, below_drewN hbb _⟩
    · have hy0 : ¬ y < 0 := by
        intro h
        rw [Int.sign_eq_neg_one_of_neg h] at hs
        rcases Int.lt_trichotomy x 0 with h | h | h
        · exact hx0 h
        · rw [h] at hs; simp at hs
        · rw [Int.sign_eq_one_of_pos h] at hs; omega
      have E : Hid (icmp x y = Lm.cmp a b) := by
        have hn0 := isInt_neg hx
        have hn1 := isInt_neg hy
        rw [hn0, decide_eq_false hx0] at hxe
        rw [hn1, decide_eq_false hy0] at hye
        show icmp x y = Lm.cmp a b
        rw [hxe, hye]
        unfold icmp Lm.cmp sgnd
        simp only [Bool.false_eq_true, if_false]
        split <;> split <;> (try split) <;> (try split) <;> omega
      have hH := Lib.hid hs
      clear hs hxe hye
      go_wp2_with (go_at_call 79; refine (ref_cmp_any _ _ _ _ _ _ _ _ _ (by exact ha) (by exact hb) ca cb hn hn').mono ?_; rintro e w' ⟨rfl, j, rfl⟩)
      go_ret
      refine ⟨by rw [E.out]; rfl, below_drewN hbb _⟩
  · have h1 : (x.sign != y.sign) = true := by simpa using hs
    by_cases hl : x.sign < y.sign
    · have E : Hid (icmp x y = -1) := by
        have : x < y := by
          rcases Int.lt_or_le x y with h | h
          · exact h
          · exfalso
            rcases Int.lt_trichotomy x 0 with hx0 | hx0 | hx0 <;> rcases Int.lt_trichotomy y 0 with hy0 | hy0 | hy0
            all_goals first | (rw [Int.sign_eq_neg_one_of_neg hx0] at hl) | (rw [Int.sign_eq_one_of_pos hx0] at hl) | (rw [hx0] at hl)
            all_goals first | (rw [Int.sign_eq_neg_one_of_neg hy0] at hl) | (rw [Int.sign_eq_one_of_pos hy0] at hl) | (rw [hy0] at hl)
            all_goals simp at hl
            all_goals omega
        show icmp x y = -1
        unfold icmp; rw [if_pos this]
      go_wp2
      go_ret
      exact ⟨by rw [E.out]; rfl, hbb⟩
    · have E : Hid (icmp x y = 1) := by
        have hg : y.sign < x.sign := by omega
        have : y < x := by
          rcases Int.lt_or_le y x with h | h
          · exact h
          · exfalso
            rcases Int.lt_trichotomy x 0 with hx0 | hx0 | hx0 <;> rcases Int.lt_trichotomy y 0 with hy0 | hy0 | hy0
            all_goals first | (rw [Int.sign_eq_neg_one_of_neg hx0] at hg) | (rw [Int.sign_eq_one_of_pos hx0] at hg) | (rw [hx0] at hg)
            all_goals first | (rw [Int.sign_eq_neg_one_of_neg hy0] at hg) | (rw [Int.sign_eq_one_of_pos hy0] at hg) | (rw [hy0] at hg)
            all_goals simp at hg
            all_goals omega
        show icmp x y = 1
        unfold icmp; rw [if_neg (by omega), if_pos this]
      go_wp2
      go_ret
      exact ⟨by rw [E.out]; rfl, hbb⟩
end Go.Proofs.Ythddodhcpfponaa
