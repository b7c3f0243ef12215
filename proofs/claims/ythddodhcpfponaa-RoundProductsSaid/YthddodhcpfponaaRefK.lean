/-
  The references' whole numbers (polestarref01): may it be; as a number of 64 bits.
-/
import Derived.Test.YthddodhcpfponaaRefJ
namespace Go.Proofs.Ythddodhcpfponaa
open Go.RowKit

/-- May limbs and a sign be a number? -/
def okInt (neg : Bool) (l : List Nat) : Prop := l.length ≤ 2048 ∧ Lm.canon l ∧ (l = [] → neg = false)
open Classical in
noncomputable def chk (neg : Bool) (l : List Nat) : Int := if okInt neg l then 0 else 1
theorem chk_ok {neg : Bool} {l : List Nat} (h : okInt neg l) : chk neg l = 0 := by unfold chk; rw [if_pos h]
theorem chk_no {neg : Bool} {l : List Nat} (h : ¬ okInt neg l) : chk neg l = 1 := by unfold chk; rw [if_neg h]
theorem canon_last {l : List Nat} (h : 0 < l.length) : Lm.canon l ↔ l[l.length - 1] ≠ 0 := by
  have hne : l ≠ [] := by intro e; subst e; simp at h
  unfold Lm.canon
  constructor
  · intro hh; have := hh hne; rwa [List.getLast_eq_getElem] at this
  · intro hh hne'; rw [List.getLast_eq_getElem]; exact hh

set_option maxHeartbeats 600000 in
theorem ref_check_sl (neg : Bool) (A : Option Addr) (n c : Nat) (l : List Nat) (w : World) (h : Sl w A n c l) (hn : n ≤ 1000000000) :
    Calls Try.prog 100 #[.agg #[.bool neg, .slice A n c]] w (RetV w (.int .i64 (chk neg l))) := by
  have hlen := h.len
  have HL := Lib.hid hlen
  clear hlen
  by_cases h1 : 2048 < n
  · have E : Hid (chk neg l = 1) := chk_no (fun hh => by have := hh.1; have := HL.out; omega)
    go_enter Try.func100, Try.ntmps100
    go_wp2
    go_ret
    exact ⟨by rw [E.out]; rfl, (Below.refl _ _).alloc (Nat.le_refl _) _⟩
  · by_cases h0 : n = 0
    · subst h0
      have hl0 : l = [] := List.eq_nil_of_length_eq_zero HL.out
      cases neg
      · have E : Hid (chk false l = 0) := chk_ok ⟨by rw [HL.out]; omega, by rw [hl0]; exact Lm.canon_nil, fun _ => rfl⟩
        clear hl0
        go_enter Try.func100, Try.ntmps100
        go_wp2
        go_ret
        exact ⟨by rw [E.out]; rfl, (Below.refl _ _).alloc (Nat.le_refl _) _⟩
      · have E : Hid (chk true l = 1) := chk_no (fun hh => by have := hh.2.2 hl0; cases this)
        clear hl0
        go_enter Try.func100, Try.ntmps100
        go_wp2
        go_ret
        exact ⟨by rw [E.out]; rfl, (Below.refl _ _).alloc (Nat.le_refl _) _⟩
    · obtain ⟨ad, rfl, hb, hl, hc, hx⟩ := (h.alloc (.cells #[.bool neg, .slice A n c] 32)).at_ (k := n - 1) (by omega)
      have hn1 : 1 ≤ n := by omega
      have hne : ((n : Int) == 0) = false := by rw [beq_eq_false_iff_ne]; omega
      clear h0
      by_cases hz : l[n - 1] = 0
      · have E : Hid (chk neg l = 1) := chk_no (fun hh => by
          have := (canon_last (by rw [HL.out]; omega)).1 hh.2.1
          apply this
          have e : l.length - 1 = n - 1 := by rw [HL.out]
          simp only [e]; exact hz)
        have hz' : (((l[n - 1] : Nat) : Int) == 0) = true := by rw [hz]; rfl
        clear hz
        go_enter Try.func100, Try.ntmps100
        go_wp2
        go_ret
        exact ⟨by rw [E.out]; rfl, (Below.refl _ _).alloc (Nat.le_refl _) _⟩
      · have E : Hid (chk neg l = 0) := chk_ok ⟨by rw [HL.out]; omega, (canon_last (by rw [HL.out]; omega)).2 (by
          have e : l.length - 1 = n - 1 := by rw [HL.out]
          simp only [e]; exact hz), fun e => by have := HL.out; rw [e] at this; simp at this; omega⟩
        have hz' : (((l[n - 1] : Nat) : Int) == 0) = false := by rw [beq_eq_false_iff_ne]; omega
        clear hz
        go_enter Try.func100, Try.ntmps100
        go_wp2
        go_ret
        exact ⟨by rw [E.out]; rfl, (Below.refl _ _).alloc (Nat.le_refl _) _⟩
end Go.Proofs.Ythddodhcpfponaa
