/-
  The references' whole numbers (polestarref01): signs, sizes, numbers of 64 bits.
-/
import Derived.Test.YthddodhcpfponaaRefF
namespace Go.Proofs.Ythddodhcpfponaa
open Go.RowKit

def RetV (W : World) (v : Value) (e : Ending) (w' : World) : Prop := e = .returned v ∧ Below W.heap.size W w'

theorem isInt_zero {w : World} {neg : Bool} {A : Option Addr} {n c : Nat} {z : Int} (h : IsInt w neg A n c z) : n = 0 ↔ z = 0 := by
  obtain ⟨l, h1, h2, h3, rfl⟩ := h
  have := h1.len
  have hz := Lm.lv_zero h2
  unfold sgnd
  constructor
  · intro e
    have : l = [] := List.eq_nil_of_length_eq_zero (by omega)
    rw [hz.2 this]; split <;> rfl
  · intro e
    have : Lm.lv l = 0 := by split at e <;> omega
    rw [hz.1 this] at h1
    exact h1.len.symm
theorem isInt_neg {w : World} {neg : Bool} {A : Option Addr} {n c : Nat} {z : Int} (h : IsInt w neg A n c z) : neg = decide (z < 0) := by
  obtain ⟨l, h1, h2, h3, rfl⟩ := h
  have hz := Lm.lv_zero h2
  unfold sgnd
  cases neg
  · simp
  · have : l ≠ [] := fun e => by have := h3 e; cases this
    have : Lm.lv l ≠ 0 := fun e => this (hz.1 e)
    simp; omega

set_option maxHeartbeats 400000 in
theorem ref_sign_any (neg : Bool) (A : Option Addr) (n c : Nat) (z : Int) (w : World) (h : IsInt w neg A n c z) :
    Calls Try.prog 43 #[.agg #[.bool neg, .slice A n c]] w (RetV w (.int .i64 z.sign)) := by
  have hz := isInt_zero h
  have hn := isInt_neg h
  by_cases h0 : n = 0
  · have E : Hid (z.sign = 0) := by rw [hz.1 h0]; exact rfl
    subst h0
    clear hz hn
    go_enter Try.func43, Try.ntmps43
    go_wp2
    go_ret
    exact ⟨by rw [E.out]; rfl, (Below.refl _ _).alloc (Nat.le_refl _) _⟩
  · have hz' : z ≠ 0 := fun e => h0 (hz.2 e)
    have h1 : ((n : Int) == 0) = false := by rw [beq_eq_false_iff_ne]; omega
    cases neg
    · have E : Hid (z.sign = 1) := Int.sign_eq_one_of_pos (by have := of_decide_eq_false hn.symm; omega)
      clear hz hn hz'
      go_enter Try.func43, Try.ntmps43
      go_wp2
      go_ret
      exact ⟨by rw [E.out]; rfl, (Below.refl _ _).alloc (Nat.le_refl _) _⟩
    · have E : Hid (z.sign = -1) := Int.sign_eq_neg_one_of_neg (of_decide_eq_true hn.symm)
      clear hz hn hz'
      go_enter Try.func43, Try.ntmps43
      go_wp2
      go_ret
      exact ⟨by rw [E.out]; rfl, (Below.refl _ _).alloc (Nat.le_refl _) _⟩

set_option maxRecDepth 100000 in
set_option maxHeartbeats 800000 in
theorem ref_turned_any (neg : Bool) (A : Option Addr) (n c : Nat) (z : Int) (w : World) (h : IsInt w neg A n c z) (hn : n ≤ 4000000000) :
    Calls Try.prog 57 #[.agg #[.bool neg, .slice A n c]] w (RetInt w (-z)) := by
  obtain ⟨l, hl, _, _, rfl⟩ := h
  have hl2 := (hl.alloc (.cells #[.bool neg, .slice A n c] 32)).alloc (.cells #[.bool false, .slice none 0 0] 32)
  go_enter Try.func57, Try.ntmps57
  go_wp2_with (go_at_call 77; refine (ref_signed_any _ _ _ _ _ _ (by exact hl2) hn).mono ?_; rintro e w2 ⟨neg2, A2, n2, c2, rfl, hI2, hb2⟩; obtain ⟨hc2, hf2⟩ := bcell hb2; have r5 := hc2 (w.heap.size + 1) 0 (by simp <;> omega); have r6 := hc2 (w.heap.size + 1) 1 (by simp <;> omega); have r7 := hf2 (w.heap.size + 1) 0 (by simp <;> omega); have r8 := hf2 (w.heap.size + 1) 1 (by simp <;> omega); have hz1 : w.heap.size + 1 < w2.heap.size := (by have := hb2.size; simp at this; omega))
  rw [sgnd_not] at hI2
  exact bodyPost_ret (v := .agg #[.bool neg2, .slice A2 n2 c2]) (by simp [results, Try.results57, go_sem, r5, r6]) rfl
    ⟨neg2, A2, n2, c2, rfl, isInt_result (b0 := false) (a0 := none) (n0 := 0) (c0 := 0) hI2 (r5.trans (by simp [go_sem])) (r6.trans (by simp [go_sem])) _ _, below_result (below_box (below_box hb2)) (by omega) _ _⟩

set_option maxRecDepth 100000 in
set_option maxHeartbeats 800000 in
theorem ref_size_any (neg : Bool) (A : Option Addr) (n c : Nat) (z : Int) (w : World) (h : IsInt w neg A n c z) (hn : n ≤ 4000000000) :
    Calls Try.prog 58 #[.agg #[.bool neg, .slice A n c]] w (RetInt w (z.natAbs : Nat)) := by
  obtain ⟨l, hl, _, _, rfl⟩ := h
  have hl2 := (hl.alloc (.cells #[.bool neg, .slice A n c] 32)).alloc (.cells #[.bool false, .slice none 0 0] 32)
  have hv : ((sgnd neg (Lm.lv l)).natAbs : Int) = sgnd false (Lm.lv l) := by unfold sgnd; split <;> simp
  rw [hv]
  clear hv
  go_enter Try.func58, Try.ntmps58
  go_wp2_with (go_at_call 77; refine (ref_signed_any _ _ _ _ _ _ (by exact hl2) hn).mono ?_; rintro e w2 ⟨neg2, A2, n2, c2, rfl, hI2, hb2⟩; obtain ⟨hc2, hf2⟩ := bcell hb2; have r5 := hc2 (w.heap.size + 1) 0 (by simp <;> omega); have r6 := hc2 (w.heap.size + 1) 1 (by simp <;> omega); have r7 := hf2 (w.heap.size + 1) 0 (by simp <;> omega); have r8 := hf2 (w.heap.size + 1) 1 (by simp <;> omega); have hz1 : w.heap.size + 1 < w2.heap.size := (by have := hb2.size; simp at this; omega))
  exact bodyPost_ret (v := .agg #[.bool neg2, .slice A2 n2 c2]) (by simp [results, Try.results58, go_sem, r5, r6]) rfl
    ⟨neg2, A2, n2, c2, rfl, isInt_result (b0 := false) (a0 := none) (n0 := 0) (c0 := 0) hI2 (r5.trans (by simp [go_sem])) (r6.trans (by simp [go_sem])) _ _, below_result (below_box (below_box hb2)) (by omega) _ _⟩

theorem sl_new2_box (w : World) (o : Obj) (t : TypeId) (d d' : Nat) (hd : d < 4294967296) (hd' : d' < 4294967296) :
    Sl ((w.alloc o).alloc (.cells #[.int .u32 (d : Int), .int .u32 (d' : Int)] t)) (some ⟨w.heap.size + 1, 0, none⟩) 2 2 [d, d'] := by
  have h := sl_new2 (w.alloc o) t d d' hd hd'
  have e : (w.alloc o).heap.size = w.heap.size + 1 := by simp
  rwa [e] at h
theorem of_limbs (m : Nat) : Lm.lv [m % 4294967296, m / 4294967296] = m := by
  have := Nat.div_add_mod m 4294967296
  show m % 4294967296 + Lm.B * (m / 4294967296 + Lm.B * 0) = m
  have : Lm.B = 4294967296 := rfl
  rw [this]; omega

set_option maxRecDepth 100000 in
set_option maxHeartbeats 800000 in
theorem ref_of_pos (m : Nat) (w : World) (h : m ≤ 9223372036854775807) :
    Calls Try.prog 76 #[.int .i64 (m : Int)] w (RetInt w (m : Int)) := by
  have e1 : (m : Int) % 4294967296 = ((m % 4294967296 : Nat) : Int) := by omega
  have e2 : (m : Int) / 4294967296 = ((m / 4294967296 : Nat) : Int) := by omega
  have E1 := Lib.hid e1
  have E2 := Lib.hid e2
  clear e1 e2
  go_enter Try.func76, Try.ntmps76
  go_wp2_with fail
  rw [E1.out, E2.out]
  refine (ref_signed_any _ _ _ _ _ _ (sl_new2_box _ _ _ _ _ (by omega) (by omega)) (by omega)).mono ?_
  rintro e w2 ⟨neg2, A2, n2, c2, rfl, hI2, hb2⟩
  obtain ⟨hc2, hf2⟩ := bcell hb2
  have r5 := hc2 (w.heap.size) 0 (by simp <;> omega)
  have r6 := hc2 (w.heap.size) 1 (by simp <;> omega)
  have r7 := hf2 (w.heap.size) 0 (by simp <;> omega)
  have r8 := hf2 (w.heap.size) 1 (by simp <;> omega)
  have hz1 : w.heap.size < w2.heap.size := (by have := hb2.size; simp at this; omega)
  rw [of_limbs] at hI2
  go_wp2_with fail
  exact bodyPost_ret (v := .agg #[.bool neg2, .slice A2 n2 c2]) (by simp [results, Try.results76, go_sem, r5, r6]) rfl
    ⟨neg2, A2, n2, c2, rfl, isInt_result (b0 := false) (a0 := none) (n0 := 0) (c0 := 0) hI2 (r5.trans (by simp [go_sem])) (r6.trans (by simp [go_sem])) _ _, below_result (below_box (below_box hb2)) (by omega) _ _⟩

set_option maxRecDepth 100000 in
set_option maxHeartbeats 800000 in
theorem ref_of_neg (m : Nat) (w : World) (h : m ≤ 9223372036854775808) (h0 : 0 < m) :
    Calls Try.prog 76 #[.int .i64 (-(m : Int))] w (RetInt w (-(m : Int))) := by
  have e1 : (m : Int) % 4294967296 = ((m % 4294967296 : Nat) : Int) := by omega
  have e2 : (m : Int) / 4294967296 = ((m / 4294967296 : Nat) : Int) := by omega
  have E1 := Lib.hid e1
  have E2 := Lib.hid e2
  clear e1 e2
  have ew : IntKind.u64.wrap (-IntKind.u64.wrap (-(m : Int))) = (m : Int) := by
    simp only [IntKind.wrap, IntKind.bits, IntKind.signed]; simp; omega
  have hneg : -(m : Int) < 0 := by omega
  have hb1 : (m : Int) ≤ 18446744073709551615 := by omega
  go_enter Try.func76, Try.ntmps76
  go_wp2_with fail
  rw [E1.out, E2.out]
  refine (ref_signed_any _ _ _ _ _ _ (sl_new2_box _ _ _ _ _ (by omega) (by omega)) (by omega)).mono ?_
  rintro e w2 ⟨neg2, A2, n2, c2, rfl, hI2, hb2⟩
  obtain ⟨hc2, hf2⟩ := bcell hb2
  have r5 := hc2 (w.heap.size) 0 (by simp <;> omega)
  have r6 := hc2 (w.heap.size) 1 (by simp <;> omega)
  have r7 := hf2 (w.heap.size) 0 (by simp <;> omega)
  have r8 := hf2 (w.heap.size) 1 (by simp <;> omega)
  have hz1 : w.heap.size < w2.heap.size := (by have := hb2.size; simp at this; omega)
  rw [of_limbs] at hI2
  go_wp2_with fail
  exact bodyPost_ret (v := .agg #[.bool neg2, .slice A2 n2 c2]) (by simp [results, Try.results76, go_sem, r5, r6]) rfl
    ⟨neg2, A2, n2, c2, rfl, isInt_result (b0 := false) (a0 := none) (n0 := 0) (c0 := 0) hI2 (r5.trans (by simp [go_sem])) (r6.trans (by simp [go_sem])) _ _, below_result (below_box (below_box hb2)) (by omega) _ _⟩

theorem ref_of_any (z : Int) (w : World) (h : -9223372036854775808 ≤ z ∧ z ≤ 9223372036854775807) :
    Calls Try.prog 76 #[.int .i64 z] w (RetInt w z) := by
  by_cases hz : z < 0
  · have e : z = -(z.natAbs : Int) := by omega
    rw [e]
    exact ref_of_neg _ w (by omega) (by omega)
  · have e : z = (z.natAbs : Int) := by omega
    rw [e]
    exact ref_of_pos _ w (by omega)
end Go.Proofs.Ythddodhcpfponaa
