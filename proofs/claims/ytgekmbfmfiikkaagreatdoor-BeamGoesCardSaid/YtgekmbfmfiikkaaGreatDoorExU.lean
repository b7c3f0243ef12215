/-
  The program's whole numbers (package exact): limbs without noughts at the end, a sign, numbers of 64 bits, may a number be.
-/
import Derived.Test.YtgekmbfmfiikkaaGreatDoorRefV
import Derived.Test.YtgekmbfmfiikkaaGreatDoorRefX
import Derived.Test.YtgekmbfmfiikkaaGreatDoorCom
set_option maxHeartbeats 800000
set_option maxRecDepth 100000
namespace Go.Proofs.YtgekmbfmfiikkaaGreatDoor
open Go.RowKit
theorem ex_trim_any (A : Option Addr) (n c : Nat) (l : List Nat) (w : World) (h : Sl w A n c l) (hn : n ≤ 4000000000) :
  Calls Tryz.prog 278 #[.slice A n c] w fun e w' => e = .returned (.slice A (Lm.trim l).length c) ∧ w = w' := by
 have hlen := h.len
 have hcap := h.cap
 go_enter Tryz.func278, Tryz.ntmps278
 go_wp2
 go_loop [0] (fun v => ∃ k : Nat, k ≤ n ∧ v = .slice A k c ∧ Hid (Lm.trim (l.take k) = Lm.trim l)) (fun v => lenOf v)
 case atStart => exact ⟨n, Nat.le_refl _, rfl, by rw [← hlen, List.take_length]; exact rfl⟩
 case round =>
  obtain ⟨k, hk, rfl, hrel⟩ := hrel
  by_cases h0 : k = 0
  ·subst h0
   have e : Lm.trim l = [] := by rw [← hrel.out]; rfl
   have E : Hid (Lm.trim l = []) := e
   clear e
   go_wp2
   go_ret
   exact ⟨by rw [E.out]; rfl, rfl⟩
  ·obtain ⟨ad, rfl, hb, hl, hc, hx⟩ := h.at_ (k := k - 1) (by omega)
   have hk1 : 1 ≤ k := by omega
   clear h0 
   have hd : decide ((0 : Int) < (k : Int)) = true := by simp; omega
   go_wp2
   ·have hz : ((l[k - 1] : Nat) : Int) == 0 := by assumption
    have hz' : l[k - 1] = 0 := by have := beq_iff_eq.1 hz; omega
    refine ⟨⟨k - 1, by omega, rfl, ?_⟩, by simp [lenOf]; omega⟩
    have e : l.take k = l.take (k - 1) ++ [0] := by
     conv => lhs; rw [show k = k - 1 + 1 by omega]
     rw [List.take_succ_eq_append_getElem hl, hz']
    have e2 : Lm.trim (l.take (k - 1)) = Lm.trim l := by rw [← hrel.out, e, Lm.trim_snoc_zero]
    exact e2
   ·have hz : (((l[k - 1] : Nat) : Int) == 0) = false := by assumption
    have hz' : l[k - 1] ≠ 0 := by intro e; rw [e] at hz; simp at hz
    have e : l.take k = l.take (k - 1) ++ [l[k - 1]] := by
     conv => lhs; rw [show k = k - 1 + 1 by omega]
     rw [List.take_succ_eq_append_getElem hl]
    have e2 : (Lm.trim l).length = k := by
     rw [← hrel.out, e, Lm.trim_snoc _ _ hz', ← e, List.length_take]; omega
    go_ret
    exact ⟨by rw [e2]; rfl, rfl⟩
theorem ex_signed_any (neg : Bool) (A : Option Addr) (n c : Nat) (l : List Nat) (w : World) (h : Sl w A n c l) (hn : n ≤ 4000000000) :
  Calls Tryz.prog 267 #[.bool neg, .slice A n c] w (RetInt w (sgnd neg (Lm.lv l))) := by
 have hlen := h.len
 have hcap := h.cap
 have htl := trim_len l
 by_cases h0 : Lm.trim l = []
 ·have hlv : Lm.lv l = 0 := by rw [← Lm.trim_lv, h0]; rfl
  have hl0 : ((Lm.trim l).length : Int) = 0 := by rw [h0]; rfl
  have H : Hid (Lm.lv l = 0) := hlv
  clear hlv h0
  go_enter Tryz.func267, Tryz.ntmps267
  go_wp2_with (go_at_call 278; refine (ex_trim_any _ _ _ _ _ (h.alloc _) hn).mono ?_; rintro e w' ⟨rfl, rfl⟩)
  exact bodyPost_ret (v := .agg #[.bool false, .slice none 0 0]) (by simp [results, Tryz.results267, go_sem]) rfl
   ⟨false, none, 0, 0, rfl, by rw [H.out, show sgnd neg 0 = 0 by unfold sgnd; split <;> rfl]; exact isInt_nought, (Below.refl _ _).alloc (Nat.le_refl _) _⟩
 ·have h1 : (((Lm.trim l).length : Int) == 0) = false := by
   have : (Lm.trim l).length ≠ 0 := fun e => h0 (List.eq_nil_of_length_eq_zero e)
   rw [beq_eq_false_iff_ne]; omega
  go_enter Tryz.func267, Tryz.ntmps267
  go_wp2_with (go_at_call 278; refine (ex_trim_any _ _ _ _ _ (h.alloc _) hn).mono ?_; rintro e w' ⟨rfl, rfl⟩)
  exact bodyPost_ret (v := .agg #[.bool neg, .slice A (Lm.trim l).length c]) (by simp [results, Tryz.results267, go_sem]) rfl
   ⟨neg, A, (Lm.trim l).length, c, rfl, (isInt_signed h h0).below ((Below.refl _ _).alloc (Nat.le_refl _) _), (Below.refl _ _).alloc (Nat.le_refl _) _⟩
theorem ex_of_pos (m : Nat) (w : World) (h : m ≤ 9223372036854775807) :
  Calls Tryz.prog 215 #[.int .i64 (m : Int)] w (RetInt w (m : Int)) := by
 have e1 : (m : Int) % 4294967296 = ((m % 4294967296 : Nat) : Int) := by omega
 have e2 : (m : Int) / 4294967296 = ((m / 4294967296 : Nat) : Int) := by omega
 have E1 := Lib.hid e1
 have E2 := Lib.hid e2
 clear e1 e2
 go_enter Tryz.func215, Tryz.ntmps215
 go_wp2_with fail
 rw [E1.out, E2.out]
 refine (ex_signed_any _ _ _ _ _ _ (sl_new2_box _ _ _ _ _ (by omega) (by omega)) (by omega)).mono ?_
 rintro e w2 ⟨neg2, A2, n2, c2, rfl, hI2, hb2⟩
 obtain ⟨hc2, hf2⟩ := bcell hb2
 have r5 := hc2 (w.heap.size) 0 (by simp <;> omega)
 have r6 := hc2 (w.heap.size) 1 (by simp <;> omega)
 have r7 := hf2 (w.heap.size) 0 (by simp <;> omega)
 have r8 := hf2 (w.heap.size) 1 (by simp <;> omega)
 have hz1 : w.heap.size < w2.heap.size := (by have := hb2.size; simp at this; omega)
 rw [of_limbs] at hI2
 go_wp2_with fail
 exact bodyPost_ret (v := .agg #[.bool neg2, .slice A2 n2 c2]) (by simp [results, Tryz.results215, go_sem, r5, r6]) rfl
  ⟨neg2, A2, n2, c2, rfl, isInt_result (b0 := false) (a0 := none) (n0 := 0) (c0 := 0) hI2 (r5.trans (by simp [go_sem])) (r6.trans (by simp [go_sem])) _ _, below_result (below_box (below_box hb2)) (by omega) _ _⟩
theorem ex_of_neg (m : Nat) (w : World) (h : m ≤ 9223372036854775808) (h0 : 0 < m) :
  Calls Tryz.prog 215 #[.int .i64 (-(m : Int))] w (RetInt w (-(m : Int))) := by
 have e1 : (m : Int) % 4294967296 = ((m % 4294967296 : Nat) : Int) := by omega
 have e2 : (m : Int) / 4294967296 = ((m / 4294967296 : Nat) : Int) := by omega
 have E1 := Lib.hid e1
 have E2 := Lib.hid e2
 clear e1 e2
 have ew : IntKind.u64.wrap (-IntKind.u64.wrap (-(m : Int))) = (m : Int) := by
  simp only [IntKind.wrap, IntKind.bits, IntKind.signed]; simp; omega
 have hneg : -(m : Int) < 0 := by omega
 have hb1 : (m : Int) ≤ 18446744073709551615 := by omega
 go_enter Tryz.func215, Tryz.ntmps215
 go_wp2_with fail
 rw [E1.out, E2.out]
 refine (ex_signed_any _ _ _ _ _ _ (sl_new2_box _ _ _ _ _ (by omega) (by omega)) (by omega)).mono ?_
 rintro e w2 ⟨neg2, A2, n2, c2, rfl, hI2, hb2⟩
 obtain ⟨hc2, hf2⟩ := bcell hb2
 have r5 := hc2 (w.heap.size) 0 (by simp <;> omega)
 have r6 := hc2 (w.heap.size) 1 (by simp <;> omega)
 have r7 := hf2 (w.heap.size) 0 (by simp <;> omega)
 have r8 := hf2 (w.heap.size) 1 (by simp <;> omega)
 have hz1 : w.heap.size < w2.heap.size := (by have := hb2.size; simp at this; omega)
 rw [of_limbs] at hI2
 go_wp2_with fail
 exact bodyPost_ret (v := .agg #[.bool neg2, .slice A2 n2 c2]) (by simp [results, Tryz.results215, go_sem, r5, r6]) rfl
  ⟨neg2, A2, n2, c2, rfl, isInt_result (b0 := false) (a0 := none) (n0 := 0) (c0 := 0) hI2 (r5.trans (by simp [go_sem])) (r6.trans (by simp [go_sem])) _ _, below_result (below_box (below_box hb2)) (by omega) _ _⟩
theorem ex_of_any (z : Int) (w : World) (h : -9223372036854775808 ≤ z ∧ z ≤ 9223372036854775807) :
  Calls Tryz.prog 215 #[.int .i64 z] w (RetInt w z) := by
 by_cases hz : z < 0
 ·have e : z = -(z.natAbs : Int) := by omega
  rw [e]
  exact ex_of_neg _ w (by omega) (by omega)
 ·have e : z = (z.natAbs : Int) := by omega
  rw [e]
  exact ex_of_pos _ w (by omega)
theorem ex_sign_any (neg : Bool) (A : Option Addr) (n c : Nat) (z : Int) (w : World) (h : IsInt w neg A n c z) :
  Calls Tryz.prog 174 #[.agg #[.bool neg, .slice A n c]] w (RetV w (.int .i64 z.sign)) := by
 have hz := isInt_zero h
 have hn := isInt_neg h
 by_cases h0 : n = 0
 ·have E : Hid (z.sign = 0) := by rw [hz.1 h0]; exact rfl
  subst h0
  clear hz hn
  go_enter Tryz.func174, Tryz.ntmps174
  go_wp2
  go_ret
  exact ⟨by rw [E.out]; rfl, (Below.refl _ _).alloc (Nat.le_refl _) _⟩
 ·have hz' : z ≠ 0 := fun e => h0 (hz.2 e)
  have h1 : ((n : Int) == 0) = false := by rw [beq_eq_false_iff_ne]; omega
  cases neg
  ·have E : Hid (z.sign = 1) := Int.sign_eq_one_of_pos (by have := of_decide_eq_false hn.symm; omega)
   clear hz hn hz'
   go_enter Tryz.func174, Tryz.ntmps174
   go_wp2
   go_ret
   exact ⟨by rw [E.out]; rfl, (Below.refl _ _).alloc (Nat.le_refl _) _⟩
  ·have E : Hid (z.sign = -1) := Int.sign_eq_neg_one_of_neg (of_decide_eq_true hn.symm)
   clear hz hn hz'
   go_enter Tryz.func174, Tryz.ntmps174
   go_wp2
   go_ret
   exact ⟨by rw [E.out]; rfl, (Below.refl _ _).alloc (Nat.le_refl _) _⟩
theorem ex_check_sl (neg : Bool) (A : Option Addr) (n c : Nat) (l : List Nat) (w : World) (h : Sl w A n c l) (hn : n ≤ 1000000000) :
  Calls Tryz.prog 330 #[.agg #[.bool neg, .slice A n c]] w (RetV w (.int .i64 (chk neg l))) := by
 have hlen := h.len
 have HL := Lib.hid hlen
 clear hlen
 by_cases h1 : 2048 < n
 ·have E : Hid (chk neg l = 1) := chk_no (fun hh => by have := hh.1; have := HL.out; omega)
  go_enter Tryz.func330, Tryz.ntmps330
  go_wp2
  go_ret
  exact ⟨by rw [E.out]; rfl, (Below.refl _ _).alloc (Nat.le_refl _) _⟩
 ·by_cases h0 : n = 0
  ·subst h0
   have hl0 : l = [] := List.eq_nil_of_length_eq_zero HL.out
   cases neg
   ·have E : Hid (chk false l = 0) := chk_ok ⟨by rw [HL.out]; omega, by rw [hl0]; exact Lm.canon_nil, fun _ => rfl⟩
    clear hl0
    go_enter Tryz.func330, Tryz.ntmps330
    go_wp2
    go_ret
    exact ⟨by rw [E.out]; rfl, (Below.refl _ _).alloc (Nat.le_refl _) _⟩
   ·have E : Hid (chk true l = 1) := chk_no (fun hh => by have := hh.2.2 hl0; cases this)
    clear hl0
    go_enter Tryz.func330, Tryz.ntmps330
    go_wp2
    go_ret
    exact ⟨by rw [E.out]; rfl, (Below.refl _ _).alloc (Nat.le_refl _) _⟩
  ·obtain ⟨ad, rfl, hb, hl, hc, hx⟩ := (h.alloc (.cells #[.bool neg, .slice A n c] 24)).at_ (k := n - 1) (by omega)
   have hn1 : 1 ≤ n := by omega
   have hne : ((n : Int) == 0) = false := by rw [beq_eq_false_iff_ne]; omega
   clear h0
   by_cases hz : l[n - 1] = 0
   ·have E : Hid (chk neg l = 1) := chk_no (fun hh => by
     have := (canon_last (by rw [HL.out]; omega)).1 hh.2.1
     apply this
     have e : l.length - 1 = n - 1 := by rw [HL.out]
     simp only [e]; exact hz)
    have hz' : (((l[n - 1] : Nat) : Int) == 0) = true := by rw [hz]; rfl
    clear hz
    go_enter Tryz.func330, Tryz.ntmps330
    go_wp2
    go_ret
    exact ⟨by rw [E.out]; rfl, (Below.refl _ _).alloc (Nat.le_refl _) _⟩
   ·have E : Hid (chk neg l = 0) := chk_ok ⟨by rw [HL.out]; omega, (canon_last (by rw [HL.out]; omega)).2 (by
     have e : l.length - 1 = n - 1 := by rw [HL.out]
     simp only [e]; exact hz), fun e => by have := HL.out; rw [e] at this; simp at this; omega⟩
    have hz' : (((l[n - 1] : Nat) : Int) == 0) = false := by rw [beq_eq_false_iff_ne]; omega
    clear hz
    go_enter Tryz.func330, Tryz.ntmps330
    go_wp2
    go_ret
    exact ⟨by rw [E.out]; rfl, (Below.refl _ _).alloc (Nat.le_refl _) _⟩
end Go.Proofs.YtgekmbfmfiikkaaGreatDoor
