/-
  The references whole numbers (polestarref01): shifts, bits, quotients.
-/
import Derived.Test.YtgekmbfmfiikkaaGreatDoorRefU
import Derived.Test.YtgekmbfmfiikkaaGreatDoorZero
set_option maxHeartbeats 1600000
set_option maxRecDepth 100000
/-! The references' whole numbers (polestarref01): differences, products. -/
namespace Go.Proofs.YtgekmbfmfiikkaaGreatDoor
open Go.RowKit
theorem isInt_len {w w' : World} {neg neg' : Bool} {A A' : Option Addr} {n c n' c' : Nat} {x y : Int} (h : IsInt w neg A n c x) (k : IsInt w' neg' A' n' c' y) (e : x.natAbs = y.natAbs) : n = n' := by
 obtain ⟨a, ha, ca, _, rfl⟩ := h
 obtain ⟨b, hb, cb, _, rfl⟩ := k
 have : Lm.lv a = Lm.lv b := by
  have h1 : ∀ (s : Bool) (m : Nat), (sgnd s m).natAbs = m := by intro s m; unfold sgnd; split <;> omega
  rw [h1, h1] at e; exact e
 have := Lm.lv_inj ha.ok ca hb.ok cb this
 subst this
 rw [← ha.len, ← hb.len]
theorem isInt_len_neg {w w' : World} {neg neg' : Bool} {A A' : Option Addr} {n c n' c' : Nat} {x y : Int} (h : IsInt w neg A n c x) (k : IsInt w' neg' A' n' c' y) (e : x = -y) : n = n' := isInt_len h k (by omega)
theorem IsInt.drewN {w : World} {neg : Bool} {A : Option Addr} {n c : Nat} {z : Int} (h : IsInt w neg A n c z) (k : Nat) : IsInt (w.drewN k) neg A n c z := h
theorem ref_minus_any (neg neg' : Bool) (A A' : Option Addr) (n c n' c' : Nat) (x y : Int) (w : World) (hx : IsInt w neg A n c x) (hy : IsInt w neg' A' n' c' y) (hn : n ≤ 1000000000) (hn' : n' ≤ 1000000000) :
  Calls Tryz.prog 334 #[.agg #[.bool neg, .slice A n c], .agg #[.bool neg', .slice A' n' c']] w (RetInt w (x - y)) := by
 have hx3 := (((hx.alloc (.cells #[.bool neg, .slice A n c] 24)).alloc (.cells #[.bool neg', .slice A' n' c'] 24)).alloc (.cells #[.bool false, .slice none 0 0] 24))
 have hy3 := (((hy.alloc (.cells #[.bool neg, .slice A n c] 24)).alloc (.cells #[.bool neg', .slice A' n' c'] 24)).alloc (.cells #[.bool false, .slice none 0 0] 24))
 go_enter Tryz.func334, Tryz.ntmps334
 go_wp2
 have e0a : ¬ w.heap.size + 1 + 1 = w.heap.size := by omega
 have e0b : ¬ w.heap.size = w.heap.size + 1 + 1 := by omega
 have e1a : ¬ w.heap.size + 1 + 1 = w.heap.size + 1 := by omega
 have e1b : ¬ w.heap.size + 1 = w.heap.size + 1 + 1 := by omega
 go_region_held3 (fun w' => w'.cell? ⟨w.heap.size, 0, none⟩ = some (.bool neg) ∧ w'.cell? ⟨w.heap.size, 1, none⟩ = some (.slice A n c) ∧ w'.cell? ⟨w.heap.size + 1, 0, none⟩ = some (.bool neg') ∧ w'.cell? ⟨w.heap.size + 1, 1, none⟩ = some (.slice A' n' c'))
  (go_keep)
  (first | (go_at_call 365; refine (ref_turned_any _ _ _ _ _ _ (by exact hy3.drewN 1) (by omega)).mono ?_; rintro e w1 ⟨neg1, A1, n1, c1, rfl, hI1, hb1⟩; obtain ⟨hc1, hf1⟩ := bcell hb1; have hx4 := (hx3.drewN 1).below hb1; have hn1 : n1 ≤ 1000000000 := (by have := isInt_len_neg hI1 hy3 rfl; omega); have k1 := hc1 (w.heap.size) 0 (by simp <;> omega); have k2 := hc1 (w.heap.size) 1 (by simp <;> omega); have k3 := hc1 (w.heap.size + 1) 0 (by simp <;> omega); have k4 := hc1 (w.heap.size + 1) 1 (by simp <;> omega); have r1 := hc1 (w.heap.size + 1 + 1) 0 (by simp <;> omega); have r2 := hc1 (w.heap.size + 1 + 1) 1 (by simp <;> omega); have r3 := hf1 (w.heap.size + 1 + 1) 0 (by simp <;> omega); have r4 := hf1 (w.heap.size + 1 + 1) 1 (by simp <;> omega); have hz1 : w.heap.size + 1 + 1 < w1.heap.size := (by have := hb1.size; simp at this; omega)) | (go_at_call 289; refine (ref_plus_any _ _ _ _ _ _ _ _ _ _ _ hx4 hI1 hn hn1).mono ?_; rintro e w2 ⟨neg2, A2, n2, c2, rfl, hI2, hb2⟩; obtain ⟨hc2, hf2⟩ := bcell hb2; have j1 := hc2 (w.heap.size) 0 (by omega); have j2 := hc2 (w.heap.size) 1 (by omega); have j3 := hc2 (w.heap.size + 1) 0 (by omega); have j4 := hc2 (w.heap.size + 1) 1 (by omega); have r5 := hc2 (w.heap.size + 1 + 1) 0 (by omega); have r6 := hc2 (w.heap.size + 1 + 1) 1 (by omega); have r7 := hf2 (w.heap.size + 1 + 1) 0 (by omega); have r8 := hf2 (w.heap.size + 1 + 1) 1 (by omega)))
 go_wp2
 rw [show x + -y = x - y by omega] at hI2
 exact bodyPost_ret (v := .agg #[.bool neg2, .slice A2 n2 c2]) (by simp [results, Tryz.results334, go_sem, r1, r2, r5, r6]) rfl
  ⟨neg2, A2, n2, c2, rfl, isInt_result (b0 := false) (a0 := none) (n0 := 0) (c0 := 0) hI2 (r5.trans (r1.trans (by simp [go_sem]))) (r6.trans (r2.trans (by simp [go_sem]))) _ _, below_result (below_next (below_box (below_box (below_box (below_of_drew hb1)))) hb2) (by omega) _ _⟩
theorem ref_times_limbs (neg neg' : Bool) (A A' : Option Addr) (n c n' c' : Nat) (a b : List Nat) (w : World) (ha : Sl w A n c a) (hb : Sl w A' n' c' b) (hn : n ≤ 1000000000) (hn' : n' ≤ 1000000000) :
  Calls Tryz.prog 291 #[.agg #[.bool neg, .slice A n c], .agg #[.bool neg', .slice A' n' c']] w (RetInt w (sgnd (neg != neg') (Lm.lv a * Lm.lv b))) := by
 have ha3 := (((ha.alloc (.cells #[.bool neg, .slice A n c] 24)).alloc (.cells #[.bool neg', .slice A' n' c'] 24)).alloc (.cells #[.bool false, .slice none 0 0] 24))
 have hb3 := (((hb.alloc (.cells #[.bool neg, .slice A n c] 24)).alloc (.cells #[.bool neg', .slice A' n' c'] 24)).alloc (.cells #[.bool false, .slice none 0 0] 24))
 go_enter Tryz.func291, Tryz.ntmps291
 go_wp2
 have e0a : ¬ w.heap.size + 1 + 1 = w.heap.size := by omega
 have e0b : ¬ w.heap.size = w.heap.size + 1 + 1 := by omega
 have e1a : ¬ w.heap.size + 1 + 1 = w.heap.size + 1 := by omega
 have e1b : ¬ w.heap.size + 1 = w.heap.size + 1 + 1 := by omega
 go_region_held3 (fun w' => w'.cell? ⟨w.heap.size, 0, none⟩ = some (.bool neg) ∧ w'.cell? ⟨w.heap.size, 1, none⟩ = some (.slice A n c) ∧ w'.cell? ⟨w.heap.size + 1, 0, none⟩ = some (.bool neg') ∧ w'.cell? ⟨w.heap.size + 1, 1, none⟩ = some (.slice A' n' c'))
  (go_keep)
  (first | (go_at_call 349; refine (ref_mul_any _ _ _ _ _ _ _ _ _ (by exact ha3.drewN 1) (by exact hb3.drewN 1) hn hn').mono ?_; rintro e w1 ⟨A1, n1, c1, l1, rfl, hS1, ⟨hv1, hcn1, hl1⟩, hb1⟩; obtain ⟨hc1, hf1⟩ := bcell hb1; have k1 := hc1 (w.heap.size) 0 (by simp <;> omega); have k2 := hc1 (w.heap.size) 1 (by simp <;> omega); have k3 := hc1 (w.heap.size + 1) 0 (by simp <;> omega); have k4 := hc1 (w.heap.size + 1) 1 (by simp <;> omega); have r1 := hc1 (w.heap.size + 1 + 1) 0 (by simp <;> omega); have r2 := hc1 (w.heap.size + 1 + 1) 1 (by simp <;> omega); have r3 := hf1 (w.heap.size + 1 + 1) 0 (by simp <;> omega); have r4 := hf1 (w.heap.size + 1 + 1) 1 (by simp <;> omega); have hn1 := hS1.len; have hz1 : w.heap.size + 1 + 1 < w1.heap.size := (by have := hb1.size; simp at this; omega)) | (go_at_call 287; refine (ref_signed_any _ _ _ _ _ _ hS1 (by omega)).mono ?_; rintro e w2 ⟨neg2, A2, n2, c2, rfl, hI2, hb2⟩; obtain ⟨hc2, hf2⟩ := bcell hb2; have j1 := hc2 (w.heap.size) 0 (by omega); have j2 := hc2 (w.heap.size) 1 (by omega); have j3 := hc2 (w.heap.size + 1) 0 (by omega); have j4 := hc2 (w.heap.size + 1) 1 (by omega); have r5 := hc2 (w.heap.size + 1 + 1) 0 (by omega); have r6 := hc2 (w.heap.size + 1 + 1) 1 (by omega); have r7 := hf2 (w.heap.size + 1 + 1) 0 (by omega); have r8 := hf2 (w.heap.size + 1 + 1) 1 (by omega)))
 go_wp2
 rw [hv1] at hI2
 replace hI2 : IsInt w2 neg2 A2 n2 c2 (sgnd (neg != neg') (Lm.lv a * Lm.lv b)) := hI2
 exact bodyPost_ret (v := .agg #[.bool neg2, .slice A2 n2 c2]) (by simp [results, Tryz.results291, go_sem, r1, r2, r5, r6]) rfl
  ⟨neg2, A2, n2, c2, rfl, isInt_result (b0 := false) (a0 := none) (n0 := 0) (c0 := 0) hI2 (r5.trans (r1.trans (by simp [go_sem]))) (r6.trans (r2.trans (by simp [go_sem]))) _ _, below_result (below_next (below_box (below_box (below_box (below_of_drew hb1)))) hb2) (by omega) _ _⟩
theorem ref_times_int (neg neg' : Bool) (A A' : Option Addr) (n c n' c' : Nat) (x y : Int) (w : World) (hx : IsInt w neg A n c x) (hy : IsInt w neg' A' n' c' y) (hn : n ≤ 1000000000) (hn' : n' ≤ 1000000000) :
  Calls Tryz.prog 291 #[.agg #[.bool neg, .slice A n c], .agg #[.bool neg', .slice A' n' c']] w (RetInt w (x * y)) := by
 obtain ⟨a, ha, ca, _, rfl⟩ := hx
 obtain ⟨b, hb, cb, _, rfl⟩ := hy
 rw [← sgnd_mul]
 exact ref_times_limbs _ _ _ _ _ _ _ _ _ _ _ ha hb hn hn'
end Go.Proofs.YtgekmbfmfiikkaaGreatDoor
/-! The references' whole numbers (polestarref01): doubled so many times. -/
namespace Go.Proofs.YtgekmbfmfiikkaaGreatDoor
open Go.RowKit
theorem two_pow_lt (k : Nat) (h : k < 32) : 2 ^ k < 4294967296 := Nat.lt_of_lt_of_le (Nat.pow_lt_pow_right (by decide) h) (by decide)
theorem double_lv (l : List Nat) (s : Nat) : Lm.lv (List.replicate (s / 32) 0 ++ l) * 2 ^ (s % 32) = Lm.lv l * 2 ^ s := by
 rw [Lm.lv_append, Lm.lv_zeros, List.length_replicate, Nat.zero_add]
 have e : Lm.B ^ (s / 32) = 2 ^ (32 * (s / 32)) := by rw [Nat.pow_mul]
 rw [e, Nat.mul_comm (2 ^ _), Nat.mul_assoc, ← Nat.pow_add]
 congr 2
 omega
def pw (k : Nat) : Nat := 2 ^ k
theorem pw_succ (k : Nat) : pw (k + 1) = 2 * pw k := by unfold pw; rw [Nat.pow_succ, Nat.mul_comm]
theorem pw_lt (k : Nat) (h : k < 32) : pw k < 4294967296 := two_pow_lt k h
theorem ref_double_pos (neg : Bool) (A : Option Addr) (n c s : Nat) (a : List Nat) (w : World) (ha : Sl w A n c a) (h0 : 0 < n) (hn : n ≤ 100000000) (hs : s ≤ 1000000000) :
  Calls Tryz.prog 283 #[.agg #[.bool neg, .slice A n c], .int .i64 s] w (RetInt w (sgnd neg (Lm.lv a * 2 ^ s))) := by
 obtain ⟨i0, hi, hz0, hz1, hz2⟩ := info_parts info_u32
 have hne : ((n : Int) == 0) = false := by rw [beq_eq_false_iff_ne]; omega
 obtain ⟨ad, rfl, hb0, _⟩ := ha.at_ (k := 0) h0
 have ha2 := (ha.alloc (.cells #[.bool neg, .slice (some ad) n c] 24)).alloc (.cells #[.bool false, .slice none 0 0] 24)
 have hlen := ha.len
 have HL := Lib.hid hlen
 clear hlen
 go_enter Tryz.func283, Tryz.ntmps283
 go_wp2_with (at_make; refine wpList_make_full _ rfl _ _ 22 rfl (w.heap.size + 2) 164 i0 (.int .u32 0) 1 Tryz.underlying22 hi hz0 hz1 _ _ _ _ (s / 32) rfl rfl (by omega) (by omega) ?c2 ?c3 ?c4 ?_)
 case c2 => rw [hz2]; omega
 case c3 => unfold maxLen; omega
 case c4 => simp
 intro w1 hown1 hgrow1
 rw [made_u32] at hown1
 have hb1 := (Below.refl ((w.alloc (.cells #[.bool neg, .slice (some ad) n c] 24)).alloc (.cells #[.bool false, .slice none 0 0] 24)).heap.size _).grown hgrow1 (Nat.le_refl _) (fun k hk => by cases hk)
 obtain ⟨hc1, hf1⟩ := bcell hb1
 have ha3 := ha2.below hb1
 have k1 := hc1 w.heap.size 1 (by simp <;> omega)
 have hsz1 : w.heap.size + 2 ≤ w1.heap.size := by have := hb1.size; simp at this; omega
 clear hgrow1
 go_wp2_with (at_builtin; refine wpList_append_own _ rfl _ _ 22 rfl (w.heap.size + 2) 164 i0 (.int .u32 0) 1 4 Tryz.underlying22 hi hz0 hz1 hz2 rfl (by decide) _ _ _ rfl hown1 ad n c (u32s a) rfl ?d0 ?d1 ?d2 ?d3 ?d4 ?d5 ?_)
 case d0 => unfold u32s; simpa using HL.out
 case d1 =>
  intro j u hj
  obtain ⟨ad', e, _, hcell⟩ := ha3.1.2 h0
  injection e with e
  subst e
  exact hcell j u hj
 case d2 =>
  intro u hu
  unfold u32s at hu
  obtain ⟨_, _, rfl⟩ := List.mem_map.1 hu
  rfl
 case d3 => unfold maxLen; omega
 case d4 => omega
 case d5 => exact hsz1
 intro v' w2 hown2 hgrow2 _
 rw [← u32s_append] at hown2
 have hb2 : Below ((w.alloc (.cells #[.bool neg, .slice (some ad) n c] 24)).alloc (.cells #[.bool false, .slice none 0 0] 24)).heap.size _ w2 := hb1.grown hgrow2 hb1.size (fun k hk => by have := own_ge hown1 k hk; simp; omega)
 obtain ⟨A2, c2, rfl, hc2le⟩ := own_form hown2
 have hS2 : Sl w2 A2 (s / 32 + n) c2 (List.replicate (s / 32) 0 ++ a) := Sl.of_own hown2 hc2le (Lm.ok_append (Lm.ok_zeros _) ha.ok)
 clear hown1 hown2 hgrow2 k1 hc1 hf1 hb1 ha3
 obtain ⟨hc, hf⟩ := bcell hb2
 have r1 := hc (w.heap.size + 1) 0 (by simp <;> omega)
 have r2 := hc (w.heap.size + 1) 1 (by simp <;> omega)
 have r3 := hf (w.heap.size + 1) 0 (by simp <;> omega)
 have r4 := hf (w.heap.size + 1) 1 (by simp <;> omega)
 have k1 := hc w.heap.size 0 (by simp <;> omega)
 have hsz2 : w.heap.size + 1 < w2.heap.size := by have := hb2.size; simp at this; omega
 go_wp2
 go_loop [6, 7] (fun f i => ∃ k : Nat, k ≤ s % 32 ∧ i = .int .i64 k ∧ f = .int .u32 (pw k : Nat)) (fun _ i => s % 32 - (intOf i).toNat)
 case atStart => exact ⟨0, Nat.zero_le _, rfl, rfl⟩
 case round =>
  obtain ⟨k, hk, rfl, rfl⟩ := hrel
  have hp1 := pw_lt k (by omega)
  by_cases hlt : k < s % 32
  ·have hp2 := pw_lt (k + 1) (by omega)
   have hp3 : 2 * pw k ≤ 4294967295 := by rw [← pw_succ]; omega
   have hpe := Lib.hid (pw_succ k)
   go_wp2
   go_round
   case rel => exact ⟨k + 1, by omega, by go_num, by rw [hpe.out]; go_num⟩
   case measure => simp [intOf]; omega
  ·obtain rfl : k = s % 32 := by omega
   go_wp2
   have ne1 : ¬ w.heap.size + 1 = w.heap.size := by omega
   have ne2 : ¬ w.heap.size = w.heap.size + 1 := by omega
   go_region_held3 (fun w' => w'.cell? ⟨w.heap.size, 0, none⟩ = some (.bool neg))
    (go_keep)
    (first | (go_at_call 342; refine (ref_times_any _ _ _ _ _ _ (by exact hS2.drewN 1) (by omega) hp1).mono ?_; rintro e w3 ⟨A3, n3, c3, l3, rfl, hS3, ⟨hv3, hcn3, hl3⟩, hb3⟩; obtain ⟨hc3, hf3⟩ := bcell hb3; have k3 := hc3 w.heap.size 0 (by simp <;> omega); have t1 := hc3 (w.heap.size + 1) 0 (by simp <;> omega); have t2 := hc3 (w.heap.size + 1) 1 (by simp <;> omega); have t3 := hf3 (w.heap.size + 1) 0 (by simp <;> omega); have t4 := hf3 (w.heap.size + 1) 1 (by simp <;> omega); have hn3 := hS3.len; have hz3 : w.heap.size + 1 < w3.heap.size := (by have := hb3.size; simp at this; omega)) | (go_at_call 287; refine (ref_signed_any _ _ _ _ _ _ hS3 (by omega)).mono ?_; rintro e w4 ⟨neg4, A4, n4, c4, rfl, hI4, hb4⟩; obtain ⟨hc4, hf4⟩ := bcell hb4; have k4 := hc4 w.heap.size 0 (by omega); have r5 := hc4 (w.heap.size + 1) 0 (by omega); have r6 := hc4 (w.heap.size + 1) 1 (by omega); have r7 := hf4 (w.heap.size + 1) 0 (by omega); have r8 := hf4 (w.heap.size + 1) 1 (by omega)))
   go_wp2
   have hv : Lm.lv l3 = Lm.lv a * 2 ^ s := by rw [hv3]; exact double_lv a s
   rw [hv] at hI4
   exact bodyPost_ret (v := .agg #[.bool neg4, .slice A4 n4 c4]) (by simp [results, Tryz.results283, go_sem, r5, r6, t1, t2, r1, r2]) rfl
    ⟨neg4, A4, n4, c4, rfl, isInt_result (b0 := false) (a0 := none) (n0 := 0) (c0 := 0) hI4 (r5.trans (t1.trans (r1.trans (by simp [go_sem])))) (r6.trans (t2.trans (r2.trans (by simp [go_sem])))) _ _,
     below_result (below_next (below_next (below_box (below_box hb2)) (below_of_drew hb3)) hb4) (by omega) _ _⟩
theorem ref_double_any (neg : Bool) (A : Option Addr) (n c s : Nat) (x : Int) (w : World) (hx : IsInt w neg A n c x) (hn : n ≤ 100000000) (hs : s ≤ 1000000000) :
  Calls Tryz.prog 283 #[.agg #[.bool neg, .slice A n c], .int .i64 s] w (RetInt w (x * 2 ^ s)) := by
 have hz := isInt_zero hx
 obtain ⟨a, ha, ca, hneg, rfl⟩ := hx
 have hpw : sgnd neg (Lm.lv a * 2 ^ s) = sgnd neg (Lm.lv a) * 2 ^ s := by
  unfold sgnd
  split
  ·rw [Int.natCast_mul, Int.neg_mul]; simp
  ·rw [Int.natCast_mul]; simp
 by_cases h0 : n = 0
 ·have hx0 : sgnd neg (Lm.lv a) * 2 ^ s = 0 := by rw [hz.1 h0, Int.zero_mul]
  rw [hx0]
  subst h0
  clear hz hpw hx0
  go_enter Tryz.func283, Tryz.ntmps283
  go_wp2
  exact bodyPost_ret (v := .agg #[.bool false, .slice none 0 0]) (by simp [results, Tryz.results283, go_sem]) rfl
   ⟨false, none, 0, 0, rfl, isInt_nought, ((Below.refl _ _).alloc (Nat.le_refl _) _).alloc (by simp) _⟩
 ·rw [← hpw]
  exact ref_double_pos neg A n c s a w ha (by omega) hn hs
end Go.Proofs.YtgekmbfmfiikkaaGreatDoor
/-! The references' whole numbers (polestarref01): may it be; as a number of 64 bits. -/
namespace Go.Proofs.YtgekmbfmfiikkaaGreatDoor
open Go.RowKit
def okInt (neg : Bool) (l : List Nat) : Prop := l.length ≤ 2048 ∧ Lm.canon l ∧ (l = [] → neg = false)
open Classical in
noncomputable def chk (neg : Bool) (l : List Nat) : Int := if okInt neg l then 0 else 1
theorem chk_ok {neg : Bool} {l : List Nat} (h : okInt neg l) : chk neg l = 0 := by unfold chk; rw [if_pos h]
theorem chk_no {neg : Bool} {l : List Nat} (h : ¬ okInt neg l) : chk neg l = 1 := by unfold chk; rw [if_neg h]
theorem canon_last {l : List Nat} (h : 0 < l.length) : Lm.canon l ↔ l[l.length - 1] ≠ 0 := by
 have hne : l ≠ [] := by intro e; subst e; simp at h
 unfold Lm.canon
 constructor
 ·intro hh; have := hh hne; rwa [List.getLast_eq_getElem] at this
 ·intro hh hne'; rw [List.getLast_eq_getElem]; exact hh
theorem ref_check_sl (neg : Bool) (A : Option Addr) (n c : Nat) (l : List Nat) (w : World) (h : Sl w A n c l) (hn : n ≤ 1000000000) :
  Calls Tryz.prog 331 #[.agg #[.bool neg, .slice A n c]] w (RetV w (.int .i64 (chk neg l))) := by
 have hlen := h.len
 have HL := Lib.hid hlen
 clear hlen
 by_cases h1 : 2048 < n
 ·have E : Hid (chk neg l = 1) := chk_no (fun hh => by have := hh.1; have := HL.out; omega)
  go_enter Tryz.func331, Tryz.ntmps331
  go_wp2
  go_ret
  exact ⟨by rw [E.out]; rfl, (Below.refl _ _).alloc (Nat.le_refl _) _⟩
 ·by_cases h0 : n = 0
  ·subst h0
   have hl0 : l = [] := List.eq_nil_of_length_eq_zero HL.out
   cases neg
   ·have E : Hid (chk false l = 0) := chk_ok ⟨by rw [HL.out]; omega, by rw [hl0]; exact Lm.canon_nil, fun _ => rfl⟩
    clear hl0
    go_enter Tryz.func331, Tryz.ntmps331
    go_wp2
    go_ret
    exact ⟨by rw [E.out]; rfl, (Below.refl _ _).alloc (Nat.le_refl _) _⟩
   ·have E : Hid (chk true l = 1) := chk_no (fun hh => by have := hh.2.2 hl0; cases this)
    clear hl0
    go_enter Tryz.func331, Tryz.ntmps331
    go_wp2
    go_ret
    exact ⟨by rw [E.out]; rfl, (Below.refl _ _).alloc (Nat.le_refl _) _⟩
  ·obtain ⟨ad, rfl, hb, hl, hc, hx⟩ := (h.alloc (.cells #[.bool neg, .slice A n c] 24)).at_ (k := n - 1) (by omega)
   have hn1 : 1 ≤ n := by omega
   have hne : ((n : Int) == 0) = false := by rw [beq_eq_false_iff_ne]; omega
   clear h0
   by_cases hz : l[n - 1] = 0
   ·have E : Hid (chk neg l = 1) := chk_no (fun hh => by
     have := (canon_last (by rw [HL.out]; omega)).1 hh.2.1
     apply this
     have e : l.length - 1 = n - 1 := by rw [HL.out]
     simp only [e]; exact hz)
    have hz' : (((l[n - 1] : Nat) : Int) == 0) = true := by rw [hz]; rfl
    clear hz
    go_enter Tryz.func331, Tryz.ntmps331
    go_wp2
    go_ret
    exact ⟨by rw [E.out]; rfl, (Below.refl _ _).alloc (Nat.le_refl _) _⟩
   ·have E : Hid (chk neg l = 0) := chk_ok ⟨by rw [HL.out]; omega, (canon_last (by rw [HL.out]; omega)).2 (by
     have e : l.length - 1 = n - 1 := by rw [HL.out]
     simp only [e]; exact hz), fun e => by have := HL.out; rw [e] at this; simp at this; omega⟩
    have hz' : (((l[n - 1] : Nat) : Int) == 0) = false := by rw [beq_eq_false_iff_ne]; omega
    clear hz
    go_enter Tryz.func331, Tryz.ntmps331
    go_wp2
    go_ret
    exact ⟨by rw [E.out]; rfl, (Below.refl _ _).alloc (Nat.le_refl _) _⟩
end Go.Proofs.YtgekmbfmfiikkaaGreatDoor
/-! The references' whole numbers (polestarref01): a number below 2^63 as one of 64 bits. -/
namespace Go.Proofs.YtgekmbfmfiikkaaGreatDoor
open Go.RowKit
theorem isInt_len_le {w : World} {neg : Bool} {A : Option Addr} {n c : Nat} {z : Int} (h : IsInt w neg A n c z) {k : Nat} (hz : z.natAbs < Lm.B ^ k) : n ≤ k := by
 obtain ⟨l, hl, cl, _, rfl⟩ := h
 have h1 : (sgnd neg (Lm.lv l)).natAbs = Lm.lv l := by unfold sgnd; split <;> omega
 rw [h1] at hz
 rcases Nat.lt_or_ge k n with hk | hk
 ·exfalso
  have hne : l ≠ [] := by intro e; subst e; have := hl.len; simp at this; omega
  have h2 := Lm.lv_pos cl hne
  have h3 : Lm.B ^ k ≤ Lm.B ^ (l.length - 1) := Nat.pow_le_pow_right (by decide) (by have := hl.len; omega)
  omega
 ·exact hk
end Go.Proofs.YtgekmbfmfiikkaaGreatDoor
/-! The references' whole numbers (polestarref01): bits; halved so many times. -/
namespace Go.Proofs.YtgekmbfmfiikkaaGreatDoor
open Go.RowKit
theorem bitLen_half (t : Nat) (h : 0 < t) : bitLen t = bitLen (t / 2) + 1 := by
 by_cases h1 : t / 2 = 0
 ·have : t = 1 := by omega
  subst this; rfl
 ·have := bitLen_shift t 1 (by simpa using h1)
  rw [Nat.pow_one] at this
  omega
theorem bitLen_top {l : List Nat} (hok : Lm.ok l) (hc : Lm.canon l) (h : 0 < l.length) : bitLen (Lm.lv l) = 32 * (l.length - 1) + bitLen l[l.length - 1] := by
 have hs := Lm.lv_split l (l.length - 1) (by omega)
 have hd : l.drop (l.length - 1 + 1) = [] := List.drop_of_length_le (by omega)
 rw [hd] at hs
 have e : Lm.B ^ (l.length - 1) = 2 ^ (32 * (l.length - 1)) := by rw [Nat.pow_mul]
 have hz : Lm.lv ([] : List Nat) = 0 := rfl
 rw [hz, Nat.mul_zero, Nat.add_zero] at hs
 have hlt : Lm.lv (l.take (l.length - 1)) < 2 ^ (32 * (l.length - 1)) := by
  have := Lm.lv_lt (Lm.ok_take hok (l.length - 1))
  rw [List.length_take, Nat.min_eq_left (by omega), e] at this
  exact this
 have hdiv : Lm.lv l / 2 ^ (32 * (l.length - 1)) = l[l.length - 1] := by
  rw [hs, e, Nat.add_mul_div_left _ _ (Nat.two_pow_pos _), Nat.div_eq_of_lt hlt, Nat.zero_add]
 have := bitLen_shift (Lm.lv l) (32 * (l.length - 1)) (by rw [hdiv]; exact (canon_last h).1 hc)
 rw [hdiv] at this
 exact this
theorem ref_bits_any (neg : Bool) (A : Option Addr) (n c : Nat) (x : Int) (w : World) (hx : IsInt w neg A n c x) (hn : n ≤ 100000000) :
  Calls Tryz.prog 285 #[.agg #[.bool neg, .slice A n c]] w (RetV w (.int .i64 (bitLen x.natAbs : Nat))) := by
 have hz := isInt_zero hx
 obtain ⟨l, hl, cl, _, hxe⟩ := hx
 have habs : x.natAbs = Lm.lv l := by rw [hxe]; unfold sgnd; split <;> omega
 rw [habs]
 clear hxe habs
 have HL := Lib.hid hl.len
 by_cases h0 : n = 0
 ·subst h0
  have E : Hid (bitLen (Lm.lv l) = 0) := by have : l = [] := List.eq_nil_of_length_eq_zero HL.out; rw [this]; exact rfl
  clear hz
  go_enter Tryz.func285, Tryz.ntmps285
  go_wp2
  go_ret
  exact ⟨by rw [E.out]; rfl, (Below.refl _ _).alloc (Nat.le_refl _) _⟩
 ·clear hz
  obtain ⟨ad, rfl, hb, hlt, hc, hxl⟩ := (hl.alloc (.cells #[.bool neg, .slice A n c] 24)).at_ (k := n - 1) (by omega)
  have hn1 : 1 ≤ n := by omega
  have hne : ((n : Int) == 0) = false := by rw [beq_eq_false_iff_ne]; omega
  clear h0
  have hT : Hid (bitLen (Lm.lv l) = 32 * (n - 1) + bitLen l[n - 1]) := by
   have := bitLen_top hl.ok cl (by rw [HL.out]; omega)
   have e : l.length - 1 = n - 1 := by rw [HL.out]
   simp only [e] at this
   exact this
  have hbl : bitLen l[n - 1] ≤ 32 := by
   unfold bitLen
   split
   ·omega
   ·rename_i hh
    have := (Nat.log2_lt hh).2 (show l[n - 1] < 2 ^ 32 from hxl)
    omega
  go_enter Tryz.func285, Tryz.ntmps285
  go_wp2
  go_loop [3, 4] (fun m t => ∃ p q : Nat, q < 4294967296 ∧ t = .int .u32 q ∧ m = .int .i64 p ∧ p ≤ 3200000064 ∧ Hid (p + bitLen q = 32 * (n - 1) + bitLen l[n - 1])) (fun _ t => (intOf t).toNat)
  case atStart => exact ⟨32 * (n - 1), l[n - 1], hxl, rfl, by go_num, by omega, rfl⟩
  case round =>
   obtain ⟨p, q, hq, rfl, rfl, hp, hE⟩ := hrel
   by_cases hq0 : q = 0
   ·subst hq0
    have hpe : Hid (p = bitLen (Lm.lv l)) := by have h1 := hE.out; have h2 := hT.out; have : bitLen 0 = 0 := rfl; show p = _; omega
    go_wp2
    go_ret
    exact ⟨by rw [← hpe.out]; rfl, (Below.refl _ _).alloc (Nat.le_refl _) _⟩
   ·have hq1 : 0 < q := by omega
    have hb2 := bitLen_half q hq1
    have hpb : p ≤ 3200000032 := by have := hE.out; omega
    have HB := Lib.hid hb2
    clear hb2 hq0
    go_wp2
    go_round
    case rel => exact ⟨p + 1, q / 2, by omega, by go_num, by go_num, by omega, (by have h1 := hE.out; have h2 := HB.out; omega : p + 1 + bitLen (q / 2) = 32 * (n - 1) + bitLen l[n - 1])⟩
    case measure => simp [intOf]; omega
end Go.Proofs.YtgekmbfmfiikkaaGreatDoor
/-! The references' whole numbers (polestarref01): quotients: by one limb; what the call answers. -/
namespace Go.Proofs.YtgekmbfmfiikkaaGreatDoor
open Go.RowKit
def RetTwo (W : World) (P : List Nat → List Nat → Prop) (e : Ending) (w' : World) : Prop :=
 ∃ A n c l A' n' c' l', e = .returned (.tuple #[.slice A n c, .slice A' n' c']) ∧ Sl w' A n c l ∧ Sl w' A' n' c' l' ∧ P l l' ∧ Below W.heap.size W w'
def IsQuo (a d q r : List Nat) : Prop := Lm.lv a = Lm.lv d * Lm.lv q + Lm.lv r ∧ Lm.lv r < Lm.lv d ∧ q.length ≤ a.length ∧ r.length ≤ d.length ∧ Lm.canon q ∧ Lm.canon r
theorem ref_divide_one (A A' : Option Addr) (n c c' : Nat) (a d : List Nat) (w : World) (ha : Sl w A n c a) (hd : Sl w A' 1 c' d) (cd : Lm.canon d) (hn : n ≤ 1000000000) :
  Calls Tryz.prog 343 #[.slice A n c, .slice A' 1 c'] w (RetTwo w (IsQuo a d)) := by
 have hdl := hd.len
 obtain ⟨ad, rfl, hb, hl, hc, hx⟩ := hd.at_ (k := 0) (by omega)
 have hd0 : d = [d[0]] := by
  match d, hdl with
  | [x], _ => rfl
 have hlv : Lm.lv d = d[0] := (congrArg Lm.lv hd0).trans (Lm.lv_one _)
 have hpos : 0 < d[0] := by
  have := (canon_last (by omega)).1 cd
  have e : d.length - 1 = 0 := by omega
  simp only [e] at this
  omega
 have HV := Lib.hid hlv
 have HN := Lib.hid ha.len
 have HD := Lib.hid hdl
 have hadd : ad.add 0 = ad := by unfold Addr.add; simp
 rw [hadd] at hc
 clear hlv hd0 hdl hadd
 go_enter Tryz.func343, Tryz.ntmps343
 go_wp2_with (go_at_call 345; refine (ref_short_any _ _ _ _ _ _ (by exact ha) hn hpos hx).mono ?_; rintro e w1 ⟨A1, n1, c1, q, r, rfl, hS1, ⟨hq, hr, hcq, hlq⟩, hb1⟩; have HQ := Lib.hid hq; have HC := Lib.hid hcq; clear hq hcq; have hr2 : r < 4294967296 := (by omega))
 refine (ref_trim_any _ _ _ _ _ (by exact sl_new1 w1 164 r hr2) (by omega)).mono ?_
 rintro e w2 ⟨rfl, rfl⟩
 go_wp2_with fail
 go_ret2
 have ht := (sl_new1 w1 164 r hr2).trim
 refine ⟨A1, n1, c1, q, _, _, _, Lm.trim [r], rfl, hS1.alloc _, ht, ⟨?_, ?_, ?_, ?_, HC.out, Lm.trim_canon _⟩, hb1.alloc hb1.size _⟩
 ·rw [Lm.trim_lv, Lm.lv_one, HV.out]; exact HQ.out
 ·rw [Lm.trim_lv, Lm.lv_one, HV.out]; exact hr
 ·rw [HN.out]; exact hlq
 ·rw [HD.out]; exact trim_len [r]
theorem cell_far (w : World) (g : Nat) (u v : Value) (p : Addr) (h : ¬ p.block = g) : ((w.setCell ⟨g, 0, none⟩ u).setCell ⟨g, 1, none⟩ v).cell? p = w.cell? p := by
 rw [World.cell?_setCell_other _ ⟨g, 1, none⟩ p v (by rintro rfl; exact h rfl), World.cell?_setCell_other _ ⟨g, 0, none⟩ p u (by rintro rfl; exact h rfl)]
theorem sgnd_tdiv (s t : Bool) (a b : Nat) : (sgnd s a).tdiv (sgnd t b) = sgnd (s != t) (a / b) := by
 unfold sgnd
 cases s <;> cases t <;> simp [Int.neg_tdiv, Int.tdiv_neg]
theorem sgnd_tmod (s t : Bool) (a b : Nat) : (sgnd s a).tmod (sgnd t b) = sgnd s (a % b) := by
 unfold sgnd
 cases s <;> cases t <;> simp [Int.neg_tmod, Int.tmod_neg] <;> exact (Int.ofNat_tmod a b).symm
def RetTwoInts (W : World) (x y : Int) (e : Ending) (w' : World) : Prop :=
 ∃ neg A n c neg' A' n' c', e = .returned (.tuple #[.agg #[.bool neg, .slice A n c], .agg #[.bool neg', .slice A' n' c']]) ∧ IsInt w' neg A n c x ∧ IsInt w' neg' A' n' c' y ∧ Below W.heap.size W w'
theorem ref_quo_of (neg neg' : Bool) (A A' : Option Addr) (n c n' c' : Nat) (a b : List Nat) (w : World) (ha : Sl w A n c a) (hb : Sl w A' n' c' b) (hn : n ≤ 1000000000) (hn' : n' ≤ 1000000000)
  (hdiv : ∀ W : World, Sl W A n c a → Sl W A' n' c' b → Calls Tryz.prog 343 #[.slice A n c, .slice A' n' c'] W (RetTwo W (IsQuo a b))) :
  Calls Tryz.prog 286 #[.agg #[.bool neg, .slice A n c], .agg #[.bool neg', .slice A' n' c']] w
   (RetTwoInts w (sgnd (neg != neg') (Lm.lv a / Lm.lv b)) (sgnd neg (Lm.lv a % Lm.lv b))) := by
 have HD := Lib.hid hdiv
 clear hdiv
 have HN := Lib.hid ha.len
 have HN' := Lib.hid hb.len
 have ha4 := (((ha.alloc (.cells #[.bool neg, .slice A n c] 24)).alloc (.cells #[.bool neg', .slice A' n' c'] 24)).alloc (.cells #[.bool false, .slice none 0 0] 24)).alloc (.cells #[.bool false, .slice none 0 0] 24)
 have hb4 := (((hb.alloc (.cells #[.bool neg, .slice A n c] 24)).alloc (.cells #[.bool neg', .slice A' n' c'] 24)).alloc (.cells #[.bool false, .slice none 0 0] 24)).alloc (.cells #[.bool false, .slice none 0 0] 24)
 go_enter Tryz.func286, Tryz.ntmps286
 go_wp2_with (go_at_call 343; refine (HD.out _ (by exact ha4) (by exact hb4)).mono ?_; rintro e w1 ⟨A1, n1, c1, q, A2, n2, c2, r, rfl, hS1, hS2, hP, hb1⟩; obtain ⟨hc1, hf1⟩ := bcell hb1; have xa0 := hc1 (w.heap.size + 1 + 1) 0 (by simp <;> omega); have xfa0 := hf1 (w.heap.size + 1 + 1) 0 (by simp <;> omega); have xa1 := hc1 (w.heap.size + 1 + 1) 1 (by simp <;> omega); have xfa1 := hf1 (w.heap.size + 1 + 1) 1 (by simp <;> omega); have xb0 := hc1 (w.heap.size + 1 + 1 + 1) 0 (by simp <;> omega); have xfb0 := hf1 (w.heap.size + 1 + 1 + 1) 0 (by simp <;> omega); have xb1 := hc1 (w.heap.size + 1 + 1 + 1) 1 (by simp <;> omega); have xfb1 := hf1 (w.heap.size + 1 + 1 + 1) 1 (by simp <;> omega); have xn0 := hc1 w.heap.size 0 (by simp <;> omega); have xn1 := hc1 (w.heap.size + 1) 0 (by simp <;> omega); have hzw1 : w.heap.size + 1 + 1 + 1 < w1.heap.size := (by have := hb1.size; simp at this; omega); have hn1 := hS1.len; have hn2 := hS2.len)
 have ne0a : ¬ w.heap.size + 1 + 1 = w.heap.size := by omega
 have ne0b : ¬ w.heap.size = w.heap.size + 1 + 1 := by omega
 have ne1a : ¬ w.heap.size + 1 + 1 + 1 = w.heap.size := by omega
 have ne1b : ¬ w.heap.size = w.heap.size + 1 + 1 + 1 := by omega
 have ne2a : ¬ w.heap.size + 1 + 1 = w.heap.size + 1 := by omega
 have ne2b : ¬ w.heap.size + 1 = w.heap.size + 1 + 1 := by omega
 have ne3a : ¬ w.heap.size + 1 + 1 + 1 = w.heap.size + 1 := by omega
 have ne3b : ¬ w.heap.size + 1 = w.heap.size + 1 + 1 + 1 := by omega
 have ne4a : ¬ w.heap.size + 1 + 1 + 1 = w.heap.size + 1 + 1 := by omega
 have ne4b : ¬ w.heap.size + 1 + 1 = w.heap.size + 1 + 1 + 1 := by omega
 obtain ⟨hP1, hP2, hP3, hP4, hP5, hP6⟩ := hP
 have HP := Lib.hid hP1
 clear hP1
 have hq1 : n1 ≤ 1000000000 := by have := HN.out; omega
 have hq2 : n2 ≤ 1000000000 := by have := HN'.out; omega
 go_region_held3 (fun w' => w'.cell? ⟨w.heap.size, 0, none⟩ = some (.bool neg) ∧ w'.cell? ⟨w.heap.size + 1, 0, none⟩ = some (.bool neg'))
  (go_keep)
  (first | (go_at_call 287; (with_reducible refine (ref_signed_any _ A1 _ _ q _ ?_ ?_).mono ?_); exact hS1.drewN 1; omega; rintro e w2 ⟨neg3, A3, n3, c3, rfl, hI3, hb2⟩; obtain ⟨hc2, hf2⟩ := bcell hb2; have ya0 := hc2 (w.heap.size + 1 + 1) 0 (by simp <;> omega); have yfa0 := hf2 (w.heap.size + 1 + 1) 0 (by simp <;> omega); have ya1 := hc2 (w.heap.size + 1 + 1) 1 (by simp <;> omega); have yfa1 := hf2 (w.heap.size + 1 + 1) 1 (by simp <;> omega); have yb0 := hc2 (w.heap.size + 1 + 1 + 1) 0 (by simp <;> omega); have yfb0 := hf2 (w.heap.size + 1 + 1 + 1) 0 (by simp <;> omega); have yb1 := hc2 (w.heap.size + 1 + 1 + 1) 1 (by simp <;> omega); have yfb1 := hf2 (w.heap.size + 1 + 1 + 1) 1 (by simp <;> omega); have yn0 := hc2 w.heap.size 0 (by simp <;> omega); have yn1 := hc2 (w.heap.size + 1) 0 (by simp <;> omega); have hz2 : w.heap.size + 1 + 1 + 1 < w2.heap.size := (by have := hb2.size; simp at this; omega); have hS2 := (hS2.drewN 1).below hb2) | (go_at_call 287; (with_reducible refine (ref_signed_any _ A2 _ _ _ _ hS2 ?_).mono ?_); omega; rintro e w3 ⟨neg4, A4, n4, c4, rfl, hI4, hb3⟩; obtain ⟨hc3, hf3⟩ := bcell hb3; have za0 := hc3 (w.heap.size + 1 + 1) 0 (by omega); have zfa0 := hf3 (w.heap.size + 1 + 1) 0 (by omega); have za1 := hc3 (w.heap.size + 1 + 1) 1 (by omega); have zfa1 := hf3 (w.heap.size + 1 + 1) 1 (by omega); have zb0 := hc3 (w.heap.size + 1 + 1 + 1) 0 (by omega); have zfb0 := hf3 (w.heap.size + 1 + 1 + 1) 0 (by omega); have zb1 := hc3 (w.heap.size + 1 + 1 + 1) 1 (by omega); have zfb1 := hf3 (w.heap.size + 1 + 1 + 1) 1 (by omega); have zn0 := hc3 w.heap.size 0 (by omega); have zn1 := hc3 (w.heap.size + 1) 0 (by omega); have hz3 : w.heap.size + 1 + 1 + 1 < w3.heap.size := (by have := hb3.size; omega); have hI3 := hI3.below hb3))
 go_wp2
 have hpos : 0 < Lm.lv b := by omega
 have hq : Lm.lv q = Lm.lv a / Lm.lv b := by
  rw [HP.out, Nat.mul_add_div hpos, Nat.div_eq_of_lt hP2, Nat.add_zero]
 have hr : Lm.lv r = Lm.lv a % Lm.lv b := by
  rw [HP.out, Nat.mul_add_mod, Nat.mod_eq_of_lt hP2]
 rw [hq] at hI3
 rw [hr] at hI4
 have ca0 : w3.cell? ⟨w.heap.size + 1 + 1, 0, none⟩ = some (.bool false) := za0.trans (ya0.trans (xa0.trans (by simp [go_sem])))
 have ca1 : w3.cell? ⟨w.heap.size + 1 + 1, 1, none⟩ = some (.slice none 0 0) := za1.trans (ya1.trans (xa1.trans (by simp [go_sem])))
 have cb0 : w3.cell? ⟨w.heap.size + 1 + 1 + 1, 0, none⟩ = some (.bool false) := zb0.trans (yb0.trans (xb0.trans (by simp [go_sem])))
 have cb1 : w3.cell? ⟨w.heap.size + 1 + 1 + 1, 1, none⟩ = some (.slice none 0 0) := zb1.trans (yb1.trans (xb1.trans (by simp [go_sem])))
 have cb0' := (cell_far w3 (w.heap.size + 1 + 1) (.bool neg3) (.slice A3 n3 c3) ⟨w.heap.size + 1 + 1 + 1, 0, none⟩ ne4a).trans cb0
 have cb1' := (cell_far w3 (w.heap.size + 1 + 1) (.bool neg3) (.slice A3 n3 c3) ⟨w.heap.size + 1 + 1 + 1, 1, none⟩ ne4a).trans cb1
 replace hI3 : IsInt w3 neg3 A3 n3 c3 (sgnd (neg != neg') (Lm.lv a / Lm.lv b)) := hI3
 exact bodyPost_ret (v := .tuple #[.agg #[.bool neg3, .slice A3 n3 c3], .agg #[.bool neg4, .slice A4 n4 c4]]) (by simp [results, Tryz.results286, go_sem, ca0, ca1, cb0, cb1]) rfl
  ⟨neg3, A3, n3, c3, neg4, A4, n4, c4, rfl, isInt_result (isInt_result hI3 ca0 ca1 _ _) cb0' cb1' _ _, isInt_result (isInt_result hI4 ca0 ca1 _ _) cb0' cb1' _ _,
   below_result (below_result (below_next (below_next (below_box (below_box (below_box (below_box hb1)))) (below_of_drew hb2)) hb3) (by omega) _ _) (by omega) _ _⟩
theorem ref_Divide_one (neg neg' : Bool) (A A' : Option Addr) (n c c' : Nat) (x y : Int) (w : World) (hx : IsInt w neg A n c x) (hy : IsInt w neg' A' 1 c' y) (hn : n ≤ 1000000000) :
  Calls Tryz.prog 286 #[.agg #[.bool neg, .slice A n c], .agg #[.bool neg', .slice A' 1 c']] w (RetTwoInts w (x.tdiv y) (x.tmod y)) := by
 obtain ⟨a, ha, ca, _, rfl⟩ := hx
 obtain ⟨b, hb, cb, _, rfl⟩ := hy
 rw [sgnd_tdiv, sgnd_tmod]
 exact ref_quo_of _ _ _ _ _ _ _ _ _ _ _ ha hb hn (by omega) (fun W hA hB => ref_divide_one _ _ _ _ _ _ _ _ hA hB cb hn)
end Go.Proofs.YtgekmbfmfiikkaaGreatDoor
/-! The references' whole numbers (polestarref01): the greatest limb that fits. -/
namespace Go.Proofs.YtgekmbfmfiikkaaGreatDoor
open Go.RowKit
theorem cmp_le {a b : List Nat} (h : Lm.lv a ≤ Lm.lv b) : Lm.cmp a b ≤ 0 := by unfold Lm.cmp; split <;> first | omega | (split <;> omega)
theorem cmp_gt' {a b : List Nat} (h : Lm.lv b < Lm.lv a) : 0 < Lm.cmp a b := by rw [Lm.cmp_pos h]; decide
theorem ref_fitting_any (A A' : Option Addr) (n c n' c' : Nat) (r d : List Nat) (w : World) (hr : Sl w A n c r) (hd : Sl w A' n' c' d) (cr : Lm.canon r) (hn : n ≤ 1000000000) (hn' : n' ≤ 100000000)
  (h : Lm.lv r < 4294967296 * Lm.lv d) :
  Calls Tryz.prog 367 #[.slice A n c, .slice A' n' c'] w fun e w' => ∃ q : Nat, e = .returned (.int .u32 (q : Int)) ∧ (q < 4294967296 ∧ q * Lm.lv d ≤ Lm.lv r ∧ Lm.lv r < (q + 1) * Lm.lv d) ∧ Below w.heap.size w w' := by
 have H := Lib.hid h
 clear h
 go_enter Tryz.func367, Tryz.ntmps367
 go_wp2
 go_loopw [5, 6] (fun lo hi wr => ∃ l m : Nat, l ≤ m ∧ m < 4294967296 ∧ lo = .int .u64 (l : Int) ∧ hi = .int .u64 (m : Int) ∧ Hid (l * Lm.lv d ≤ Lm.lv r ∧ Lm.lv r < (m + 1) * Lm.lv d) ∧ Below w.heap.size w wr) (fun lo hi _ => (intOf hi).toNat - (intOf lo).toNat)
 case atStart => exact ⟨0, 4294967295, by omega, by omega, rfl, rfl, Lib.hid ⟨by omega, H.out⟩, Below.refl _ _⟩
 case round =>
  obtain ⟨l, m, hlm, hm, rfl, rfl, hrel, hbw⟩ := hrel
  have hr1 := hr.below hbw
  have hd1 := hd.below hbw
  by_cases hlt : l < m
  ·obtain ⟨k, hk⟩ : ∃ k : Nat, k = (l + m + 1) / 2 := ⟨_, rfl⟩
   have hkv : ((l : Int) + (m : Int) + 1) / 2 = (k : Int) := by omega
   have hk1 : l < k := by omega
   have hk2 : k ≤ m := by omega
   clear hk
   by_cases hle : Lm.lv d * k ≤ Lm.lv r
   ·have HLE := Lib.hid hle
    clear hle
    go_wp2_with (first | (go_at_call 342; refine (ref_times_any _ _ _ k _ _ hd1 (by omega) (by omega)).mono ?_; rintro e1 w1 ⟨A1, n1, c1, l1, rfl, hS1, ⟨hv1, hcn1, hl1⟩, hb1⟩; have HV := Lib.hid hv1; clear hv1; have hr2 := hr1.below hb1; have hn1 := hS1.len) | (go_at_call 347; refine (ref_cmp_any _ _ _ _ _ _ _ _ _ hS1 hr2 hcn1 cr (by omega) hn).mono ?_; rintro e2 w2 ⟨rfl, j, rfl⟩; have hcc : Lm.cmp l1 r ≤ 0 := cmp_le (by rw [HV.out]; exact HLE.out)))
    go_roundw
    case rel => exact ⟨k, m, hk2, hm, rfl, rfl, Lib.hid ⟨by rw [Nat.mul_comm]; exact HLE.out, hrel.out.2⟩, below_drewN (below_next hbw hb1) j⟩
    case measure => simp [intOf]; omega
   ·have HLE := Lib.hid hle
    clear hle
    go_wp2_with (first | (go_at_call 342; refine (ref_times_any _ _ _ k _ _ hd1 (by omega) (by omega)).mono ?_; rintro e1 w1 ⟨A1, n1, c1, l1, rfl, hS1, ⟨hv1, hcn1, hl1⟩, hb1⟩; have HV := Lib.hid hv1; clear hv1; have hr2 := hr1.below hb1; have hn1 := hS1.len) | (go_at_call 347; refine (ref_cmp_any _ _ _ _ _ _ _ _ _ hS1 hr2 hcn1 cr (by omega) hn).mono ?_; rintro e2 w2 ⟨rfl, j, rfl⟩; have hcc : 0 < Lm.cmp l1 r := cmp_gt' (by rw [HV.out]; have := HLE.out; omega)))
    go_roundw
    case rel => exact ⟨l, k - 1, by omega, by omega, rfl, by go_num, Lib.hid ⟨hrel.out.1, by rw [show k - 1 + 1 = k by omega, Nat.mul_comm]; have := HLE.out; omega⟩, below_drewN (below_next hbw hb1) j⟩
    case measure => simp [intOf]; omega
  ·obtain rfl : l = m := by omega
   go_wp2
   go_ret
   exact ⟨l, rfl, ⟨hm, hrel.out.1, hrel.out.2⟩, hbw⟩
end Go.Proofs.YtgekmbfmfiikkaaGreatDoor
/-! The references' whole numbers (polestarref01): limbs by limbs. -/
namespace Go.Proofs.YtgekmbfmfiikkaaGreatDoor
open Go.RowKit
theorem divide_step {a out : List Nat} {k D R q R' : Nat} (ha : k < a.length) (ho : k < out.length) (hE : Lm.lv (a.drop (k + 1)) = D * Lm.lv (out.drop (k + 1)) + R) (hR : a[k] + Lm.B * R = D * q + R') :
  Lm.lv (a.drop k) = D * Lm.lv ((out.set k q).drop k) + R' := by
 have e1 := Lm.lv_drop a ha
 have hl : k < (out.set k q).length := by rw [List.length_set]; exact ho
 have e2 := Lm.lv_drop (out.set k q) hl
 rw [List.getElem_set_self] at e2
 have e3 : (out.set k q).drop (k + 1) = out.drop (k + 1) := List.drop_set_of_lt (by omega)
 rw [e1, e2, e3, hE, Nat.mul_add, Nat.mul_add, Nat.mul_left_comm]
 generalize D * (Lm.B * Lm.lv (out.drop (k + 1))) = X
 omega
theorem divide_stay {a out : List Nat} {k D R : Nat} (ha : k < a.length) (ho : k < out.length) (h0 : out[k] = 0) (hE : Lm.lv (a.drop (k + 1)) = D * Lm.lv (out.drop (k + 1)) + R) :
  Lm.lv (a.drop k) = D * Lm.lv (out.drop k) + (a[k] + Lm.B * R) := by
 have := divide_step (q := 0) (R' := a[k] + Lm.B * R) ha ho hE (by omega)
 rwa [show out.set k 0 = out by rw [← h0]; exact List.set_getElem_self ho] at this
theorem only_of_below {a w : World} (h : Below a.heap.size a w) : a.grownBy w none := ⟨h.os, h.tape, h.output, h.size, fun i hi _ => h.block i hi⟩
theorem own_kept {w w' : World} {base : Nat} {e : TypeId} {g n c : Nat} {xs : List Value} (h : w.ownsRow base e 1 (.slice (some ⟨g, 0, none⟩) n c) n xs) (hb : Below w.heap.size w w') : w'.ownsRow base e 1 (.slice (some ⟨g, 0, none⟩) n c) n xs :=
 h.kept (only_of_below hb) (.inr (by simp [Value.ownBlock]))
theorem own_far {w : World} {base : Nat} {e : TypeId} {A : Option Addr} {n c : Nat} {xs : List Value} (h : w.ownsRow base e 1 (.slice A n c) n xs) : ∀ ad, A = some ad → base ≤ ad.block := by
 rintro ad rfl
 rcases h.2 with ⟨e, _⟩ | ⟨g, cap, cur, e, _, h1, _⟩
 ·cases e
 ·injection e with e1
  injection e1 with e2
  subst e2
  first | exact h1 | exact h1.1 | omega
theorem ref_divide_long (A A' : Option Addr) (n c n' c' : Nat) (a d : List Nat) (w : World) (ha : Sl w A n c a) (hd : Sl w A' n' c' d) (cd : Lm.canon d) (hn : n ≤ 1000000000) (hn' : n' ≤ 1000000) (h2 : 2 ≤ n') :
  Calls Tryz.prog 343 #[.slice A n c, .slice A' n' c'] w (RetTwo w (IsQuo a d)) := by
 obtain ⟨i0, hi, hz0, hz1, hz2⟩ := info_parts info_u32
 have HL := Lib.hid ha.len
 have HD := Lib.hid hd.len
 have h1 : ((n' : Int) == 1) = false := by rw [beq_eq_false_iff_ne]; omega
 have hDp : Hid (0 < Lm.lv d) := Lib.hid (by
  rcases Nat.eq_zero_or_pos (Lm.lv d) with h | h
  ·have e := (Lm.lv_zero cd).1 h
   have e2 := HD.out
   rw [e] at e2
   have : 0 = n' := e2
   omega
  ·exact h)
 go_enter Tryz.func343, Tryz.ntmps343
 go_wp2_with (at_make; refine wpList_make_full _ rfl _ _ 22 rfl w.heap.size 164 i0 (.int .u32 0) 1 Tryz.underlying22 hi hz0 hz1 _ _ _ _ n rfl rfl (by omega) (by omega) ?c2 ?c3 ?c4 ?_)
 case c2 => rw [hz2]; omega
 case c3 => unfold maxLen; omega
 case c4 => exact Nat.le_refl _
 intro w1 hown1 hgrow1
 rw [made_u32] at hown1
 have hb1 : Below w.heap.size w w1 := (Below.refl _ _).grown hgrow1 (Nat.le_refl _) (fun k hk => by cases hk)
 clear hgrow1 h1
 go_wp2
 go_loopw [9, 10] (fun rest i wr => ∃ (k : Nat) (A2 : Option Addr) (n2 c2 : Nat) (rl out : List Nat), k ≤ n ∧ i = .int .i64 ((k : Int) - 1) ∧ rest = .slice A2 n2 c2 ∧ Sl wr A2 n2 c2 rl ∧ n2 ≤ n' ∧
   Hid (Lm.canon rl ∧ Lm.lv rl < Lm.lv d ∧ Lm.lv (a.drop k) = Lm.lv d * Lm.lv (out.drop k) + Lm.lv rl) ∧ Hid (out.length = n ∧ ∀ j (h : j < out.length), j < k → out[j] = 0) ∧
   wr.ownsRow w.heap.size 164 1 (.slice (some ⟨w.heap.size, 0, none⟩) n n) n (u32s out) ∧ Lm.ok out ∧ Below w.heap.size w wr)
  (fun _ i _ => (intOf i + 1).toNat)
 case atStart =>
  refine ⟨n, none, 0, 0, [], List.replicate n 0, Nat.le_refl _, rfl, rfl, Sl.nil, by omega, Lib.hid ⟨Lm.canon_nil, hDp.out, ?_⟩, Lib.hid ⟨List.length_replicate, fun j h _ => by simp⟩, hown1, Lm.ok_zeros _, hb1⟩
  rw [List.drop_of_length_le (by rw [HL.out]; exact Nat.le_refl _), List.drop_of_length_le (by simp)]; simp [Lm.lv]
 case round =>
  obtain ⟨k, A2, n2, c2, rl, out, hk, rfl, rfl, hrl, hn2, HE, hol, hown, hok, hnx⟩ := hrel
  clear hown1 hb1
  have hsz := (hown.lt _ rfl).2
  by_cases h0 : k = 0
  ·subst h0
   have hS : Sl wr (some ⟨w.heap.size, 0, none⟩) n n out := Sl.of_own hown (Nat.le_refl _) hok
   have htl := trim_len out
   go_wp2_with (go_at_call 344; refine (ref_trim_any _ _ _ _ _ hS (by omega)).mono ?_; rintro e w' ⟨rfl, rfl⟩)
   go_ret2
   refine ⟨_, _, _, Lm.trim out, _, _, _, rl, rfl, hS.trim, hrl, ⟨by rw [Lm.trim_lv]; exact HE.out.2.2, HE.out.2.1, by have := hol.out.1; have := HL.out; omega, by rw [hrl.len, HD.out]; exact hn2, Lm.trim_canon _, HE.out.1⟩, hnx⟩
  ·obtain ⟨ad, rfl, hba, hla, hca, hxa⟩ := (ha.below hnx).at_ (k := k - 1) (by omega)
   have hk1 : 1 ≤ k := by omega
   clear h0
   go_wp2_with (at_builtin; refine wpList_append_own _ rfl _ _ 22 rfl (wr.heap.size + 1) 164 i0 (.int .u32 0) 1 4 Tryz.underlying22 hi hz0 hz1 hz2 rfl (by decide) (.slice none 0 0) 0 [] rfl (World.ownsRow_nil _ _ _ _) ⟨wr.heap.size, 0, none⟩ 1 1 [.int .u32 (a[k - 1] : Nat)] rfl ?d0 ?d1 ?d2 ?d3 ?d4 ?d5 ?_)
   case d2 => rfl
   case d3 => unfold maxLen; omega
   intro v3 w3 hown3 hgrow3 _
   have hb3 : Below wr.heap.size wr w3 := ((Below.refl _ _).alloc (Nat.le_refl _) _).grown hgrow3 (by simp) (fun k hk => by cases hk)
   have hrl3 := hrl.below hb3
   have hz3 : wr.heap.size + 1 ≤ w3.heap.size := by have := hgrow3.size; simp at this; omega
   have hown3' : w3.ownsRow (wr.heap.size + 1) 164 1 v3 1 (u32s [a[k - 1]]) := hown3
   clear hgrow3 hown3
   go_wp2_with (at_builtin; refine wpList_append_any _ rfl _ _ 22 rfl (wr.heap.size + 1) 164 i0 (.int .u32 0) 4 Tryz.underlying22 hi hz0 hz1 hz2 rfl v3 1 (u32s [a[k - 1]]) rfl hown3' w3.heap.size A2 n2 c2 (u32s rl) rfl hrl3.1 (u32s_one _) ?e1 ?e2 ?e3 ?_)
   case e1 => unfold maxLen; omega
   case e2 => omega
   case e3 => exact hz3
   intro v4 w4 hown4 hgrow4 _
   rw [← u32s_append] at hown4
   have hb4 : Below wr.heap.size wr w4 := hb3.grown hgrow4 hb3.size (fun k hk => by have := own_ge hown3' k hk; omega)
   obtain ⟨A4, c4, rfl, hc4⟩ := own_form hown4
   have hS4 : Sl w4 A4 (1 + n2) c4 (a[k - 1] :: rl) := Sl.of_own hown4 hc4 (Lm.ok_append (Lm.ok_one hxa) hrl.ok)
   have hfar := own_far hown4
   have hown5 := own_kept hown hb4
   have hd4 := (hd.below hnx).below hb4
   have hS5 := hS4.trim
   have hv5 : Hid (Lm.lv (Lm.trim (a[k - 1] :: rl)) = a[k - 1] + Lm.B * Lm.lv rl) := Lib.hid (by rw [Lm.trim_lv]; rfl)
   have hc5 := Lm.trim_canon (a[k - 1] :: rl)
   have htl := trim_len (a[k - 1] :: rl)
   have htl2 : (Lm.trim (a[k - 1] :: rl)).length ≤ 1 + n2 := by rw [List.length_cons, hrl.len] at htl; omega
   have hbw4 := below_next hnx hb4
   have hko : k - 1 < out.length := by rw [hol.out.1]; omega
   have hz4 : w.heap.size < w4.heap.size := by have := hb4.size; omega
   clear hown4 hgrow4 hown3' hrl3 hb3 htl hz3
   go_wp2_with (go_at_call 344; refine (ref_trim_any _ _ _ _ _ hS4 (by omega)).mono ?_; rintro e w' ⟨rfl, rfl⟩)
   generalize Lm.trim (a[k - 1] :: rl) = tl at *
   have hek : Hid (Lm.lv (a.drop (k - 1 + 1)) = Lm.lv d * Lm.lv (out.drop (k - 1 + 1)) + Lm.lv rl) := Lib.hid (by rw [show k - 1 + 1 = k by omega]; exact HE.out.2.2)
   have hrd : Hid (Lm.lv rl < Lm.lv d) := Lib.hid HE.out.2.1
   by_cases hlt : Lm.lv tl < Lm.lv d
   ·have hcc : Lm.cmp tl d < 0 := by rw [Lm.cmp_neg hlt]; decide
    have HLT := Lib.hid hlt
    clear hlt
    refine (ref_cmp_any _ _ _ _ _ _ _ _ _ hS5 hd4 hc5 cd (by omega) (by omega)).mono ?_
    rintro e5 w5 ⟨rfl, j, rfl⟩
    go_wp2_with fail
    go_roundw
    case rel =>
     refine ⟨k - 1, A4, tl.length, c4, tl, out, by omega, by go_num, rfl, hS5.drewN j, ?_, Lib.hid ⟨hc5, HLT.out, ?_⟩, Lib.hid ⟨hol.out.1, fun j' h' hj => hol.out.2 j' h' (by omega)⟩, hown5, hok, below_drewN hbw4 j⟩
     ·rcases Nat.lt_or_ge n' tl.length with h | h
      ·have := Lm.len_of_lv hd.ok hS5.ok hc5 (by rw [HD.out]; exact h)
       have := HLT.out
       omega
      ·exact h
     ·rw [hv5.out]
      exact divide_stay hla hko (hol.out.2 _ hko (by omega)) hek.out
    case measure => simp [intOf]; omega
   ·have hcc : 0 ≤ Lm.cmp tl d := by unfold Lm.cmp; rw [if_neg hlt]; split <;> omega
    have hfit : Lm.lv tl < 4294967296 * Lm.lv d := by
     have h1 := hv5.out
     have h2 := Nat.mul_le_mul_left Lm.B (Nat.succ_le_of_lt hrd.out)
     rw [Nat.mul_succ] at h2
     have h3 : Lm.B = 4294967296 := rfl
     rw [h3] at h1 h2
     omega
    have HLT := Lib.hid hlt
    have HFIT := Lib.hid hfit
    clear hlt hfit
    refine (ref_cmp_any _ _ _ _ _ _ _ _ _ hS5 hd4 hc5 cd (by omega) (by omega)).mono ?_
    rintro e5 w5 ⟨rfl, j, rfl⟩
    go_wp2_with fail
    refine (ref_fitting_any _ _ _ _ _ _ _ _ _ (hS5.drewN j) (hd4.drewN j) hc5 (by omega) (by omega) HFIT.out).mono ?_
    rintro e6 w6 ⟨q, rfl, ⟨hq1, hq2, hq3⟩, hb6⟩
    have HQ2 := Lib.hid hq2
    have HQ3 := Lib.hid hq3
    have hown6 := own_kept (w := w4.drewN j) hown5 hb6
    have hS6 := (hS5.drewN j).below hb6
    have hd6 := (hd4.drewN j).below hb6
    have hbw6 := below_next hbw4 (below_of_drewN hb6)
    have hco := own_at hown6 hko
    have hf := hown6.frozenAt (k - 1)
    have hS7 := hS6.store_far (p := ⟨w.heap.size, k - 1, none⟩) (.int .u32 (q : Int)) (fun ad' h' => by have := hfar ad' h'; show ad'.block ≠ w.heap.size; omega)
    have hz6 : w.heap.size < w6.heap.size := by have := hb6.size; simp at this; omega
    have hd7 : Sl (w6.setCell ⟨w.heap.size, k - 1, none⟩ (.int .u32 (q : Int))) A' n' c' d := (hd.below (hbw6.setCell (p := ⟨w.heap.size, k - 1, none⟩) (Nat.le_refl _) _))
    clear hq2 hq3 hown5 hS5 hd4 hb4 hbw4 hS4 hfar hco
    have hco := own_at hown6 hko
    go_wp2_with (go_at_call 342; refine (ref_times_any _ _ _ q _ _ hd7 (by omega) hq1).mono ?_; rintro e8 w8 ⟨A8, n8, c8, l8, rfl, hS8, ⟨hv8, hc8, hl8⟩, hb8⟩)
    have HV8 := Lib.hid hv8
    clear hv8
    have hS9 := hS7.below hb8
    have hle8 : Hid (Lm.lv l8 ≤ Lm.lv tl) := Lib.hid (by rw [HV8.out, Nat.mul_comm]; exact HQ2.out)
    have hn8 : n8 ≤ tl.length := by
     rcases Nat.lt_or_ge tl.length n8 with h | h
     ·have := Lm.len_of_lv hS7.ok hS8.ok hc8 (by rw [hS8.len]; exact h)
      have := hle8.out
      omega
     ·exact h
    refine (ref_sub_any _ _ _ _ _ _ _ _ _ hS9 hS8 (by omega) hn8 hle8.out).mono ?_
    rintro e9 w9 ⟨A9, n9, c9, l9, rfl, hS10, ⟨hv9, hc9, hl9⟩, hb9⟩
    have HV9 := Lib.hid hv9
    clear hv9
    have hl9d : Hid (Lm.lv l9 < Lm.lv d) := Lib.hid (by
     have h1 := HV9.out
     have h2 := HV8.out
     have h3 := HQ3.out
     have h4 := hle8.out
     rw [h2] at h1 h4
     rw [Nat.add_mul, Nat.one_mul, Nat.mul_comm] at h3
     omega)
    have hn9 : n9 ≤ n' := by
     rcases Nat.lt_or_ge n' n9 with h | h
     ·have := Lm.len_of_lv hd.ok hS10.ok hc9 (by rw [HD.out, hS10.len]; exact h)
      have := hl9d.out
      omega
     ·exact h
    go_wp2_with fail
    go_roundw
    case rel =>
     refine ⟨k - 1, A9, n9, c9, l9, out.set (k - 1) q, by omega, by go_num, rfl, hS10, hn9, Lib.hid ⟨hc9, hl9d.out, ?_⟩, Lib.hid ⟨by rw [List.length_set]; exact hol.out.1, fun j' h' hj => ?_⟩, ?_, Lm.ok_set hok hq1, ?_⟩
     ·refine divide_step hla hko hek.out ?_
      have h1 := HV9.out
      have h2 := HV8.out
      have h3 := hv5.out
      have h4 := hle8.out
      generalize Lm.B * Lm.lv rl = X at h3 ⊢
      generalize Lm.lv d * q = Y at h2 ⊢
      omega
     ·rw [List.getElem_set_ne (by omega)]
      exact hol.out.2 j' (by rw [List.length_set] at h'; exact h') (by omega)
     ·exact own_kept (own_kept (own_store hown6 q rfl) hb8) hb9
     ·exact below_next (below_next (hbw6.setCell (p := ⟨w.heap.size, k - 1, none⟩) (Nat.le_refl _) _) hb8) hb9
    case measure => simp [intOf]; omega
end Go.Proofs.YtgekmbfmfiikkaaGreatDoor
