/-
  The references' whole numbers (polestarref01): differences, products.
-/
import Derived.Test.YthddodhcpfponaaRefH
namespace Go.Proofs.Ythddodhcpfponaa
open Go.RowKit

/-- Numbers of one size have one length. -/
theorem isInt_len {w w' : World} {neg neg' : Bool} {A A' : Option Addr} {n c n' c' : Nat} {x y : Int} (h : IsInt w neg A n c x) (k : IsInt w' neg' A' n' c' y) (e : x.natAbs = y.natAbs) : n = n' := by
  obtain ⟨a, ha, ca, _, rfl⟩ := h
  obtain ⟨b, hb, cb, _, rfl⟩ := k
  have : Lm.lv a = Lm.lv b := by
    have h1 : ∀ (s : Bool) (m : Nat), (sgnd s m).natAbs = m := by intro s m; unfold sgnd; split <;> omega
    rw [h1, h1] at e; exact e
  have := Lm.lv_inj ha.ok ca hb.ok cb this
  subst this
  rw [← ha.len, ← hb.len]
theorem isInt_len_neg {w w' : World} {neg neg' : Bool} {A A' : Option Addr} {n c n' c' : Nat} {x y : Int} (h : IsInt w neg A n c x) (k : IsInt w' neg' A' n' c' y) (e : x = -y) : n = n' := isInt_len h k (by omega)
theorem IsInt.drewN {w : World} {neg : Bool} {A : Option Addr} {n c : Nat} {z : Int} (h : IsInt w neg A n c z) (k : Nat) : IsInt (w.drewN k) neg A n c z := h

set_option maxRecDepth 100000 in
set_option maxHeartbeats 400000 in
theorem ref_minus_any (neg neg' : Bool) (A A' : Option Addr) (n c n' c' : Nat) (x y : Int) (w : World) (hx : IsInt w neg A n c x) (hy : IsInt w neg' A' n' c' y) (hn : n ≤ 1000000000) (hn' : n' ≤ 1000000000) :
    Calls Try.prog 40 #[.agg #[.bool neg, .slice A n c], .agg #[.bool neg', .slice A' n' c']] w (RetInt w (x - y)) := by
  have hx3 := (((hx.alloc (.cells #[.bool neg, .slice A n c] 32)).alloc (.cells #[.bool neg', .slice A' n' c'] 32)).alloc (.cells #[.bool false, .slice none 0 0] 32))
  have hy3 := (((hy.alloc (.cells #[.bool neg, .slice A n c] 32)).alloc (.cells #[.bool neg', .slice A' n' c'] 32)).alloc (.cells #[.bool false, .slice none 0 0] 32))
  go_enter Try.func40, Try.ntmps40
  go_wp2
  have e0a : ¬ w.heap.size + 1 + 1 = w.heap.size := by omega
  have e0b : ¬ w.heap.size = w.heap.size + 1 + 1 := by omega
  have e1a : ¬ w.heap.size + 1 + 1 = w.heap.size + 1 := by omega
  have e1b : ¬ w.heap.size + 1 = w.heap.size + 1 + 1 := by omega
  go_region_held3 (fun w' => w'.cell? ⟨w.heap.size, 0, none⟩ = some (.bool neg) ∧ w'.cell? ⟨w.heap.size, 1, none⟩ = some (.slice A n c) ∧ w'.cell? ⟨w.heap.size + 1, 0, none⟩ = some (.bool neg') ∧ w'.cell? ⟨w.heap.size + 1, 1, none⟩ = some (.slice A' n' c'))
    (go_keep)
    (first | (go_at_call 57; refine (ref_turned_any _ _ _ _ _ _ (by exact hy3.drewN 1) (by omega)).mono ?_; rintro e w1 ⟨neg1, A1, n1, c1, rfl, hI1, hb1⟩; obtain ⟨hc1, hf1⟩ := bcell hb1; have hx4 := (hx3.drewN 1).below hb1; have hn1 : n1 ≤ 1000000000 := (by have := isInt_len_neg hI1 hy3 rfl; omega); have k1 := hc1 (w.heap.size) 0 (by simp <;> omega); have k2 := hc1 (w.heap.size) 1 (by simp <;> omega); have k3 := hc1 (w.heap.size + 1) 0 (by simp <;> omega); have k4 := hc1 (w.heap.size + 1) 1 (by simp <;> omega); have r1 := hc1 (w.heap.size + 1 + 1) 0 (by simp <;> omega); have r2 := hc1 (w.heap.size + 1 + 1) 1 (by simp <;> omega); have r3 := hf1 (w.heap.size + 1 + 1) 0 (by simp <;> omega); have r4 := hf1 (w.heap.size + 1 + 1) 1 (by simp <;> omega); have hz1 : w.heap.size + 1 + 1 < w1.heap.size := (by have := hb1.size; simp at this; omega)) | (go_at_call 41; refine (ref_plus_any _ _ _ _ _ _ _ _ _ _ _ hx4 hI1 hn hn1).mono ?_; rintro e w2 ⟨neg2, A2, n2, c2, rfl, hI2, hb2⟩; obtain ⟨hc2, hf2⟩ := bcell hb2; have j1 := hc2 (w.heap.size) 0 (by omega); have j2 := hc2 (w.heap.size) 1 (by omega); have j3 := hc2 (w.heap.size + 1) 0 (by omega); have j4 := hc2 (w.heap.size + 1) 1 (by omega); have r5 := hc2 (w.heap.size + 1 + 1) 0 (by omega); have r6 := hc2 (w.heap.size + 1 + 1) 1 (by omega); have r7 := hf2 (w.heap.size + 1 + 1) 0 (by omega); have r8 := hf2 (w.heap.size + 1 + 1) 1 (by omega)))
  go_wp2
  rw [show x + -y = x - y by omega] at hI2
  exact bodyPost_ret (v := .agg #[.bool neg2, .slice A2 n2 c2]) (by simp [results, Try.results40, go_sem, r1, r2, r5, r6]) rfl
    ⟨neg2, A2, n2, c2, rfl, isInt_result (b0 := false) (a0 := none) (n0 := 0) (c0 := 0) hI2 (r5.trans (r1.trans (by simp [go_sem]))) (r6.trans (r2.trans (by simp [go_sem]))) _ _, below_result (below_next (below_box (below_box (below_box (below_of_drew hb1)))) hb2) (by omega) _ _⟩

set_option maxRecDepth 100000 in
set_option maxHeartbeats 400000 in
theorem ref_times_limbs (neg neg' : Bool) (A A' : Option Addr) (n c n' c' : Nat) (a b : List Nat) (w : World) (ha : Sl w A n c a) (hb : Sl w A' n' c' b) (hn : n ≤ 1000000000) (hn' : n' ≤ 1000000000) :
    Calls Try.prog 54 #[.agg #[.bool neg, .slice A n c], .agg #[.bool neg', .slice A' n' c']] w (RetInt w (sgnd (neg != neg') (Lm.lv a * Lm.lv b))) := by
  have ha3 := (((ha.alloc (.cells #[.bool neg, .slice A n c] 32)).alloc (.cells #[.bool neg', .slice A' n' c'] 32)).alloc (.cells #[.bool false, .slice none 0 0] 32))
  have hb3 := (((hb.alloc (.cells #[.bool neg, .slice A n c] 32)).alloc (.cells #[.bool neg', .slice A' n' c'] 32)).alloc (.cells #[.bool false, .slice none 0 0] 32))
  go_enter Try.func54, Try.ntmps54
  go_wp2
  have e0a : ¬ w.heap.size + 1 + 1 = w.heap.size := by omega
  have e0b : ¬ w.heap.size = w.heap.size + 1 + 1 := by omega
  have e1a : ¬ w.heap.size + 1 + 1 = w.heap.size + 1 := by omega
  have e1b : ¬ w.heap.size + 1 = w.heap.size + 1 + 1 := by omega
  go_region_held3 (fun w' => w'.cell? ⟨w.heap.size, 0, none⟩ = some (.bool neg) ∧ w'.cell? ⟨w.heap.size, 1, none⟩ = some (.slice A n c) ∧ w'.cell? ⟨w.heap.size + 1, 0, none⟩ = some (.bool neg') ∧ w'.cell? ⟨w.heap.size + 1, 1, none⟩ = some (.slice A' n' c'))
    (go_keep)
    (first | (go_at_call 84; refine (ref_mul_any _ _ _ _ _ _ _ _ _ (by exact ha3.drewN 1) (by exact hb3.drewN 1) hn hn').mono ?_; rintro e w1 ⟨A1, n1, c1, l1, rfl, hS1, ⟨hv1, hcn1, hl1⟩, hb1⟩; obtain ⟨hc1, hf1⟩ := bcell hb1; have k1 := hc1 (w.heap.size) 0 (by simp <;> omega); have k2 := hc1 (w.heap.size) 1 (by simp <;> omega); have k3 := hc1 (w.heap.size + 1) 0 (by simp <;> omega); have k4 := hc1 (w.heap.size + 1) 1 (by simp <;> omega); have r1 := hc1 (w.heap.size + 1 + 1) 0 (by simp <;> omega); have r2 := hc1 (w.heap.size + 1 + 1) 1 (by simp <;> omega); have r3 := hf1 (w.heap.size + 1 + 1) 0 (by simp <;> omega); have r4 := hf1 (w.heap.size + 1 + 1) 1 (by simp <;> omega); have hn1 := hS1.len; have hz1 : w.heap.size + 1 + 1 < w1.heap.size := (by have := hb1.size; simp at this; omega)) | (go_at_call 77; refine (ref_signed_any _ _ _ _ _ _ hS1 (by omega)).mono ?_; rintro e w2 ⟨neg2, A2, n2, c2, rfl, hI2, hb2⟩; obtain ⟨hc2, hf2⟩ := bcell hb2; have j1 := hc2 (w.heap.size) 0 (by omega); have j2 := hc2 (w.heap.size) 1 (by omega); have j3 := hc2 (w.heap.size + 1) 0 (by omega); have j4 := hc2 (w.heap.size + 1) 1 (by omega); have r5 := hc2 (w.heap.size + 1 + 1) 0 (by omega); have r6 := hc2 (w.heap.size + 1 + 1) 1 (by omega); have r7 := hf2 (w.heap.size + 1 + 1) 0 (by omega); have r8 := hf2 (w.heap.size + 1 + 1) 1 (by omega)))
  go_wp2
  rw [hv1] at hI2
  replace hI2 : IsInt w2 neg2 A2 n2 c2 (sgnd (neg != neg') (Lm.lv a * Lm.lv b)) := hI2
  exact bodyPost_ret (v := .agg #[.bool neg2, .slice A2 n2 c2]) (by simp [results, Try.results54, go_sem, r1, r2, r5, r6]) rfl
    ⟨neg2, A2, n2, c2, rfl, isInt_result (b0 := false) (a0 := none) (n0 := 0) (c0 := 0) hI2 (r5.trans (r1.trans (by simp [go_sem]))) (r6.trans (r2.trans (by simp [go_sem]))) _ _, below_result (below_next (below_box (below_box (below_box (below_of_drew hb1)))) hb2) (by omega) _ _⟩

theorem ref_times_int (neg neg' : Bool) (A A' : Option Addr) (n c n' c' : Nat) (x y : Int) (w : World) (hx : IsInt w neg A n c x) (hy : IsInt w neg' A' n' c' y) (hn : n ≤ 1000000000) (hn' : n' ≤ 1000000000) :
    Calls Try.prog 54 #[.agg #[.bool neg, .slice A n c], .agg #[.bool neg', .slice A' n' c']] w (RetInt w (x * y)) := by
  obtain ⟨a, ha, ca, _, rfl⟩ := hx
  obtain ⟨b, hb, cb, _, rfl⟩ := hy
  rw [← sgnd_mul]
  exact ref_times_limbs _ _ _ _ _ _ _ _ _ _ _ ha hb hn hn'
end Go.Proofs.Ythddodhcpfponaa
