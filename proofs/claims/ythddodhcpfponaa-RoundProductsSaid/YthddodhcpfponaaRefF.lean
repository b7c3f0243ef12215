/-
  The references' whole numbers (polestarref01): sums, differences, products.
-/
import Derived.Test.YthddodhcpfponaaRefE
import Derived.Deep.RegionHeld3
import Derived.StillTailTactics
namespace Go.Proofs.Ythddodhcpfponaa
open Go.RowKit

theorem sgnd_add (s : Bool) (a b : Nat) : sgnd s (a + b) = sgnd s a + sgnd s b := by unfold sgnd; split <;> omega
theorem sgnd_sub (s : Bool) (a b : Nat) (h : b ≤ a) : sgnd s (a - b) = sgnd s a + sgnd (!s) b := by unfold sgnd; cases s <;> simp <;> omega
theorem sgnd_not (s : Bool) (a : Nat) : sgnd (!s) a = - sgnd s a := by unfold sgnd; cases s <;> simp
theorem sgnd_mul (s t : Bool) (a b : Nat) : sgnd (s != t) (a * b) = sgnd s a * sgnd t b := by
  unfold sgnd; cases s <;> cases t <;> simp [Int.neg_mul, Int.mul_neg]
theorem IsInt.alloc {w : World} {neg : Bool} {A : Option Addr} {n c : Nat} {z : Int} (h : IsInt w neg A n c z) (o : Obj) : IsInt (w.alloc o) neg A n c z := h.below ((Below.refl _ _).alloc (Nat.le_refl _) _)

set_option maxRecDepth 100000 in
set_option maxHeartbeats 1600000 in
theorem ref_plus_same (neg : Bool) (A A' : Option Addr) (n c n' c' : Nat) (a b : List Nat) (w : World) (ha : Sl w A n c a) (hb : Sl w A' n' c' b) (hn : n ≤ 1000000000) (hn' : n' ≤ 1000000000) :
    Calls Try.prog 41 #[.agg #[.bool neg, .slice A n c], .agg #[.bool neg, .slice A' n' c']] w (RetInt w (sgnd neg (Lm.lv a + Lm.lv b))) := by
  go_enter Try.func41, Try.ntmps41
  go_wp2
  have ha3 := (((ha.alloc (.cells #[.bool neg, .slice A n c] 32)).alloc (.cells #[.bool neg, .slice A' n' c'] 32)).alloc (.cells #[.bool false, .slice none 0 0] 32))
  have hb3 := (((hb.alloc (.cells #[.bool neg, .slice A n c] 32)).alloc (.cells #[.bool neg, .slice A' n' c'] 32)).alloc (.cells #[.bool false, .slice none 0 0] 32))
  have e0a : ¬ w.heap.size + 1 + 1 = w.heap.size := by omega
  have e0b : ¬ w.heap.size = w.heap.size + 1 + 1 := by omega
  have e1a : ¬ w.heap.size + 1 + 1 = w.heap.size + 1 := by omega
  have e1b : ¬ w.heap.size + 1 = w.heap.size + 1 + 1 := by omega
  go_region_held3 (fun w' => w'.cell? ⟨w.heap.size, 0, none⟩ = some (.bool neg) ∧ w'.cell? ⟨w.heap.size, 1, none⟩ = some (.slice A n c) ∧ w'.cell? ⟨w.heap.size + 1, 1, none⟩ = some (.slice A' n' c'))
    (go_keep)
    (first | (go_at_call 78; refine (ref_add_any _ _ _ _ _ _ _ _ _ (by exact ha3.drewN 1) (by exact hb3.drewN 1) hn hn').mono ?_; rintro e w1 ⟨A1, n1, c1, l1, rfl, hS1, ⟨hv1, hl1⟩, hb1⟩; obtain ⟨hc1, hf1⟩ := bcell hb1; have k1 := hc1 (w.heap.size) 0 (by simp <;> omega); have k2 := hc1 (w.heap.size) 1 (by simp <;> omega); have k3 := hc1 (w.heap.size + 1) 1 (by simp <;> omega); have r1 := hc1 (w.heap.size + 1 + 1) 0 (by simp <;> omega); have r2 := hc1 (w.heap.size + 1 + 1) 1 (by simp <;> omega); have r3 := hf1 (w.heap.size + 1 + 1) 0 (by simp <;> omega); have r4 := hf1 (w.heap.size + 1 + 1) 1 (by simp <;> omega); have hn1 := hS1.len; have hz1 : w.heap.size + 1 + 1 < w1.heap.size := (by have := hb1.size; simp at this; omega)) | (go_at_call 77; refine (ref_signed_any _ _ _ _ _ _ hS1 (by omega)).mono ?_; rintro e w2 ⟨neg2, A2, n2, c2, rfl, hI2, hb2⟩; obtain ⟨hc2, hf2⟩ := bcell hb2; have j1 := hc2 (w.heap.size) 0 (by omega); have j2 := hc2 (w.heap.size) 1 (by omega); have j3 := hc2 (w.heap.size + 1) 1 (by omega); have r5 := hc2 (w.heap.size + 1 + 1) 0 (by omega); have r6 := hc2 (w.heap.size + 1 + 1) 1 (by omega); have r7 := hf2 (w.heap.size + 1 + 1) 0 (by omega); have r8 := hf2 (w.heap.size + 1 + 1) 1 (by omega)))
  go_wp2
  have HV : sgnd neg (Lm.lv l1) = sgnd neg (Lm.lv a + Lm.lv b) := by rw [hv1]
  rw [HV] at hI2
  exact bodyPost_ret (v := .agg #[.bool neg2, .slice A2 n2 c2]) (by simp [results, Try.results41, go_sem, r1, r2, r5, r6]) rfl
    ⟨neg2, A2, n2, c2, rfl, isInt_result (b0 := false) (a0 := none) (n0 := 0) (c0 := 0) hI2 (r5.trans (r1.trans (by simp [go_sem]))) (r6.trans (r2.trans (by simp [go_sem]))) _ _, below_result (below_next (below_box (below_box (below_box (below_of_drew hb1)))) hb2) (by omega) _ _⟩

set_option maxRecDepth 100000 in
set_option maxHeartbeats 1600000 in
theorem ref_plus_ge (neg : Bool) (A A' : Option Addr) (n c n' c' : Nat) (a b : List Nat) (w : World) (ha : Sl w A n c a) (hb : Sl w A' n' c' b) (ca : Lm.canon a) (cb : Lm.canon b) (hle : Lm.lv b ≤ Lm.lv a) (hn : n ≤ 1000000000) (hn' : n' ≤ 1000000000) :
    Calls Try.prog 41 #[.agg #[.bool neg, .slice A n c], .agg #[.bool (!neg), .slice A' n' c']] w (RetInt w (sgnd neg (Lm.lv a - Lm.lv b))) := by
  have la := ha.len
  have lb := hb.len
  have hlen : n' ≤ n := by
    rcases Nat.lt_or_ge n n' with h | h
    · have := Lm.len_of_lv ha.ok hb.ok cb (by omega); omega
    · exact h
  have hcmp : ¬ (Lm.cmp a b < 0) := by unfold Lm.cmp; rw [if_neg (by omega)]; split <;> omega
  have HLE : Hid (Lm.lv b ≤ Lm.lv a) := hle
  clear hle la lb
  have hne : (neg == !neg) = false := by cases neg <;> rfl
  have ha3 := (((ha.alloc (.cells #[.bool neg, .slice A n c] 32)).alloc (.cells #[.bool (!neg), .slice A' n' c'] 32)).alloc (.cells #[.bool false, .slice none 0 0] 32))
  have hb3 := (((hb.alloc (.cells #[.bool neg, .slice A n c] 32)).alloc (.cells #[.bool (!neg), .slice A' n' c'] 32)).alloc (.cells #[.bool false, .slice none 0 0] 32))
  go_enter Try.func41, Try.ntmps41
  go_wp2_with (go_at_call 79; refine (ref_cmp_any _ _ _ _ _ _ _ _ _ (by exact ha3) (by exact hb3) ca cb hn hn').mono ?_; rintro e w' ⟨rfl, j, rfl⟩)
  have e0a : ¬ w.heap.size + 1 + 1 = w.heap.size := by omega
  have e0b : ¬ w.heap.size = w.heap.size + 1 + 1 := by omega
  have e1a : ¬ w.heap.size + 1 + 1 = w.heap.size + 1 := by omega
  have e1b : ¬ w.heap.size + 1 = w.heap.size + 1 + 1 := by omega
  go_region_held3 (fun w' => w'.cell? ⟨w.heap.size, 0, none⟩ = some (.bool neg) ∧ w'.cell? ⟨w.heap.size, 1, none⟩ = some (.slice A n c) ∧ w'.cell? ⟨w.heap.size + 1, 1, none⟩ = some (.slice A' n' c'))
    (go_keep)
    (first | (go_at_call 80; refine (ref_sub_any _ _ _ _ _ _ _ _ _ (by exact ha3) (by exact hb3) hn hlen HLE.out).mono ?_; rintro e w1 ⟨A1, n1, c1, l1, rfl, hS1, ⟨hv1, hcn1, hl1⟩, hb1⟩; obtain ⟨hc1, hf1⟩ := bcell hb1; have k1 := hc1 (w.heap.size) 0 (by simp <;> omega); have k2 := hc1 (w.heap.size) 1 (by simp <;> omega); have k3 := hc1 (w.heap.size + 1) 1 (by simp <;> omega); have r1 := hc1 (w.heap.size + 1 + 1) 0 (by simp <;> omega); have r2 := hc1 (w.heap.size + 1 + 1) 1 (by simp <;> omega); have r3 := hf1 (w.heap.size + 1 + 1) 0 (by simp <;> omega); have r4 := hf1 (w.heap.size + 1 + 1) 1 (by simp <;> omega); have hn1 := hS1.len; have hz1 : w.heap.size + 1 + 1 < w1.heap.size := (by have := hb1.size; simp at this; omega)) | (go_at_call 77; refine (ref_signed_any _ _ _ _ _ _ hS1 (by omega)).mono ?_; rintro e w2 ⟨neg2, A2, n2, c2, rfl, hI2, hb2⟩; obtain ⟨hc2, hf2⟩ := bcell hb2; have j1 := hc2 (w.heap.size) 0 (by omega); have j2 := hc2 (w.heap.size) 1 (by omega); have j3 := hc2 (w.heap.size + 1) 1 (by omega); have r5 := hc2 (w.heap.size + 1 + 1) 0 (by omega); have r6 := hc2 (w.heap.size + 1 + 1) 1 (by omega); have r7 := hf2 (w.heap.size + 1 + 1) 0 (by omega); have r8 := hf2 (w.heap.size + 1 + 1) 1 (by omega)))
  go_wp2
  have HV : sgnd neg (Lm.lv l1) = sgnd neg (Lm.lv a - Lm.lv b) := by rw [hv1]
  rw [HV] at hI2
  exact bodyPost_ret (v := .agg #[.bool neg2, .slice A2 n2 c2]) (by simp [results, Try.results41, go_sem, r1, r2, r5, r6]) rfl
    ⟨neg2, A2, n2, c2, rfl, isInt_result (b0 := false) (a0 := none) (n0 := 0) (c0 := 0) hI2 (r5.trans (r1.trans (by simp [go_sem]))) (r6.trans (r2.trans (by simp [go_sem]))) _ _, below_result (below_next (below_box (below_box (below_box (below_of_drewN hb1)))) hb2) (by omega) _ _⟩

set_option maxRecDepth 100000 in
set_option maxHeartbeats 1600000 in
theorem ref_plus_lt (neg : Bool) (A A' : Option Addr) (n c n' c' : Nat) (a b : List Nat) (w : World) (ha : Sl w A n c a) (hb : Sl w A' n' c' b) (ca : Lm.canon a) (cb : Lm.canon b) (hle : Lm.lv a < Lm.lv b) (hn : n ≤ 1000000000) (hn' : n' ≤ 1000000000) :
    Calls Try.prog 41 #[.agg #[.bool neg, .slice A n c], .agg #[.bool (!neg), .slice A' n' c']] w (RetInt w (sgnd (!neg) (Lm.lv b - Lm.lv a))) := by
  have la := ha.len
  have lb := hb.len
  have hlen : n ≤ n' := by
    rcases Nat.lt_or_ge n' n with h | h
    · have := Lm.len_of_lv hb.ok ha.ok ca (by omega); omega
    · exact h
  have hcmp : Lm.cmp a b < 0 := by rw [Lm.cmp_neg hle]; decide
  have HLE : Hid (Lm.lv a < Lm.lv b) := hle
  clear hle la lb
  have hne : (neg == !neg) = false := by cases neg <;> rfl
  have ha3 := (((ha.alloc (.cells #[.bool neg, .slice A n c] 32)).alloc (.cells #[.bool (!neg), .slice A' n' c'] 32)).alloc (.cells #[.bool false, .slice none 0 0] 32))
  have hb3 := (((hb.alloc (.cells #[.bool neg, .slice A n c] 32)).alloc (.cells #[.bool (!neg), .slice A' n' c'] 32)).alloc (.cells #[.bool false, .slice none 0 0] 32))
  go_enter Try.func41, Try.ntmps41
  go_wp2_with (go_at_call 79; refine (ref_cmp_any _ _ _ _ _ _ _ _ _ (by exact ha3) (by exact hb3) ca cb hn hn').mono ?_; rintro e w' ⟨rfl, j, rfl⟩)
  have e0a : ¬ w.heap.size + 1 + 1 = w.heap.size := by omega
  have e0b : ¬ w.heap.size = w.heap.size + 1 + 1 := by omega
  have e1a : ¬ w.heap.size + 1 + 1 = w.heap.size + 1 := by omega
  have e1b : ¬ w.heap.size + 1 = w.heap.size + 1 + 1 := by omega
  go_region_held3 (fun w' => w'.cell? ⟨w.heap.size + 1, 0, none⟩ = some (.bool (!neg)) ∧ w'.cell? ⟨w.heap.size + 1, 1, none⟩ = some (.slice A' n' c') ∧ w'.cell? ⟨w.heap.size, 1, none⟩ = some (.slice A n c))
    (go_keep)
    (first | (go_at_call 80; refine (ref_sub_any _ _ _ _ _ _ _ _ _ (by exact hb3) (by exact ha3) hn' hlen (Nat.le_of_lt HLE.out)).mono ?_; rintro e w1 ⟨A1, n1, c1, l1, rfl, hS1, ⟨hv1, hcn1, hl1⟩, hb1⟩; obtain ⟨hc1, hf1⟩ := bcell hb1; have k1 := hc1 (w.heap.size + 1) 0 (by simp <;> omega); have k2 := hc1 (w.heap.size + 1) 1 (by simp <;> omega); have k3 := hc1 (w.heap.size) 1 (by simp <;> omega); have r1 := hc1 (w.heap.size + 1 + 1) 0 (by simp <;> omega); have r2 := hc1 (w.heap.size + 1 + 1) 1 (by simp <;> omega); have r3 := hf1 (w.heap.size + 1 + 1) 0 (by simp <;> omega); have r4 := hf1 (w.heap.size + 1 + 1) 1 (by simp <;> omega); have hn1 := hS1.len; have hz1 : w.heap.size + 1 + 1 < w1.heap.size := (by have := hb1.size; simp at this; omega)) | (go_at_call 77; refine (ref_signed_any _ _ _ _ _ _ hS1 (by omega)).mono ?_; rintro e w2 ⟨neg2, A2, n2, c2, rfl, hI2, hb2⟩; obtain ⟨hc2, hf2⟩ := bcell hb2; have j1 := hc2 (w.heap.size + 1) 0 (by omega); have j2 := hc2 (w.heap.size + 1) 1 (by omega); have j3 := hc2 (w.heap.size) 1 (by omega); have r5 := hc2 (w.heap.size + 1 + 1) 0 (by omega); have r6 := hc2 (w.heap.size + 1 + 1) 1 (by omega); have r7 := hf2 (w.heap.size + 1 + 1) 0 (by omega); have r8 := hf2 (w.heap.size + 1 + 1) 1 (by omega)))
  go_wp2
  have HV : sgnd (!neg) (Lm.lv l1) = sgnd (!neg) (Lm.lv b - Lm.lv a) := by rw [hv1]
  rw [HV] at hI2
  exact bodyPost_ret (v := .agg #[.bool neg2, .slice A2 n2 c2]) (by simp [results, Try.results41, go_sem, r1, r2, r5, r6]) rfl
    ⟨neg2, A2, n2, c2, rfl, isInt_result (b0 := false) (a0 := none) (n0 := 0) (c0 := 0) hI2 (r5.trans (r1.trans (by simp [go_sem]))) (r6.trans (r2.trans (by simp [go_sem]))) _ _, below_result (below_next (below_box (below_box (below_box (below_of_drewN hb1)))) hb2) (by omega) _ _⟩

theorem ref_plus_any (neg neg' : Bool) (A A' : Option Addr) (n c n' c' : Nat) (x y : Int) (w : World) (hx : IsInt w neg A n c x) (hy : IsInt w neg' A' n' c' y) (hn : n ≤ 1000000000) (hn' : n' ≤ 1000000000) :
    Calls Try.prog 41 #[.agg #[.bool neg, .slice A n c], .agg #[.bool neg', .slice A' n' c']] w (RetInt w (x + y)) := by
  obtain ⟨a, ha, ca, _, rfl⟩ := hx
  obtain ⟨b, hb, cb, _, rfl⟩ := hy
  by_cases h : neg' = neg
  · subst h
    rw [← sgnd_add]
    exact ref_plus_same _ _ _ _ _ _ _ _ _ _ ha hb hn hn'
  · have h' : neg' = !neg := by cases neg <;> cases neg' <;> simp_all
    subst h'
    by_cases hle : Lm.lv b ≤ Lm.lv a
    · rw [← sgnd_sub _ _ _ hle]
      exact ref_plus_ge _ _ _ _ _ _ _ _ _ _ ha hb ca cb hle hn hn'
    · have e : sgnd neg (Lm.lv a) + sgnd (!neg) (Lm.lv b) = sgnd (!neg) (Lm.lv b - Lm.lv a) := by
        rw [sgnd_sub _ _ _ (by omega), Bool.not_not, Int.add_comm]
      rw [e]
      exact ref_plus_lt _ _ _ _ _ _ _ _ _ _ ha hb ca cb (by omega) hn hn'
end Go.Proofs.Ythddodhcpfponaa
