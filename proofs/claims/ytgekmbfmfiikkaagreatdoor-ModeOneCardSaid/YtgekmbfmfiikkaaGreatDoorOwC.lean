/-
  Whole numbers in memory of their own: sums and differences (Plus, Minus).
-/
import Derived.Test.YtgekmbfmfiikkaaGreatDoorOwB
import Derived.Test.YtgekmbfmfiikkaaGreatDoorEyB
set_option maxHeartbeats 3200000
set_option maxRecDepth 100000
namespace Go.Proofs.YtgekmbfmfiikkaaGreatDoor
open Go.RowKit
theorem len_le_lv {w w' : World} {A A' : Option Addr} {n c n' c' : Nat} {a b : List Nat} (ha : Sl w A n c a) (hb : Sl w' A' n' c' b) (cb : Lm.canon b) (h : Lm.lv b ≤ Lm.lv a) : n' ≤ n := by
 by_cases hb0 : b = []
 ·subst hb0
  have := hb.len
  simp at this
  omega
 ·have h1 := Lm.lv_lt ha.ok
  have h2 : IsInt w' false A' n' c' (Lm.lv b : Int) := ⟨b, hb, cb, fun e => absurd e hb0, rfl⟩
  refine isInt_len_le h2 ?_
  rw [Int.natAbs_natCast, ← ha.len]
  omega
theorem isInt_flip {w : World} {neg : Bool} {A : Option Addr} {n c : Nat} {z : Int} (h : IsInt w neg A n c z) : IsInt w (!neg && decide (0 < n)) A n c (-z) := by
 obtain ⟨l, h1, h2, h3, rfl⟩ := h
 refine ⟨l, h1, h2, fun e => ?_, ?_⟩
 ·subst e
  have := h1.len
  simp at this
  subst this
  simp
 ·have hl := h1.len
  by_cases h0 : n = 0
  ·subst h0
   have : l = [] := List.eq_nil_of_length_eq_zero hl
   subst this
   unfold sgnd
   cases neg <;> simp [Lm.lv]
  ·have h0' : 0 < n := by omega
   rw [decide_eq_true h0', Bool.and_true]
   unfold sgnd
   cases neg <;> simp
theorem ow_plus_same (neg neg' : Bool) (A A' : Option Addr) (n c n' c' : Nat) (a b : List Nat) (z : Int) (w : World) (ha : Sl w A n c a) (hb : Sl w A' n' c' b) (_ca : Lm.canon a) (_cb : Lm.canon b) (hn : n ≤ 1000000000) (hn' : n' ≤ 1000000000) (hs : neg = neg') (HZ : Hid (sgnd neg (Lm.lv a + Lm.lv b) = z)) :
    Calls Tryz.prog 219 #[.agg #[.bool neg, .slice A n c], .agg #[.bool neg', .slice A' n' c']] w (RetIntO w z) := by
  have K0 := (((Mo.nil w).var (g := w.heap.size) rfl [.bool neg, .slice A n c] 24).var (g := w.heap.size + 1) (by simp) [.bool neg', .slice A' n' c'] 24).var (g := w.heap.size + 1 + 1) (by simp) [.bool false, .slice none 0 0] 24
  have ha0 := ha.below K0.1
  have hb0 := hb.below K0.1
  clear ha hb
  have hne : (neg == neg') = true := by rw [hs]; simp
  clear hs
  have f1 : ¬ w.heap.size + 1 + 1 = w.heap.size := by omega
  have f2 : ¬ w.heap.size = w.heap.size + 1 + 1 := by omega
  go_enter Tryz.func219, Tryz.ntmps219
  go_wp2_with fail
  generalize ((w.alloc (.cells #[.bool neg, .slice A n c] 24)).alloc (.cells #[.bool neg', .slice A' n' c'] 24)).alloc (.cells #[.bool false, .slice none 0 0] 24) = w0 at K0 ha0 hb0 ⊢
  obtain ⟨_, _, _, _, _⟩ := (K0.blk (g := w.heap.size) (by repeat constructor)).two
  obtain ⟨_, _, _, _, _⟩ := (K0.blk (g := w.heap.size + 1) (by repeat constructor)).two
  go_wp2_with fail
  go_region_held3 (fun w' => w'.cell? ⟨w.heap.size, 0, none⟩ = some (.bool neg) ∧ w'.cell? ⟨w.heap.size, 1, none⟩ = some (.slice A n c) ∧ w'.cell? ⟨w.heap.size + 1, 0, none⟩ = some (.bool neg') ∧ w'.cell? ⟨w.heap.size + 1, 1, none⟩ = some (.slice A' n' c'))
    (go_keep)
    (first
      | (go_at_call 277; apply Calls.withMo (w0 := w); (case K => with_reducible repeat (first | exact K0 | apply Mo.drew | apply Mo.drewN)); intro KX; (with_reducible refine (ow_add_any A A' n c n' c' a b _ ?_ ?_ hn hn').mono ?_); (exact ha0); (exact hb0); rintro e1 w1 ⟨A1, n1, c1, l1, rfl, S1, hP1, O1, hb1⟩; (with_reducible have K1 := KX.call1 hb1 O1); have hl1 := S1.len; have HP1 := Lib.hid hP1; clear hP1; obtain ⟨_, _, _, _, _⟩ := (K1.blk (g := w.heap.size) (by repeat constructor)).two; obtain ⟨_, _, _, _, _⟩ := (K1.blk (g := w.heap.size + 1) (by repeat constructor)).two; clear KX hb1 O1)
      | (go_at_call 267; apply Calls.withMo (w0 := w); (case K => with_reducible repeat (first | exact K1 | apply Mo.drew | apply Mo.drewN)); intro KX; (with_reducible refine (ow_signed_any neg A1 n1 c1 l1 _ S1 (by have := HP1.out.2; omega)).mono ?_); rintro e2 w2 ⟨neg2, A2, n2, c2, rfl, I2, C2, hb2⟩; (with_reducible have K2 := ((KX.next hb2).cut C2).int I2); obtain ⟨_, _, _, _, _⟩ := (K2.blk (g := w.heap.size) (by repeat constructor)).two; obtain ⟨_, _, _, _, _⟩ := (K2.blk (g := w.heap.size + 1) (by repeat constructor)).two; obtain ⟨sa2, sb2, sc2, sd2, se2⟩ := (K2.blk (g := w.heap.size + 1 + 1) (by repeat constructor)).two; clear KX I2 C2 hb2))
  all_goals
   go_wp2_with fail
   rw [show sgnd neg (Lm.lv l1) = z by rw [HP1.out.1]; exact HZ.out] at K2
   have KE := (K2.pick (L' := [(w.heap.size + 1 + 1, [.bool false, .slice none 0 0])]) (l' := [(neg2, A2, n2, c2, z)]) (by simp) (by simp)).set2 (by simp <;> omega) neg2 A2 n2 c2
   exact bodyPost_ret (v := .agg #[.bool neg2, .slice A2 n2 c2]) (by simp [results, Tryz.results219, go_sem, sa2, sb2]) rfl ⟨neg2, A2, n2, c2, rfl, KE.at_ (by simp), KE.own1 0 rfl, KE.1⟩
theorem ow_plus_ge (neg neg' : Bool) (A A' : Option Addr) (n c n' c' : Nat) (a b : List Nat) (z : Int) (w : World) (ha : Sl w A n c a) (hb : Sl w A' n' c' b) (ca : Lm.canon a) (cb : Lm.canon b) (hn : n ≤ 1000000000) (hn' : n' ≤ 1000000000) (hs : neg ≠ neg') (hle : Lm.lv b ≤ Lm.lv a) (HZ : Hid (sgnd neg (Lm.lv a - Lm.lv b) = z)) :
    Calls Tryz.prog 219 #[.agg #[.bool neg, .slice A n c], .agg #[.bool neg', .slice A' n' c']] w (RetIntO w z) := by
  have K0 := (((Mo.nil w).var (g := w.heap.size) rfl [.bool neg, .slice A n c] 24).var (g := w.heap.size + 1) (by simp) [.bool neg', .slice A' n' c'] 24).var (g := w.heap.size + 1 + 1) (by simp) [.bool false, .slice none 0 0] 24
  have ha0 := ha.below K0.1
  have hb0 := hb.below K0.1
  clear ha hb
  have hne : (neg == neg') = false := by rw [beq_eq_false_iff_ne]; exact hs
  clear hs
  have hlen := len_le_lv ha0 hb0 cb hle
  have f1 : ¬ w.heap.size + 1 + 1 = w.heap.size := by omega
  have f2 : ¬ w.heap.size = w.heap.size + 1 + 1 := by omega
  go_enter Tryz.func219, Tryz.ntmps219
  go_wp2_with fail
  generalize ((w.alloc (.cells #[.bool neg, .slice A n c] 24)).alloc (.cells #[.bool neg', .slice A' n' c'] 24)).alloc (.cells #[.bool false, .slice none 0 0] 24) = w0 at K0 ha0 hb0 ⊢
  obtain ⟨qa0, qb0, _, _, qe0⟩ := (K0.blk (g := w.heap.size) (by repeat constructor)).two
  obtain ⟨ra0, rb0, _, _, re0⟩ := (K0.blk (g := w.heap.size + 1) (by repeat constructor)).two
  go_wp2_with fail
  refine (ex_size_any A A' n c n' c' a b _ ha0 hb0 ca cb hn hn').mono ?_
  rintro e3 w3 ⟨v, rfl, hv1, hv2, hv3, hv4, k3, rfl⟩
  have ha1 : Sl (w0.drewN k3) A n c a := ha0
  have hb1 : Sl (w0.drewN k3) A' n' c' b := hb0
  have K1 := K0.drewN k3
  clear ha0 hb0 K0 qa0 qb0 qe0 ra0 rb0 re0
  generalize w0.drewN k3 = w1 at K1 ha1 hb1 ⊢
  have K0 := K1
  have ha0 := ha1
  have hb0 := hb1
  clear K1 ha1 hb1
  obtain ⟨qa0, qb0, _, _, qe0⟩ := (K0.blk (g := w.heap.size) (by repeat constructor)).two
  obtain ⟨ra0, rb0, _, _, re0⟩ := (K0.blk (g := w.heap.size + 1) (by repeat constructor)).two
  have hv0 : ¬ v < 0 := by omega
  have hv00 : 0 ≤ v := by omega
  clear hv1 hv2
  go_wp2_with fail
  go_region_held3 (fun w' => w'.cell? ⟨w.heap.size, 0, none⟩ = some (.bool neg) ∧ w'.cell? ⟨w.heap.size, 1, none⟩ = some (.slice A n c) ∧ w'.cell? ⟨w.heap.size + 1, 0, none⟩ = some (.bool neg') ∧ w'.cell? ⟨w.heap.size + 1, 1, none⟩ = some (.slice A' n' c'))
    (go_keep)
    (first
      | (go_at_call 279; apply Calls.withMo (w0 := w); (case K => with_reducible repeat (first | exact K0 | apply Mo.drew | apply Mo.drewN)); intro KX; (with_reducible refine (ow_sub_any A A' n c n' c' a b _ ?_ ?_ hn hlen hle).mono ?_); (exact ha0); (exact hb0); rintro e1 w1 ⟨A1, n1, c1, l1, rfl, S1, hP1, O1, hb1⟩; (with_reducible have K1 := KX.call1 hb1 O1); have hl1 := S1.len; have HP1 := Lib.hid hP1; clear hP1; obtain ⟨_, _, _, _, _⟩ := (K1.blk (g := w.heap.size) (by repeat constructor)).two; obtain ⟨_, _, _, _, _⟩ := (K1.blk (g := w.heap.size + 1) (by repeat constructor)).two; clear KX hb1 O1)
      | (go_at_call 267; apply Calls.withMo (w0 := w); (case K => with_reducible repeat (first | exact K1 | apply Mo.drew | apply Mo.drewN)); intro KX; (with_reducible refine (ow_signed_any neg A1 n1 c1 l1 _ S1 (by have := HP1.out.2.2; omega)).mono ?_); rintro e2 w2 ⟨neg2, A2, n2, c2, rfl, I2, C2, hb2⟩; (with_reducible have K2 := ((KX.next hb2).cut C2).int I2); obtain ⟨_, _, _, _, _⟩ := (K2.blk (g := w.heap.size) (by repeat constructor)).two; obtain ⟨_, _, _, _, _⟩ := (K2.blk (g := w.heap.size + 1) (by repeat constructor)).two; obtain ⟨sa2, sb2, sc2, sd2, se2⟩ := (K2.blk (g := w.heap.size + 1 + 1) (by repeat constructor)).two; clear KX I2 C2 hb2))
  all_goals
   go_wp2_with fail
   rw [show sgnd neg (Lm.lv l1) = z by rw [HP1.out.1]; exact HZ.out] at K2
   have KE := (K2.pick (L' := [(w.heap.size + 1 + 1, [.bool false, .slice none 0 0])]) (l' := [(neg2, A2, n2, c2, z)]) (by simp) (by simp)).set2 (by simp <;> omega) neg2 A2 n2 c2
   exact bodyPost_ret (v := .agg #[.bool neg2, .slice A2 n2 c2]) (by simp [results, Tryz.results219, go_sem, sa2, sb2]) rfl ⟨neg2, A2, n2, c2, rfl, KE.at_ (by simp), KE.own1 0 rfl, KE.1⟩
theorem ow_plus_lt (neg neg' : Bool) (A A' : Option Addr) (n c n' c' : Nat) (a b : List Nat) (z : Int) (w : World) (ha : Sl w A n c a) (hb : Sl w A' n' c' b) (ca : Lm.canon a) (cb : Lm.canon b) (hn : n ≤ 1000000000) (hn' : n' ≤ 1000000000) (hs : neg ≠ neg') (hle : Lm.lv a < Lm.lv b) (HZ : Hid (sgnd neg' (Lm.lv b - Lm.lv a) = z)) :
    Calls Tryz.prog 219 #[.agg #[.bool neg, .slice A n c], .agg #[.bool neg', .slice A' n' c']] w (RetIntO w z) := by
  have K0 := (((Mo.nil w).var (g := w.heap.size) rfl [.bool neg, .slice A n c] 24).var (g := w.heap.size + 1) (by simp) [.bool neg', .slice A' n' c'] 24).var (g := w.heap.size + 1 + 1) (by simp) [.bool false, .slice none 0 0] 24
  have ha0 := ha.below K0.1
  have hb0 := hb.below K0.1
  clear ha hb
  have hne : (neg == neg') = false := by rw [beq_eq_false_iff_ne]; exact hs
  clear hs
  have hlen := len_le_lv hb0 ha0 ca (Nat.le_of_lt hle)
  have f1 : ¬ w.heap.size + 1 + 1 = w.heap.size := by omega
  have f2 : ¬ w.heap.size = w.heap.size + 1 + 1 := by omega
  go_enter Tryz.func219, Tryz.ntmps219
  go_wp2_with fail
  generalize ((w.alloc (.cells #[.bool neg, .slice A n c] 24)).alloc (.cells #[.bool neg', .slice A' n' c'] 24)).alloc (.cells #[.bool false, .slice none 0 0] 24) = w0 at K0 ha0 hb0 ⊢
  obtain ⟨qa0, qb0, _, _, qe0⟩ := (K0.blk (g := w.heap.size) (by repeat constructor)).two
  obtain ⟨ra0, rb0, _, _, re0⟩ := (K0.blk (g := w.heap.size + 1) (by repeat constructor)).two
  go_wp2_with fail
  refine (ex_size_any A A' n c n' c' a b _ ha0 hb0 ca cb hn hn').mono ?_
  rintro e3 w3 ⟨v, rfl, hv1, hv2, hv3, hv4, k3, rfl⟩
  have ha1 : Sl (w0.drewN k3) A n c a := ha0
  have hb1 : Sl (w0.drewN k3) A' n' c' b := hb0
  have K1 := K0.drewN k3
  clear ha0 hb0 K0 qa0 qb0 qe0 ra0 rb0 re0
  generalize w0.drewN k3 = w1 at K1 ha1 hb1 ⊢
  have K0 := K1
  have ha0 := ha1
  have hb0 := hb1
  clear K1 ha1 hb1
  obtain ⟨qa0, qb0, _, _, qe0⟩ := (K0.blk (g := w.heap.size) (by repeat constructor)).two
  obtain ⟨ra0, rb0, _, _, re0⟩ := (K0.blk (g := w.heap.size + 1) (by repeat constructor)).two
  have hv0 : v < 0 := by omega
  have hv00 : ¬ 0 ≤ v := by omega
  clear hv1 hv2
  go_wp2_with fail
  go_region_held3 (fun w' => w'.cell? ⟨w.heap.size, 0, none⟩ = some (.bool neg) ∧ w'.cell? ⟨w.heap.size, 1, none⟩ = some (.slice A n c) ∧ w'.cell? ⟨w.heap.size + 1, 0, none⟩ = some (.bool neg') ∧ w'.cell? ⟨w.heap.size + 1, 1, none⟩ = some (.slice A' n' c'))
    (go_keep)
    (first
      | (go_at_call 279; apply Calls.withMo (w0 := w); (case K => with_reducible repeat (first | exact K0 | apply Mo.drew | apply Mo.drewN)); intro KX; (with_reducible refine (ow_sub_any A' A n' c' n c b a _ ?_ ?_ hn' hlen (Nat.le_of_lt hle)).mono ?_); (exact hb0); (exact ha0); rintro e1 w1 ⟨A1, n1, c1, l1, rfl, S1, hP1, O1, hb1⟩; (with_reducible have K1 := KX.call1 hb1 O1); have hl1 := S1.len; have HP1 := Lib.hid hP1; clear hP1; obtain ⟨_, _, _, _, _⟩ := (K1.blk (g := w.heap.size) (by repeat constructor)).two; obtain ⟨_, _, _, _, _⟩ := (K1.blk (g := w.heap.size + 1) (by repeat constructor)).two; clear KX hb1 O1)
      | (go_at_call 267; apply Calls.withMo (w0 := w); (case K => with_reducible repeat (first | exact K1 | apply Mo.drew | apply Mo.drewN)); intro KX; (with_reducible refine (ow_signed_any neg' A1 n1 c1 l1 _ S1 (by have := HP1.out.2.2; omega)).mono ?_); rintro e2 w2 ⟨neg2, A2, n2, c2, rfl, I2, C2, hb2⟩; (with_reducible have K2 := ((KX.next hb2).cut C2).int I2); obtain ⟨_, _, _, _, _⟩ := (K2.blk (g := w.heap.size) (by repeat constructor)).two; obtain ⟨_, _, _, _, _⟩ := (K2.blk (g := w.heap.size + 1) (by repeat constructor)).two; obtain ⟨sa2, sb2, sc2, sd2, se2⟩ := (K2.blk (g := w.heap.size + 1 + 1) (by repeat constructor)).two; clear KX I2 C2 hb2))
  all_goals
   go_wp2_with fail
   rw [show sgnd neg' (Lm.lv l1) = z by rw [HP1.out.1]; exact HZ.out] at K2
   have KE := (K2.pick (L' := [(w.heap.size + 1 + 1, [.bool false, .slice none 0 0])]) (l' := [(neg2, A2, n2, c2, z)]) (by simp) (by simp)).set2 (by simp <;> omega) neg2 A2 n2 c2
   exact bodyPost_ret (v := .agg #[.bool neg2, .slice A2 n2 c2]) (by simp [results, Tryz.results219, go_sem, sa2, sb2]) rfl ⟨neg2, A2, n2, c2, rfl, KE.at_ (by simp), KE.own1 0 rfl, KE.1⟩
theorem ow_plus_any (neg neg' : Bool) (A A' : Option Addr) (n c n' c' : Nat) (x y : Int) (w : World) (hx : IsInt w neg A n c x) (hy : IsInt w neg' A' n' c' y) (hn : n ≤ 1000000000) (hn' : n' ≤ 1000000000) :
  Calls Tryz.prog 219 #[.agg #[.bool neg, .slice A n c], .agg #[.bool neg', .slice A' n' c']] w (RetIntO w (x + y)) := by
 obtain ⟨a, ha, ca, _, rfl⟩ := hx
 obtain ⟨b, hb, cb, _, rfl⟩ := hy
 by_cases hs : neg = neg'
 ·exact ow_plus_same neg neg' A A' n c n' c' a b _ w ha hb ca cb hn hn' hs (Lib.hid (by subst hs; unfold sgnd; cases neg <;> simp <;> omega))
 ·rcases Nat.lt_or_ge (Lm.lv a) (Lm.lv b) with h | h
  ·exact ow_plus_lt neg neg' A A' n c n' c' a b _ w ha hb ca cb hn hn' hs h (Lib.hid (by unfold sgnd; cases neg <;> cases neg' <;> simp at hs ⊢ <;> omega))
  ·exact ow_plus_ge neg neg' A A' n c n' c' a b _ w ha hb ca cb hn hn' hs h (Lib.hid (by unfold sgnd; cases neg <;> cases neg' <;> simp at hs ⊢ <;> omega))
theorem ow_minus_any (neg neg' : Bool) (A A' : Option Addr) (n c n' c' : Nat) (x y : Int) (w : World) (hx : IsInt w neg A n c x) (hy : IsInt w neg' A' n' c' y) (hn : n ≤ 1000000000) (hn' : n' ≤ 1000000000) :
  Calls Tryz.prog 251 #[.agg #[.bool neg, .slice A n c], .agg #[.bool neg', .slice A' n' c']] w (RetIntO w (x - y)) := by
 have K0 := ((((Mo.nil w).int hx).int (isInt_flip hy)).var (g := w.heap.size) rfl [.bool neg, .slice A n c] 24).var (g := w.heap.size + 1) (by simp) [.bool neg', .slice A' n' c'] 24 |>.var (g := w.heap.size + 1 + 1) (by simp) [.bool false, .slice none 0 0] 24
 have HS : Hid (x + -y = x - y) := Lib.hid (by omega)
 obtain ⟨sg, hsg⟩ : ∃ sg, (!neg' && decide (0 < n')) = sg := ⟨_, rfl⟩
 rw [hsg] at K0
 clear hx hy
 cases neg' with
 | true =>
  have hs : sg = false := by rw [← hsg]; rfl
  subst hs
  clear hsg
  go_enter Tryz.func251, Tryz.ntmps251
  go_wp2_with (go_at_call 219; (with_reducible refine (ow_plus_any neg false A A' n c n' c' x (-y) _ (K0.at_ (by simp)) (K0.at_ (by simp)) hn hn').mono ?_); rintro e1 w1 ⟨neg1, A1, n1, c1, rfl, I1, O1, hb1⟩; have K1 := (K0.call1 hb1 O1).int I1; obtain ⟨sa1, sb1, sc1, sd1, se1⟩ := (K1.blk (g := w.heap.size + 1 + 1) (by repeat constructor)).two)
  rw [HS.out] at K1
  have KE := (K1.pick (L' := [(w.heap.size + 1 + 1, [.bool false, .slice none 0 0])]) (l' := [(neg1, A1, n1, c1, x - y)]) (by simp) (by simp)).set2 (by simp <;> omega) neg1 A1 n1 c1
  exact bodyPost_ret (v := .agg #[.bool neg1, .slice A1 n1 c1]) (by simp [results, Tryz.results251, go_sem, sa1, sb1]) rfl ⟨neg1, A1, n1, c1, rfl, KE.at_ (by simp), KE.own1 0 rfl, KE.1⟩
 | false =>
  by_cases h0 : n' = 0
  ·have hs : sg = false := by rw [← hsg, h0]; rfl
   subst hs
   subst h0
   clear hsg
   go_enter Tryz.func251, Tryz.ntmps251
   go_wp2_with (go_at_call 219; (with_reducible refine (ow_plus_any neg false A A' n c 0 c' x (-y) _ (K0.at_ (by simp)) (K0.at_ (by simp)) hn hn').mono ?_); rintro e1 w1 ⟨neg1, A1, n1, c1, rfl, I1, O1, hb1⟩; have K1 := (K0.call1 hb1 O1).int I1; obtain ⟨sa1, sb1, sc1, sd1, se1⟩ := (K1.blk (g := w.heap.size + 1 + 1) (by repeat constructor)).two)
   rw [HS.out] at K1
   have KE := (K1.pick (L' := [(w.heap.size + 1 + 1, [.bool false, .slice none 0 0])]) (l' := [(neg1, A1, n1, c1, x - y)]) (by simp) (by simp)).set2 (by simp <;> omega) neg1 A1 n1 c1
   exact bodyPost_ret (v := .agg #[.bool neg1, .slice A1 n1 c1]) (by simp [results, Tryz.results251, go_sem, sa1, sb1]) rfl ⟨neg1, A1, n1, c1, rfl, KE.at_ (by simp), KE.own1 0 rfl, KE.1⟩
  ·have h0' : 0 < n' := by omega
   have hs : sg = true := by rw [← hsg, decide_eq_true h0']; rfl
   have h1 : (0 : Int) < (n' : Int) := by omega
   subst hs
   clear hsg
   go_enter Tryz.func251, Tryz.ntmps251
   go_wp2_with (go_at_call 219; (with_reducible refine (ow_plus_any neg true A A' n c n' c' x (-y) _ (K0.at_ (by simp)) (K0.at_ (by simp)) hn hn').mono ?_); rintro e1 w1 ⟨neg1, A1, n1, c1, rfl, I1, O1, hb1⟩; have K1 := (K0.call1 hb1 O1).int I1; obtain ⟨sa1, sb1, sc1, sd1, se1⟩ := (K1.blk (g := w.heap.size + 1 + 1) (by repeat constructor)).two)
   rw [HS.out] at K1
   have KE := (K1.pick (L' := [(w.heap.size + 1 + 1, [.bool false, .slice none 0 0])]) (l' := [(neg1, A1, n1, c1, x - y)]) (by simp) (by simp)).set2 (by simp <;> omega) neg1 A1 n1 c1
   exact bodyPost_ret (v := .agg #[.bool neg1, .slice A1 n1 c1]) (by simp [results, Tryz.results251, go_sem, sa1, sb1]) rfl ⟨neg1, A1, n1, c1, rfl, KE.at_ (by simp), KE.own1 0 rfl, KE.1⟩
end Go.Proofs.YtgekmbfmfiikkaaGreatDoor
