/-
  The references' whole numbers (polestarref01): quotients: by one limb; what the call answers.
-/
import Derived.Test.YthddodhcpfponaaRefM
namespace Go.Proofs.Ythddodhcpfponaa
open Go.RowKit

def RetTwo (W : World) (P : List Nat → List Nat → Prop) (e : Ending) (w' : World) : Prop :=
  ∃ A n c l A' n' c' l', e = .returned (.tuple #[.slice A n c, .slice A' n' c']) ∧ Sl w' A n c l ∧ Sl w' A' n' c' l' ∧ P l l' ∧ Below W.heap.size W w'
/-- What a division leaves. -/
def IsQuo (a d q r : List Nat) : Prop := Lm.lv a = Lm.lv d * Lm.lv q + Lm.lv r ∧ Lm.lv r < Lm.lv d ∧ q.length ≤ a.length ∧ r.length ≤ d.length ∧ Lm.canon q ∧ Lm.canon r

theorem sl_new1_at (w : World) (t : TypeId) (d : Nat) (hd : d < 4294967296) : Sl (w.alloc (.cells #[.int .u32 (d : Int)] t)) (some ⟨w.heap.size, 0, none⟩) 1 1 [d] := sl_new1 w t d hd

set_option maxRecDepth 100000 in
set_option maxHeartbeats 600000 in
theorem ref_divide_one (A A' : Option Addr) (n c c' : Nat) (a d : List Nat) (w : World) (ha : Sl w A n c a) (hd : Sl w A' 1 c' d) (cd : Lm.canon d) (hn : n ≤ 1000000000) :
    Calls Try.prog 107 #[.slice A n c, .slice A' 1 c'] w (RetTwo w (IsQuo a d)) := by
  have hdl := hd.len
  obtain ⟨ad, rfl, hb, hl, hc, hx⟩ := hd.at_ (k := 0) (by omega)
  have hd0 : d = [d[0]] := by
    match d, hdl with
    | [x], _ => rfl
  have hlv : Lm.lv d = d[0] := (congrArg Lm.lv hd0).trans (Lm.lv_one _)
  have hpos : 0 < d[0] := by
    have := (canon_last (by omega)).1 cd
    have e : d.length - 1 = 0 := by omega
    simp only [e] at this
    omega
  have HV := Lib.hid hlv
  have HN := Lib.hid ha.len
  have HD := Lib.hid hdl
  have hadd : ad.add 0 = ad := by unfold Addr.add; simp
  rw [hadd] at hc
  clear hlv hd0 hdl hadd
  go_enter Try.func107, Try.ntmps107
  go_wp2_with (go_at_call 108; refine (ref_short_any _ _ _ _ _ _ (by exact ha) hn hpos hx).mono ?_; rintro e w1 ⟨A1, n1, c1, q, r, rfl, hS1, ⟨hq, hr, hcq, hlq⟩, hb1⟩; have HQ := Lib.hid hq; have HC := Lib.hid hcq; clear hq hcq; have hr2 : r < 4294967296 := (by omega))
  refine (ref_trim_any _ _ _ _ _ (by exact sl_new1 w1 84 r hr2) (by omega)).mono ?_
  rintro e w2 ⟨rfl, rfl⟩
  go_wp2_with fail
  go_ret2
  have ht := (sl_new1 w1 84 r hr2).trim
  refine ⟨A1, n1, c1, q, _, _, _, Lm.trim [r], rfl, hS1.alloc _, ht, ⟨?_, ?_, ?_, ?_, HC.out, Lm.trim_canon _⟩, hb1.alloc hb1.size _⟩
  · rw [Lm.trim_lv, Lm.lv_one, HV.out]; exact HQ.out
  · rw [Lm.trim_lv, Lm.lv_one, HV.out]; exact hr
  · rw [HN.out]; exact hlq
  · rw [HD.out]; exact trim_len [r]

theorem cell_far (w : World) (g : Nat) (u v : Value) (p : Addr) (h : ¬ p.block = g) : ((w.setCell ⟨g, 0, none⟩ u).setCell ⟨g, 1, none⟩ v).cell? p = w.cell? p := by
  rw [World.cell?_setCell_other _ ⟨g, 1, none⟩ p v (by rintro rfl; exact h rfl), World.cell?_setCell_other _ ⟨g, 0, none⟩ p u (by rintro rfl; exact h rfl)]
theorem sgnd_tdiv (s t : Bool) (a b : Nat) : (sgnd s a).tdiv (sgnd t b) = sgnd (s != t) (a / b) := by
  unfold sgnd
  cases s <;> cases t <;> simp [Int.neg_tdiv, Int.tdiv_neg]
theorem sgnd_tmod (s t : Bool) (a b : Nat) : (sgnd s a).tmod (sgnd t b) = sgnd s (a % b) := by
  unfold sgnd
  cases s <;> cases t <;> simp [Int.neg_tmod, Int.tmod_neg] <;> exact (Int.ofNat_tmod a b).symm
def RetTwoInts (W : World) (x y : Int) (e : Ending) (w' : World) : Prop :=
  ∃ neg A n c neg' A' n' c', e = .returned (.tuple #[.agg #[.bool neg, .slice A n c], .agg #[.bool neg', .slice A' n' c']]) ∧ IsInt w' neg A n c x ∧ IsInt w' neg' A' n' c' y ∧ Below W.heap.size W w'

set_option maxRecDepth 100000 in
set_option maxHeartbeats 800000 in
theorem ref_quo_of (neg neg' : Bool) (A A' : Option Addr) (n c n' c' : Nat) (a b : List Nat) (w : World) (ha : Sl w A n c a) (hb : Sl w A' n' c' b) (hn : n ≤ 1000000000) (hn' : n' ≤ 1000000000)
    (hdiv : ∀ W : World, Sl W A n c a → Sl W A' n' c' b → Calls Try.prog 107 #[.slice A n c, .slice A' n' c'] W (RetTwo W (IsQuo a b))) :
    Calls Try.prog 87 #[.agg #[.bool neg, .slice A n c], .agg #[.bool neg', .slice A' n' c']] w
      (RetTwoInts w (sgnd (neg != neg') (Lm.lv a / Lm.lv b)) (sgnd neg (Lm.lv a % Lm.lv b))) := by
  have HD := Lib.hid hdiv
  clear hdiv
  have HN := Lib.hid ha.len
  have HN' := Lib.hid hb.len
  have ha4 := (((ha.alloc (.cells #[.bool neg, .slice A n c] 32)).alloc (.cells #[.bool neg', .slice A' n' c'] 32)).alloc (.cells #[.bool false, .slice none 0 0] 32)).alloc (.cells #[.bool false, .slice none 0 0] 32)
  have hb4 := (((hb.alloc (.cells #[.bool neg, .slice A n c] 32)).alloc (.cells #[.bool neg', .slice A' n' c'] 32)).alloc (.cells #[.bool false, .slice none 0 0] 32)).alloc (.cells #[.bool false, .slice none 0 0] 32)
  go_enter Try.func87, Try.ntmps87
  go_wp2_with (go_at_call 107; refine (HD.out _ (by exact ha4) (by exact hb4)).mono ?_; rintro e w1 ⟨A1, n1, c1, q, A2, n2, c2, r, rfl, hS1, hS2, hP, hb1⟩; obtain ⟨hc1, hf1⟩ := bcell hb1; have xa0 := hc1 (w.heap.size + 1 + 1) 0 (by simp <;> omega); have xfa0 := hf1 (w.heap.size + 1 + 1) 0 (by simp <;> omega); have xa1 := hc1 (w.heap.size + 1 + 1) 1 (by simp <;> omega); have xfa1 := hf1 (w.heap.size + 1 + 1) 1 (by simp <;> omega); have xb0 := hc1 (w.heap.size + 1 + 1 + 1) 0 (by simp <;> omega); have xfb0 := hf1 (w.heap.size + 1 + 1 + 1) 0 (by simp <;> omega); have xb1 := hc1 (w.heap.size + 1 + 1 + 1) 1 (by simp <;> omega); have xfb1 := hf1 (w.heap.size + 1 + 1 + 1) 1 (by simp <;> omega); have xn0 := hc1 w.heap.size 0 (by simp <;> omega); have xn1 := hc1 (w.heap.size + 1) 0 (by simp <;> omega); have hzw1 : w.heap.size + 1 + 1 + 1 < w1.heap.size := (by have := hb1.size; simp at this; omega); have hn1 := hS1.len; have hn2 := hS2.len)
  have ne0a : ¬ w.heap.size + 1 + 1 = w.heap.size := by omega
  have ne0b : ¬ w.heap.size = w.heap.size + 1 + 1 := by omega
  have ne1a : ¬ w.heap.size + 1 + 1 + 1 = w.heap.size := by omega
  have ne1b : ¬ w.heap.size = w.heap.size + 1 + 1 + 1 := by omega
  have ne2a : ¬ w.heap.size + 1 + 1 = w.heap.size + 1 := by omega
  have ne2b : ¬ w.heap.size + 1 = w.heap.size + 1 + 1 := by omega
  have ne3a : ¬ w.heap.size + 1 + 1 + 1 = w.heap.size + 1 := by omega
  have ne3b : ¬ w.heap.size + 1 = w.heap.size + 1 + 1 + 1 := by omega
  have ne4a : ¬ w.heap.size + 1 + 1 + 1 = w.heap.size + 1 + 1 := by omega
  have ne4b : ¬ w.heap.size + 1 + 1 = w.heap.size + 1 + 1 + 1 := by omega
  obtain ⟨hP1, hP2, hP3, hP4, hP5, hP6⟩ := hP
  have HP := Lib.hid hP1
  clear hP1
  have hq1 : n1 ≤ 1000000000 := by have := HN.out; omega
  have hq2 : n2 ≤ 1000000000 := by have := HN'.out; omega
  go_region_held3 (fun w' => w'.cell? ⟨w.heap.size, 0, none⟩ = some (.bool neg) ∧ w'.cell? ⟨w.heap.size + 1, 0, none⟩ = some (.bool neg'))
    (go_keep)
    (first | (go_at_call 77; (with_reducible refine (ref_signed_any _ A1 _ _ q _ ?_ ?_).mono ?_); exact hS1.drewN 1; omega; rintro e w2 ⟨neg3, A3, n3, c3, rfl, hI3, hb2⟩; obtain ⟨hc2, hf2⟩ := bcell hb2; have ya0 := hc2 (w.heap.size + 1 + 1) 0 (by simp <;> omega); have yfa0 := hf2 (w.heap.size + 1 + 1) 0 (by simp <;> omega); have ya1 := hc2 (w.heap.size + 1 + 1) 1 (by simp <;> omega); have yfa1 := hf2 (w.heap.size + 1 + 1) 1 (by simp <;> omega); have yb0 := hc2 (w.heap.size + 1 + 1 + 1) 0 (by simp <;> omega); have yfb0 := hf2 (w.heap.size + 1 + 1 + 1) 0 (by simp <;> omega); have yb1 := hc2 (w.heap.size + 1 + 1 + 1) 1 (by simp <;> omega); have yfb1 := hf2 (w.heap.size + 1 + 1 + 1) 1 (by simp <;> omega); have yn0 := hc2 w.heap.size 0 (by simp <;> omega); have yn1 := hc2 (w.heap.size + 1) 0 (by simp <;> omega); have hz2 : w.heap.size + 1 + 1 + 1 < w2.heap.size := (by have := hb2.size; simp at this; omega); have hS2 := (hS2.drewN 1).below hb2) | (go_at_call 77; (with_reducible refine (ref_signed_any _ A2 _ _ _ _ hS2 ?_).mono ?_); omega; rintro e w3 ⟨neg4, A4, n4, c4, rfl, hI4, hb3⟩; obtain ⟨hc3, hf3⟩ := bcell hb3; have za0 := hc3 (w.heap.size + 1 + 1) 0 (by omega); have zfa0 := hf3 (w.heap.size + 1 + 1) 0 (by omega); have za1 := hc3 (w.heap.size + 1 + 1) 1 (by omega); have zfa1 := hf3 (w.heap.size + 1 + 1) 1 (by omega); have zb0 := hc3 (w.heap.size + 1 + 1 + 1) 0 (by omega); have zfb0 := hf3 (w.heap.size + 1 + 1 + 1) 0 (by omega); have zb1 := hc3 (w.heap.size + 1 + 1 + 1) 1 (by omega); have zfb1 := hf3 (w.heap.size + 1 + 1 + 1) 1 (by omega); have zn0 := hc3 w.heap.size 0 (by omega); have zn1 := hc3 (w.heap.size + 1) 0 (by omega); have hz3 : w.heap.size + 1 + 1 + 1 < w3.heap.size := (by have := hb3.size; omega); have hI3 := hI3.below hb3))
  go_wp2
  have hpos : 0 < Lm.lv b := by omega
  have hq : Lm.lv q = Lm.lv a / Lm.lv b := by
    rw [HP.out, Nat.mul_add_div hpos, Nat.div_eq_of_lt hP2, Nat.add_zero]
  have hr : Lm.lv r = Lm.lv a % Lm.lv b := by
    rw [HP.out, Nat.mul_add_mod, Nat.mod_eq_of_lt hP2]
  rw [hq] at hI3
  rw [hr] at hI4
  have ca0 : w3.cell? ⟨w.heap.size + 1 + 1, 0, none⟩ = some (.bool false) := za0.trans (ya0.trans (xa0.trans (by simp [go_sem])))
  have ca1 : w3.cell? ⟨w.heap.size + 1 + 1, 1, none⟩ = some (.slice none 0 0) := za1.trans (ya1.trans (xa1.trans (by simp [go_sem])))
  have cb0 : w3.cell? ⟨w.heap.size + 1 + 1 + 1, 0, none⟩ = some (.bool false) := zb0.trans (yb0.trans (xb0.trans (by simp [go_sem])))
  have cb1 : w3.cell? ⟨w.heap.size + 1 + 1 + 1, 1, none⟩ = some (.slice none 0 0) := zb1.trans (yb1.trans (xb1.trans (by simp [go_sem])))
  have cb0' := (cell_far w3 (w.heap.size + 1 + 1) (.bool neg3) (.slice A3 n3 c3) ⟨w.heap.size + 1 + 1 + 1, 0, none⟩ ne4a).trans cb0
  have cb1' := (cell_far w3 (w.heap.size + 1 + 1) (.bool neg3) (.slice A3 n3 c3) ⟨w.heap.size + 1 + 1 + 1, 1, none⟩ ne4a).trans cb1
  replace hI3 : IsInt w3 neg3 A3 n3 c3 (sgnd (neg != neg') (Lm.lv a / Lm.lv b)) := hI3
  exact bodyPost_ret (v := .tuple #[.agg #[.bool neg3, .slice A3 n3 c3], .agg #[.bool neg4, .slice A4 n4 c4]]) (by simp [results, Try.results87, go_sem, ca0, ca1, cb0, cb1]) rfl
    ⟨neg3, A3, n3, c3, neg4, A4, n4, c4, rfl, isInt_result (isInt_result hI3 ca0 ca1 _ _) cb0' cb1' _ _, isInt_result (isInt_result hI4 ca0 ca1 _ _) cb0' cb1' _ _,
      below_result (below_result (below_next (below_next (below_box (below_box (below_box (below_box hb1)))) (below_of_drew hb2)) hb3) (by omega) _ _) (by omega) _ _⟩

theorem ref_Divide_one (neg neg' : Bool) (A A' : Option Addr) (n c c' : Nat) (x y : Int) (w : World) (hx : IsInt w neg A n c x) (hy : IsInt w neg' A' 1 c' y) (hn : n ≤ 1000000000) :
    Calls Try.prog 87 #[.agg #[.bool neg, .slice A n c], .agg #[.bool neg', .slice A' 1 c']] w (RetTwoInts w (x.tdiv y) (x.tmod y)) := by
  obtain ⟨a, ha, ca, _, rfl⟩ := hx
  obtain ⟨b, hb, cb, _, rfl⟩ := hy
  rw [sgnd_tdiv, sgnd_tmod]
  exact ref_quo_of _ _ _ _ _ _ _ _ _ _ _ ha hb hn (by omega) (fun W hA hB => ref_divide_one _ _ _ _ _ _ _ _ hA hB cb hn)
end Go.Proofs.Ythddodhcpfponaa
