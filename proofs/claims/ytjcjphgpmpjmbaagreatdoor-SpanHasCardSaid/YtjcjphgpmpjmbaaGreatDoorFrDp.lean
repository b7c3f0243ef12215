/-
  Spans: differences (span.Sub).
  What the references' spans tell of the four operations is what the program's tell, plainly.
-/
import Derived.Test.YtjcjphgpmpjmbaaGreatDoorSpnG
import Derived.Test.YtjcjphgpmpjmbaaGreatDoorExB
import Derived.Test.YtjcjphgpmpjmbaaGreatDoorTzP
import Derived.Test.YtjcjphgpmpjmbaaGreatDoorCom
import Derived.Test.YtjcjphgpmpjmbaaGreatDoorSpnR
import Derived.Test.YtjcjphgpmpjmbaaGreatDoorSpnO
import Derived.Test.YtjcjphgpmpjmbaaGreatDoorExX
import Derived.Test.YtjcjphgpmpjmbaaGreatDoorSpnV
namespace Go.Proofs.YtjcjphgpmpjmbaaGreatDoor
open Go.RowKit

set_option maxRecDepth 100000 in
set_option maxHeartbeats 800000 in
theorem span_sub_any (la ha lb hb : Nat) (b1 : la < 2 ^ 64) (b2 : ha < 2 ^ 64) (b3 : lb < 2 ^ 64) (b4 : hb < 2 ^ 64) (w : World) :
    Calls Tryz.prog 18 #[.agg #[.float .f64 la, .float .f64 ha], .agg #[.float .f64 lb, .float .f64 hb]] w (RetSp w (IsSpan (okS la ha && okS lb hb) (subL la ha lb hb) (subH la ha lb hb))) := by
  obtain ⟨m1, hm1⟩ : ∃ m, (okS la ha && okS lb hb) = m := ⟨_, rfl⟩
  rw [hm1]
  have HM1 := Lib.hid hm1
  clear hm1
  cases m1 with
  | false =>
    go_enter Tryz.func18, Tryz.ntmps18
    go_wp2_with fail
    refine (span_may_two (w.heap.size + 1 + 1 + 1) la ha lb hb _ b1 b2 b3 b4 (by simp) (by simp [go_sem]) (by simp [go_sem]) (by simp [go_sem]) (by simp [go_sem])).mono ?_
    rintro e1 w1 ⟨rfl, hb1⟩
    rw [HM1.out]
    obtain ⟨hc1, hf1⟩ := bcell hb1
    have k0 := hc1 (w.heap.size + 1 + 1) 0 (by simp <;> omega)
    have k1 := hc1 (w.heap.size + 1 + 1) 1 (by simp <;> omega)
    have k2 := hf1 (w.heap.size + 1 + 1) 0 (by simp <;> omega)
    have k3 := hf1 (w.heap.size + 1 + 1) 1 (by simp <;> omega)
    go_wp2_with fail
    exact bodyPost_ret (v := .tuple #[.agg #[.float .f64 0, .float .f64 0], .int .i64 1]) (by simp [results, Tryz.results18, go_sem, k0, k1]) rfl
      ⟨(0, 0, 1), ⟨fun _ => rfl, fun h => by simp at h⟩, rfl, below_result (below_box (below_box (below_box (below_box hb1)))) (by omega) _ _⟩
  | true =>
    obtain ⟨ho1, ho2⟩ := Bool.and_eq_true_iff.1 HM1.out
    have HF := Lib.hid (And.intro (okS_iff.1 ho1) (okS_iff.1 ho2))
    clear ho1 ho2
    go_enter Tryz.func18, Tryz.ntmps18
    go_wp2_with fail
    refine (span_may_two (w.heap.size + 1 + 1 + 1) la ha lb hb _ b1 b2 b3 b4 (by simp) (by simp [go_sem]) (by simp [go_sem]) (by simp [go_sem]) (by simp [go_sem])).mono ?_
    rintro e1 w1 ⟨rfl, hb1⟩
    rw [HM1.out]
    obtain ⟨hc1, hf1⟩ := bcell hb1
    have k0 : w1.cell? ⟨w.heap.size, 0, none⟩ = some (.float .f64 la) := by rw [hc1 w.heap.size 0 (by simp <;> omega)]; simp [go_sem]
    have k1 : w1.cell? ⟨w.heap.size, 1, none⟩ = some (.float .f64 ha) := by rw [hc1 w.heap.size 1 (by simp <;> omega)]; simp [go_sem]
    have k2 : w1.cell? ⟨w.heap.size + 1, 0, none⟩ = some (.float .f64 lb) := by rw [hc1 (w.heap.size + 1) 0 (by simp <;> omega)]; simp [go_sem]
    have k3 : w1.cell? ⟨w.heap.size + 1, 1, none⟩ = some (.float .f64 hb) := by rw [hc1 (w.heap.size + 1) 1 (by simp <;> omega)]; simp [go_sem]
    have k4 : w1.cell? ⟨w.heap.size + 1 + 1, 0, none⟩ = some (.float .f64 0) := by rw [hc1 (w.heap.size + 1 + 1) 0 (by simp <;> omega)]; simp [go_sem]
    have k5 : w1.cell? ⟨w.heap.size + 1 + 1, 1, none⟩ = some (.float .f64 0) := by rw [hc1 (w.heap.size + 1 + 1) 1 (by simp <;> omega)]; simp [go_sem]
    have k6 : w1.frozen? ⟨w.heap.size + 1 + 1, 0, none⟩ = false := by rw [hf1 (w.heap.size + 1 + 1) 0 (by simp <;> omega)]; simp [go_sem]
    have k7 : w1.frozen? ⟨w.heap.size + 1 + 1, 1, none⟩ = false := by rw [hf1 (w.heap.size + 1 + 1) 1 (by simp <;> omega)]; simp [go_sem]
    have sz : w.heap.size + 1 + 1 < w1.heap.size := by have := hb1.size; simp at this; omega
    have hbw1 := below_box (below_box (below_box (below_box hb1)))
    clear hc1 hf1 hb1
    go_wp2_with fail
    refine (rnd_sub_any la hb b1 b4 _).mono ?_
    rintro e2 w2 ⟨lo, lu, rfl, hs2, hb2⟩
    have l64 : lo < 2 ^ 64 := by
      obtain ⟨f1, f2⟩ := HF.out
      exact (sum_down hs2 f1.1 (Flt.fin_opp.2 f2.2.1)).1.1
    have j0 := ((bcell hb2).1 w.heap.size 0 (by omega)).trans k0
    have j1 := ((bcell hb2).1 w.heap.size 1 (by omega)).trans k1
    have j2 := ((bcell hb2).1 (w.heap.size + 1) 0 (by omega)).trans k2
    have j3 := ((bcell hb2).1 (w.heap.size + 1) 1 (by omega)).trans k3
    have j4 := ((bcell hb2).1 (w.heap.size + 1 + 1) 0 (by omega)).trans k4
    have j5 := ((bcell hb2).1 (w.heap.size + 1 + 1) 1 (by omega)).trans k5
    have j6 := ((bcell hb2).2 (w.heap.size + 1 + 1) 0 (by omega)).trans k6
    have j7 := ((bcell hb2).2 (w.heap.size + 1 + 1) 1 (by omega)).trans k7
    have sz2 : w.heap.size + 1 + 1 < w2.heap.size := by have := hb2.size; omega
    have hbw2 := below_next hbw1 hb2
    have HS2 := Lib.hid hs2
    clear k0 k1 k2 k3 k4 k5 k6 k7 hb2 hs2
    go_wp2_with fail
    refine (rnd_sub_any ha lb b2 b3 _).mono ?_
    rintro e3 w3 ⟨hd, hi, rfl, hs3, hb3⟩
    have h64 : hi < 2 ^ 64 := by
      obtain ⟨f1, f2⟩ := HF.out
      exact (sum_down hs3 f1.2.1 (Flt.fin_opp.2 f2.1)).2.1
    have k4 := ((bcell hb3).1 (w.heap.size + 1 + 1) 0 (by omega)).trans j4
    have k5 := ((bcell hb3).1 (w.heap.size + 1 + 1) 1 (by omega)).trans j5
    have k6 := ((bcell hb3).2 (w.heap.size + 1 + 1) 0 (by omega)).trans j6
    have k7 := ((bcell hb3).2 (w.heap.size + 1 + 1) 1 (by omega)).trans j7
    have sz3 : w.heap.size + 1 + 1 < w3.heap.size := by have := hb3.size; omega
    have hbw3 := below_next hbw2 hb3
    have HS3 := Lib.hid hs3
    clear j0 j1 j2 j3 j4 j5 j6 j7 hb3 hs3
    go_wp2_with fail
    refine (span_ends_any lo hi l64 h64 _).mono ?_
    rintro e4 w4 ⟨rfl, hb4⟩
    have j4 := ((bcell hb4).1 (w.heap.size + 1 + 1) 0 (by omega)).trans k4
    have j5 := ((bcell hb4).1 (w.heap.size + 1 + 1) 1 (by omega)).trans k5
    have j6 := ((bcell hb4).2 (w.heap.size + 1 + 1) 0 (by omega)).trans k6
    have j7 := ((bcell hb4).2 (w.heap.size + 1 + 1) 1 (by omega)).trans k7
    have hbw4 := below_next hbw3 hb4
    clear k4 k5 k6 k7 hb4
    go_wp2_with fail
    exact bodyPost_ret (v := .tuple #[.agg #[.float .f64 (endsF lo hi).1, .float .f64 (endsF lo hi).2.1], .int .i64 (endsF lo hi).2.2]) (by simp [results, Tryz.results18, go_sem, j4, j5]) rfl
      ⟨endsF lo hi, ⟨fun h => by simp at h, fun _ => ⟨lo, hi, lowOf_one (by have h := (sum_down HS2.out HF.out.1.1 (Flt.fin_opp.2 HF.out.2.2.1)).1; rw [Flt.sv_opp, ← Int.sub_eq_add_neg] at h; exact h), highOf_one (by have h := (sum_down HS3.out HF.out.1.2.1 (Flt.fin_opp.2 HF.out.2.1)).2; rw [Flt.sv_opp, ← Int.sub_eq_add_neg] at h; exact h), rfl⟩⟩, rfl, below_result hbw4 (by omega) _ _⟩
end Go.Proofs.YtjcjphgpmpjmbaaGreatDoor

namespace Go.Proofs.YtjcjphgpmpjmbaaGreatDoor
open Go.RowKit

/-- One corner of an operation. -/
def cz (k x y : Nat) : Int × Nat := match k with
  | 0 => (Flt.sv x + Flt.sv y, 1)
  | 1 => (Flt.sv x - Flt.sv y, 1)
  | 2 => (Flt.sv x * Flt.sv y, 2 ^ Flt.K74)
  | _ => (qn x y, Flt.val (Flt.rg y))
def opR (k : Nat) (x y : Rat) : Rat := match k with
  | 0 => x + y
  | 1 => x - y
  | 2 => x * y
  | _ => x / y
def rz (c : Int × Nat) : Rat := Rat.divInt c.1 (((c.2 * 2 ^ Flt.K74 : Nat)) : Int)
theorem fr_div (v : Nat) : fr v = (Flt.sv v : Rat) / ((2 ^ Flt.K74 : Nat) : Rat) := by
  unfold fr
  rw [Rat.divInt_eq_div]
  rfl
theorem rz_div (c : Int × Nat) : rz c = (c.1 : Rat) / (((c.2 : Rat)) * ((2 ^ Flt.K74 : Nat) : Rat)) := by
  unfold rz
  rw [Rat.divInt_eq_div, ← Rat.natCast_mul]
  rfl
theorem unit_pos : (0 : Rat) < ((2 ^ Flt.K74 : Nat) : Rat) := Rat.natCast_pos.2 (Nat.two_pow_pos _)
theorem opR_rz (k x y : Nat) (h : 3 ≤ k → Flt.rg y ≠ 0) : opR k (fr x) (fr y) = rz (cz k x y) := by
  have hp := unit_pos
  obtain ⟨K, hK⟩ : ∃ K, 2 ^ Flt.K74 = K := ⟨_, rfl⟩
  match k, h with
  | 0, _ =>
    show fr x + fr y = rz (Flt.sv x + Flt.sv y, 1)
    rw [fr_div, fr_div, rz_div]
    rw [hK] at hp ⊢
    simp only [Rat.intCast_add]
    grind
  | 1, _ =>
    show fr x - fr y = rz (Flt.sv x - Flt.sv y, 1)
    rw [fr_div, fr_div, rz_div]
    rw [hK] at hp ⊢
    simp only [Rat.intCast_sub]
    grind
  | 2, _ =>
    show fr x * fr y = rz (Flt.sv x * Flt.sv y, 2 ^ Flt.K74)
    rw [fr_div, fr_div, rz_div]
    simp only [hK] at hp ⊢
    simp only [Rat.intCast_mul]
    grind
  | (j + 3), h =>
    show fr x / fr y = rz (qn x y, Flt.val (Flt.rg y))
    have hy := h (by omega)
    rw [fr_div, fr_div, rz_div]
    unfold qn
    simp only [hK] at hp ⊢
    have hv := val_pos hy
    have hsv : Flt.sv y = if Flt.sgn y then -(Flt.val (Flt.rg y) : Int) else Flt.val (Flt.rg y) := rfl
    rw [hsv]
    obtain ⟨V, hV⟩ : ∃ V, Flt.val (Flt.rg y) = V := ⟨_, rfl⟩
    rw [hV] at hv ⊢
    have hvr : (0 : Rat) < (V : Rat) := Rat.natCast_pos.2 hv
    generalize Flt.sv x = a
    cases Flt.sgn y with
    | true =>
      simp only [if_true, Rat.intCast_mul, Rat.intCast_neg, Rat.intCast_natCast]
      grind
    | false =>
      simp only [Bool.false_eq_true, if_false, Rat.intCast_mul, Rat.intCast_natCast]
      grind
theorem rat_le_mul {a b m : Rat} (hm : 0 < m) : a ≤ b ↔ a * m ≤ b * m := by
  have h1 := Rat.mul_lt_mul_of_pos_right (a := b) (b := a) (c := m)
  constructor
  · intro h
    exact Rat.mul_le_mul_of_nonneg_right h (Rat.le_of_lt hm)
  · intro h
    grind
theorem rz_le {c e : Int × Nat} (hc : 0 < c.2) (he : 0 < e.2) : rz c ≤ rz e ↔ c.1 * (e.2 : Int) ≤ e.1 * (c.2 : Int) := by
  have hp := unit_pos
  obtain ⟨K, hK⟩ : ∃ K, 2 ^ Flt.K74 = K := ⟨_, rfl⟩
  have h1 : (0 : Rat) < (c.2 : Rat) := Rat.natCast_pos.2 hc
  have h2 : (0 : Rat) < (e.2 : Rat) := Rat.natCast_pos.2 he
  have e1 := rz_div c
  have e2 := rz_div e
  rw [hK] at hp e1 e2
  have m1 : (0 : Rat) < (c.2 : Rat) * (K : Rat) := Rat.mul_pos h1 hp
  have m2 : (0 : Rat) < (e.2 : Rat) * (K : Rat) := Rat.mul_pos h2 hp
  have h3 : rz c * ((c.2 : Rat) * (K : Rat)) = (c.1 : Rat) := by rw [e1]; exact Rat.div_mul_cancel (fun h => by rw [h] at m1; exact absurd m1 (by decide))
  have h4 : rz e * ((e.2 : Rat) * (K : Rat)) = (e.1 : Rat) := by rw [e2]; exact Rat.div_mul_cancel (fun h => by rw [h] at m2; exact absurd m2 (by decide))
  have h5 : (c.1 * (e.2 : Int) ≤ e.1 * (c.2 : Int)) ↔ ((c.1 : Rat) * (e.2 : Rat) ≤ (e.1 : Rat) * (c.2 : Rat)) := by
    rw [← Rat.intCast_le_intCast, Rat.intCast_mul, Rat.intCast_mul, Rat.intCast_natCast, Rat.intCast_natCast]
  rw [h5, ← h3, ← h4]
  have hm : (0 : Rat) < (c.2 : Rat) * (K : Rat) * (e.2 : Rat) := Rat.mul_pos (Rat.mul_pos h1 hp) h2
  have ea : rz c * ((c.2 : Rat) * (K : Rat)) * (e.2 : Rat) = rz c * ((c.2 : Rat) * (K : Rat) * (e.2 : Rat)) := by grind
  have eb : rz e * ((e.2 : Rat) * (K : Rat)) * (c.2 : Rat) = rz e * ((c.2 : Rat) * (K : Rat) * (e.2 : Rat)) := by grind
  rw [ea, eb]
  exact rat_le_mul hm
theorem pz_of_sv {x y : Nat} (hx : x < 2 ^ 64) (hy : y < 2 ^ 64) (h : Flt.sv x = Flt.sv y) : pz x = pz y ∧ Flt.finB x = Flt.finB y := by
  have e : Flt.rg x = Flt.rg y := by
    apply Flt.val_inj
    have := h
    unfold Flt.sv at this
    split at this <;> split at this <;> omega
  refine ⟨?_, by unfold Flt.finB; rw [e]⟩
  unfold pz
  rw [e]
  split
  · rfl
  · rename_i h0
    have hv := val_pos h0
    have hs : Flt.sgn x = Flt.sgn y := by
      have := h
      unfold Flt.sv at this
      rw [e] at this
      cases h1 : Flt.sgn x <;> cases h2 : Flt.sgn y <;> first | rfl | (rw [h1, h2] at this; simp at this; omega)
    exact (Flt.word_eq x hx).symm.trans (by rw [hs, e]; exact Flt.word_eq y hy)
theorem ends_of_sv {lo hi d u : Nat} (h1 : lo < 2 ^ 64) (h2 : hi < 2 ^ 64) (h3 : d < 2 ^ 64) (h4 : u < 2 ^ 64) (a : Flt.sv lo = Flt.sv d) (b : Flt.sv hi = Flt.sv u) : endsF lo hi = endsF d u := by
  obtain ⟨a1, a2⟩ := pz_of_sv h1 h3 a
  obtain ⟨b1, b2⟩ := pz_of_sv h2 h4 b
  unfold endsF
  rw [a1, a2, b1, b2]
end Go.Proofs.YtjcjphgpmpjmbaaGreatDoor
