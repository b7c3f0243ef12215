/-
  Discs of turns: points, widths; the row of discs, plainly.
-/
import Derived.Test.YtdmdaoginojalaaGreatDoorDtA
import Derived.Test.YtdmdaoginojalaaGreatDoorMem
import Derived.Test.YtdmdaoginojalaaGreatDoorSqW
import Derived.Test.YtdmdaoginojalaaGreatDoorSpnL
namespace Go.Proofs.YtdmdaoginojalaaGreatDoor
open Go.RowKit

theorem point_any (v : Nat) (w : World) : Calls Tryz.prog 155 #[.float .f64 v] w (RetV w (.agg #[.float .f64 v, .float .f64 v])) := by
  go_enter Tryz.func155, Tryz.ntmps155
  go_wp2_with fail
  exact bodyPost_ret (v := .agg #[.float .f64 v, .float .f64 v]) (by simp [results, Tryz.results155, go_sem]) rfl ⟨rfl, (Below.refl _ _).alloc (Nat.le_refl _) _⟩
/-- How wide a span is, up. -/
def WideR (p : Nat × Nat) (u : Nat) : Prop := ∃ d, IsSum p.2 (Flt.opp p.1) d u
def RetUp (W : World) (P : Nat → Prop) (e : Ending) (w' : World) : Prop := ∃ u, e = .returned (.float .f64 u) ∧ P u ∧ Below W.heap.size W w'
theorem wide_any (a b : Nat) (ha : a < 2 ^ 64) (hb : b < 2 ^ 64) (w : World) : Calls Tryz.prog 161 #[.agg #[.float .f64 a, .float .f64 b]] w (RetUp w (WideR (a, b))) := by
  have K0 := (Mm.nil w).var (g := w.heap.size) rfl [.float .f64 a, .float .f64 b] 155
  go_enter Tryz.func161, Tryz.ntmps161
  go_wp2_with fail
  refine (rnd_sub_any b a hb ha _).mono ?_
  rintro e1 w1 ⟨d, u, rfl, hs, hb1⟩
  have HS := Lib.hid hs
  clear hs
  go_wp2_with fail
  go_ret
  exact ⟨u, rfl, ⟨d, HS.out⟩, (K0.next hb1).1⟩
/-- A step's spans (cosine, sine) and radius. -/
abbrev Dt := (Nat × Nat) × (Nat × Nat) × Nat
def DStep (x y : Dt) : Prop := ∃ a b m : Nat × Nat,
  IsSpan (okS 4607182418800017408 4607182418800017408 && okS x.1.1 x.1.2) (addL 4607182418800017408 4607182418800017408 x.1.1 x.1.2) (addH 4607182418800017408 4607182418800017408 x.1.1 x.1.2) (a.1, a.2, 0) ∧
  IsQuot (okS a.1 a.2 && okS 4611686018427387904 4611686018427387904) (zB 4611686018427387904 4611686018427387904) (quoC a.1 a.2 4611686018427387904 4611686018427387904) (quoC a.1 a.2 4611686018427387904 4611686018427387904) (b.1, b.2, 0) ∧
  (∃ lo lu hd hi, IsRoot (pz (mx b.1 0)) lo lu ∧ IsRoot (pz b.2) hd hi ∧ (y.1.1, y.1.2, (0 : Int)) = endsF lo hi) ∧
  IsSpan (okS 4611686018427387904 4611686018427387904 && okS y.1.1 y.1.2) (mulC 4611686018427387904 4611686018427387904 y.1.1 y.1.2) (mulC 4611686018427387904 4611686018427387904 y.1.1 y.1.2) (m.1, m.2, 0) ∧
  IsQuot (okS x.2.1.1 x.2.1.2 && okS m.1 m.2) (zB m.1 m.2) (quoC x.2.1.1 x.2.1.2 m.1 m.2) (quoC x.2.1.1 x.2.1.2 m.1 m.2) (y.2.1.1, y.2.1.2, 0) ∧
  ∃ u v d, WideR y.1 u ∧ WideR y.2.1 v ∧ IsSum u v d y.2.2
def Steps (F : Nat → Dt) (k : Nat) : Prop := (F 2).1 = (0, 0) ∧ (F 2).2.1 = (4607182418800017408, 4607182418800017408) ∧ ∀ j, 3 ≤ j → j < k → DStep (F (j - 1)) (F j)
def upd (F : Nat → Dt) (k : Nat) (d : Dt) : Nat → Dt := fun j => if j = k then d else F j
theorem Steps.more {F : Nat → Dt} {k : Nat} {d : Dt} (h : Steps F k) (hk : 3 ≤ k) (hd : DStep (F (k - 1)) d) : Steps (upd F k d) (k + 1) := by
  refine ⟨by unfold upd; rw [if_neg (by omega)]; exact h.1, by unfold upd; rw [if_neg (by omega)]; exact h.2.1, fun j h3 hj => ?_⟩
  unfold upd
  rw [if_neg (show ¬ j - 1 = k by omega)]
  by_cases e : j = k
  · subst e; rw [if_pos rfl]; exact hd
  · rw [if_neg e]; exact h.2.2 j h3 (by omega)
/-- The cells of the row of discs, those below k laid. -/
def dval (F : Nat → Dt) (k i : Nat) : Value :=
  if 3 ≤ i / 2 ∧ i / 2 < k then (if i % 2 = 0 then .complex .f64 (F (i / 2)).1.1 (F (i / 2)).2.1.1 else .float .f64 (F (i / 2)).2.2) else (if i % 2 = 0 then .complex .f64 0 0 else .float .f64 0)
def dvs (F : Nat → Dt) (k : Nat) : List Value := (List.range 34).map (dval F k)
theorem dvs_len (F : Nat → Dt) (k : Nat) : (dvs F k).length = 34 := by unfold dvs; simp
theorem dvs_get {F : Nat → Dt} {k i : Nat} (hi : i < 34) : (dvs F k)[i]? = some (dval F k i) := by
  unfold dvs
  rw [List.getElem?_map, List.getElem?_range hi]
  rfl
theorem dval_one {F : Nat → Dt} {k i : Nat} : (dval F k i).oneCell' = true ∧ ∀ x, dval F k i ≠ .int .u32 x := by
  unfold dval
  split <;> split <;> exact ⟨rfl, by simp⟩
theorem dvs_set {F : Nat → Dt} {k : Nat} {d : Dt} (h3 : 3 ≤ k) : ((dvs F k).set (k * 2) (.complex .f64 d.1.1 d.2.1.1)).set (k * 2 + 1) (.float .f64 d.2.2) = dvs (upd F k d) (k + 1) := by
  apply List.ext_getElem?
  intro i
  by_cases hi : i < 34
  · rw [dvs_get hi]
    by_cases e1 : i = k * 2 + 1
    · subst e1
      rw [List.getElem?_set_self (by rw [List.length_set, dvs_len]; omega)]
      unfold dval
      rw [show (k * 2 + 1) / 2 = k by omega, show (k * 2 + 1) % 2 = 1 by omega, if_pos ⟨h3, by omega⟩, if_neg (by decide)]
      unfold upd
      rw [if_pos rfl]
    · rw [List.getElem?_set_ne (by omega)]
      by_cases e2 : i = k * 2
      · subst e2
        rw [List.getElem?_set_self (by rw [dvs_len]; omega)]
        unfold dval
        rw [show k * 2 / 2 = k by omega, show k * 2 % 2 = 0 by omega, if_pos ⟨h3, by omega⟩, if_pos rfl]
        unfold upd
        rw [if_pos rfl]
      · rw [List.getElem?_set_ne (by omega), dvs_get hi]
        unfold dval upd
        have e : i / 2 ≠ k := by omega
        rw [if_neg e]
        by_cases hc : 3 ≤ i / 2 ∧ i / 2 < k
        · rw [if_pos hc, if_pos (show 3 ≤ i / 2 ∧ i / 2 < k + 1 by omega)]
        · rw [if_neg hc, if_neg (show ¬ (3 ≤ i / 2 ∧ i / 2 < k + 1) by omega)]
  · rw [List.getElem?_eq_none (by rw [List.length_set, List.length_set, dvs_len]; omega), List.getElem?_eq_none (by rw [dvs_len]; omega)]
theorem Blk.range {wr : World} {g : Nat} {vs : List Value} (h : Blk wr g vs) : wr.rangeAt g 0 vs := fun j v hv => by rw [Nat.zero_add]; exact (h.2 j v hv).1
theorem Blk.there {wr : World} {g : Nat} {vs : List Value} (h : Blk wr g vs) : wr.there g 0 vs.length := fun j hj => by
  have := h.2 j vs[j] (List.getElem?_eq_getElem hj)
  rw [Nat.zero_add]
  exact ⟨by rw [this.1]; rfl, this.2⟩
theorem below_setCells {base g : Nat} {w wr : World} (h : Below base w wr) (hg : base ≤ g) : ∀ (vs : List Value) (o : Nat), Below base w (wr.setCells g o vs)
  | [], _ => h
  | v :: vs, o => by
    have := below_setCells (h.setCell (p := ⟨g, o, none⟩) hg v) hg vs (o + 1)
    exact this
end Go.Proofs.YtdmdaoginojalaaGreatDoor
