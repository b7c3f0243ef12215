/-
  RoundWhole and RoundExact, plainly: what sums are worth; a box of the walk's that holds a fraction; a row of floats' fractions.
-/
import Derived.Test.YtjcjphgpmpjmbaaDoorNeaP
import Derived.Test.YtjcjphgpmpjmbaaDoorWth
import Derived.Test.YtjcjphgpmpjmbaaDoorAnD
namespace Go.Proofs.YtjcjphgpmpjmbaaDoor
open Go.RowKit

theorem fin_args {x y s : Nat} (h : Flt.IsAdd x y s) (hs : Flt.Fin s) : Flt.Fin x ∧ Flt.Fin y := by
  obtain ⟨_, h2⟩ := h
  have hinf := Flt.inf_lt
  have nan : ∀ z, Flt.Nan z → ¬ Flt.Fin z := fun z h => Flt.not_fin_nan h
  have winf : ∀ t : Bool, ¬ Flt.Fin (Flt.word t Flt.inf) := fun t c => by
    unfold Flt.Fin at c
    rw [Flt.rg_word _ _ hinf] at c
    omega
  by_cases ny : Flt.Nan y
  · rw [Flt.add_nan_right ny] at h2
    exact absurd hs (nan _ h2)
  by_cases nx : Flt.Nan x
  · rw [Flt.add_nan_left nx] at h2
    exact absurd hs (nan _ h2)
  have cx : Flt.Fin x ∨ Flt.rg x = Flt.inf := by unfold Flt.Nan at nx; unfold Flt.Fin; omega
  have cy : Flt.Fin y ∨ Flt.rg y = Flt.inf := by unfold Flt.Nan at ny; unfold Flt.Fin; omega
  rcases cx with fx | ix
  · rcases cy with fy | iy
    · exact ⟨fx, fy⟩
    · rw [Flt.add_inf_right fx iy] at h2
      rw [show s = _ from h2] at hs
      exact absurd hs (winf _)
  · rcases cy with fy | iy
    · rw [Flt.add_inf_left ix fy] at h2
      rw [show s = _ from h2] at hs
      exact absurd hs (winf _)
    · rw [Flt.add_inf_both ix iy] at h2
      by_cases e : Flt.sgn x = Flt.sgn y
      · rw [if_pos e] at h2
        rw [show s = _ from h2] at hs
        exact absurd hs (winf _)
      · rw [if_neg e] at h2
        exact absurd hs (nan _ h2)
theorem same_sameB {s t : Nat} (h : Flt.Same s t) : Flt.sameB s t = true := by
  unfold Flt.sameB
  rcases h with rfl | ⟨a, b⟩
  · simp
  · rw [Flt.nanB_iff.2 a, Flt.nanB_iff.2 b]; simp
theorem fr_rat (v : Nat) : fr v = (Flt.sv v : Rat) / ((2 ^ Flt.K74 : Nat) : Rat) := by
  unfold fr
  rw [Rat.divInt_eq_div]
  rfl
theorem fr_sums {a b s l : Nat} (h : Flt.sv a + Flt.sv b = Flt.sv s + Flt.sv l) : fr a + fr b = fr s + fr l := by
  have hk : (0 : Rat) < ((2 ^ Flt.K74 : Nat) : Rat) := Rat.natCast_pos.2 (Nat.two_pow_pos _)
  have h2 : (Flt.sv a : Rat) + (Flt.sv b : Rat) = (Flt.sv s : Rat) + (Flt.sv l : Rat) := by
    rw [← Rat.intCast_add, ← Rat.intCast_add, h]
  rw [fr_rat, fr_rat, fr_rat, fr_rat]
  generalize ((2 ^ Flt.K74 : Nat) : Rat) = K at hk ⊢
  grind
theorem rcmp_self (x : Rat) : rcmp x x = 0 := by
  unfold rcmp
  rw [if_neg Rat.lt_irrefl, if_neg Rat.lt_irrefl]

/-! ### a box that holds a fraction -/
def BoxF (w0 : World) (r : Rat) (v : Value) (wx : World) : Prop :=
  ∃ (g : Nat) (neg : Bool) (A : Option Addr) (n c : Nat) (l : List Nat) (neg' : Bool) (A' : Option Addr) (n' c' : Nat) (l' : List Nat), v = .pointer (some ⟨g, 0, none⟩) ∧ Blk wx g [.bool neg, .slice A n c, .bool neg', .slice A' n' c'] ∧ OkF wx ((neg, A, n, c, l), (neg', A', n', c', l')) r ∧ Below w0.heap.size w0 wx
theorem BoxF.of {w0 wx : World} {r : Rat} {g : Nat} {neg neg' : Bool} {A A' : Option Addr} {n c n' c' : Nat} {L : List (Nat × List Value)} (h : Mm w0 ((g, [.bool neg, .slice A n c, .bool neg', .slice A' n' c']) :: L) [(neg, A, n, c, r.num), (neg', A', n', c', (r.den : Int))] wx) (hs : Sz r 2048) : BoxF w0 r (.pointer (some ⟨g, 0, none⟩)) wx := by
  obtain ⟨l, l', hO⟩ := okF_of (h.at_ (neg := neg) (A := A) (n := n) (c := c) (z := r.num) (by simp)) (h.at_ (neg := neg') (A := A') (n := n') (c := c') (z := (r.den : Int)) (by simp)) hs
  exact ⟨g, neg, A, n, c, l, neg', A', n', c', l', rfl, h.blk (by simp), hO, h.1⟩
/-- One of a row's fractions. -/
theorem frs_ok {w : World} {g N : Nat} {F : Nat → FrE} {v : Nat} (h : Frs w g N F) (i : Nat) (hi : i < N) (hV : (F i).2.2 = fr v) (hf : Flt.Fin v) :
    ∃ (neg : Bool) (A : Option Addr) (n c : Nat) (l : List Nat) (neg' : Bool) (A' : Option Addr) (n' c' : Nat) (l' : List Nat), w.cell? ⟨g, i * 4, none⟩ = some (.bool neg) ∧ w.cell? ⟨g, i * 4 + 1, none⟩ = some (.slice A n c) ∧ w.cell? ⟨g, i * 4 + 2, none⟩ = some (.bool neg') ∧ w.cell? ⟨g, i * 4 + 3, none⟩ = some (.slice A' n' c') ∧ OkF w ((neg, A, n, c, l), (neg', A', n', c', l')) (fr v) := by
  obtain ⟨⟨h0, h1, h2, h3⟩, h4⟩ := h.2 i hi
  obtain ⟨⟨⟨s1, A1, n1, p1⟩, ⟨s2, A2, n2, p2⟩, y⟩, hy⟩ : ∃ f, F i = f := ⟨_, rfl⟩
  rw [hy] at h0 h1 h2 h3 h4 hV
  have hV' : y = fr v := hV
  have k1 : IsInt w s1 A1 n1 p1 y.num := h4.1
  have k2 : IsInt w s2 A2 n2 p2 (y.den : Int) := h4.2
  rw [hV'] at k1 k2
  obtain ⟨l1, l2, O1⟩ := okF_of k1 k2 ((fr_sz hf).mono (by decide))
  exact ⟨s1, A1, n1, p1, l1, s2, A2, n2, p2, l2, h0, h1, h2, h3, O1⟩
theorem four_floats (w : World) (a b c d : Nat) (t : TypeId) (ha : a < 2 ^ 64) (hb : b < 2 ^ 64) (hc : c < 2 ^ 64) (hd : d < 2 ^ 64) (i : Nat) (hi : i < 4) : (w.alloc (.cells #[.float .f64 a, .float .f64 b, .float .f64 c, .float .f64 d] t)).cell? ⟨w.heap.size, i, none⟩ = some (.float .f64 ((fun i => if i = 0 then a else if i = 1 then b else if i = 2 then c else d) i)) ∧ (fun i => if i = 0 then a else if i = 1 then b else if i = 2 then c else d) i < 2 ^ 64 := by
  match i, hi with
  | 0, _ => exact ⟨by simp [go_sem], ha⟩
  | 1, _ => exact ⟨by simp [go_sem], hb⟩
  | 2, _ => exact ⟨by simp [go_sem], hc⟩
  | 3, _ => exact ⟨by simp [go_sem], hd⟩
end Go.Proofs.YtjcjphgpmpjmbaaDoor
