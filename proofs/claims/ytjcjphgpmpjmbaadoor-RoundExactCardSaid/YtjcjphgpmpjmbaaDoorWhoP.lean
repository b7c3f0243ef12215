/-
  Fractions between floats, plainly; what is beside what is beside.
  RoundWhole and RoundExact, plainly: what sums are worth; a box of the walk's that holds a fraction; a row of floats' fractions.
-/
import Derived.Test.YtjcjphgpmpjmbaaDoorTzG
import Derived.Test.YtjcjphgpmpjmbaaDoorSpnR
import Derived.Test.YtjcjphgpmpjmbaaDoorSpnP
import Derived.Test.YtjcjphgpmpjmbaaDoorExX
import Derived.Test.YtjcjphgpmpjmbaaDoorEdgU
import Derived.Test.YtjcjphgpmpjmbaaDoorRoot
import Derived.Test.YtjcjphgpmpjmbaaDoorWth
import Derived.Test.YtjcjphgpmpjmbaaDoorAnD
namespace Go.Proofs.YtjcjphgpmpjmbaaDoor
open Go.RowKit

theorem sub_nan {v t : Nat} (ht : IsOp Ieee.double.sub v v t) (hf : ¬ Flt.Fin v) : Flt.nanB t = true := by
  obtain ⟨_, h⟩ := ht
  rw [Flt.sub_eq] at h
  have hn : Flt.Nan t := by
    by_cases hi : Flt.rg v = Flt.inf
    · rw [Flt.add_inf_both hi (by rw [Flt.rg_opp]; exact hi), Flt.sgn_opp, if_neg (by cases Flt.sgn v <;> simp)] at h
      exact h
    · rw [Flt.add_nan_left (by unfold Flt.Fin at hf; unfold Flt.Nan; omega)] at h
      exact h
  exact Flt.nanB_iff.2 hn
theorem fr_wide (v : Nat) (r : Rat) : fr v = Rat.divInt (Flt.sv v * (r.den : Int)) (((2 ^ Flt.K74 : Nat) : Int) * (r.den : Int)) ∧ r = Rat.divInt (r.num * ((2 ^ Flt.K74 : Nat) : Int)) (((2 ^ Flt.K74 : Nat) : Int) * (r.den : Int)) := by
  constructor
  · unfold fr
    rw [Rat.divInt_mul_right (den_ne r)]
  · rw [Int.mul_comm ((2 ^ Flt.K74 : Nat) : Int) (r.den : Int), Rat.divInt_mul_right unit_ne]
    exact (Rat.num_divInt_den r).symm
theorem wide_pos (r : Rat) : 0 < ((2 ^ Flt.K74 : Nat) : Int) * (r.den : Int) := by
  refine Int.mul_pos ?_ ?_
  · have := Nat.two_pow_pos Flt.K74; omega
  · have := r.den_nz; omega
theorem fr_lt {v : Nat} {r : Rat} : fr v < r ↔ Flt.sv v * (r.den : Int) < r.num * ((2 ^ Flt.K74 : Nat) : Int) := by
  obtain ⟨h1, h2⟩ := fr_wide v r
  have h3 := divInt_lt (a := Flt.sv v * (r.den : Int)) (b := r.num * ((2 ^ Flt.K74 : Nat) : Int)) (wide_pos r)
  rw [← h1, ← h2] at h3
  exact h3
theorem lt_fr {v : Nat} {r : Rat} : r < fr v ↔ r.num * ((2 ^ Flt.K74 : Nat) : Int) < Flt.sv v * (r.den : Int) := by
  obtain ⟨h1, h2⟩ := fr_wide v r
  have h3 := divInt_lt (a := r.num * ((2 ^ Flt.K74 : Nat) : Int)) (b := Flt.sv v * (r.den : Int)) (wide_pos r)
  rw [← h1, ← h2] at h3
  exact h3
theorem rcmp_below {v : Nat} {r : Rat} (h : Flt.sv v * (r.den : Int) < r.num * ((2 ^ Flt.K74 : Nat) : Int)) : rcmp (fr v) r = -1 := by
  unfold rcmp
  rw [if_pos (fr_lt.2 h)]
theorem rcmp_above {v : Nat} {r : Rat} (h : r.num * ((2 ^ Flt.K74 : Nat) : Int) < Flt.sv v * (r.den : Int)) : rcmp (fr v) r = 1 := by
  unfold rcmp
  rw [if_neg (fun k => by have := fr_lt.1 k; omega), if_pos (lt_fr.2 h)]
theorem rcmp_same {v : Nat} {r : Rat} (h : Flt.sv v * (r.den : Int) = r.num * ((2 ^ Flt.K74 : Nat) : Int)) : rcmp (fr v) r = 0 := by
  unfold rcmp
  rw [if_neg (fun k => by have := fr_lt.1 k; omega), if_neg (fun k => by have := lt_fr.1 k; omega)]
theorem nan_le {x : Nat} (h : Flt.rg x ≤ Flt.inf) : ¬ Flt.Nan x ∧ Flt.nanB x = false := by
  have : ¬ Flt.Nan x := by unfold Flt.Nan; omega
  exact ⟨this, by
    cases hb : Flt.nanB x with
    | false => rfl
    | true => exact absurd (Flt.nanB_iff.1 hb) this⟩
theorem infB_rg {x : Nat} (h : Flt.infB x = true) : Flt.rg x = Flt.inf := by unfold Flt.infB at h; simpa using h
/-- Where a float and an exact result stand to one another. -/
theorem btw_of {r : Rat} {d u : Nat} (h : Down (r.num * ((2 ^ Flt.K74 : Nat) : Int)) r.den d) (k : Up (r.num * ((2 ^ Flt.K74 : Nat) : Int)) r.den u) :
    Flt.nanB d = false ∧ Flt.nanB u = false ∧ (Flt.infB d = true → Flt.sgn d = true) ∧ (Flt.infB u = true → Flt.sgn u = false) ∧ ∃ L H : Int, (Flt.Fin d → rcmp (fr d) r = L) ∧ (¬ Flt.Fin d → L = -1) ∧ (Flt.Fin u → rcmp (fr u) r = H) ∧ (¬ Flt.Fin u → H = 1) ∧
      ((L = 0 ∧ H = 0 ∧ (Ieee.double.order d u == some .eq) = true) ∨ (L = -1 ∧ H = 1 ∧ (Ieee.double.order d u == some .eq) = false)) := by
  have hn : 0 < r.den := Nat.pos_of_ne_zero r.den_nz
  obtain ⟨n1, n1'⟩ := nan_le h.2.1
  obtain ⟨n2, n2'⟩ := nan_le k.2.1
  refine ⟨n1', n2', fun e => h.2.2.2.1 (infB_rg e), fun e => k.2.2.2.1 (infB_rg e), ?_⟩
  rw [Flt.eq_spec n1 n2]
  generalize hZ : r.num * ((2 ^ Flt.K74 : Nat) : Int) = Z at h k
  by_cases hx : Flt.Fin d ∧ Flt.sv d * (r.den : Int) = Z
  · have e1 := k.exact hn hx.1 hx.2
    have f1 := k.finite hx.1 (by omega)
    refine ⟨0, 0, fun _ => rcmp_same (by rw [hZ]; exact hx.2), fun c => absurd hx.1 c, fun _ => rcmp_same (by rw [hZ, e1]; exact hx.2), fun c => absurd f1 c, .inl ⟨rfl, rfl, by simp [e1]⟩⟩
  · refine ⟨-1, 1, fun c => rcmp_below ?_, fun _ => rfl, fun c => rcmp_above ?_, fun _ => rfl, .inr ⟨rfl, rfl, decide_eq_false fun e => ?_⟩⟩
    · have := h.2.2.1 c
      rw [hZ]
      rcases Int.lt_or_eq_of_le this with q | q
      · exact q
      · exact absurd ⟨c, q⟩ hx
    · have := k.2.2.1 c
      rw [hZ]
      rcases Int.lt_or_eq_of_le this with q | q
      · exact q
      · have e1 := h.exact hn c q.symm
        exact absurd ⟨h.finite c (by omega), by rw [e1]; exact q.symm⟩ hx
    · rcases fin_or_inf h.2.1 with f1 | i1
      · have f2 := k.finite f1 (by omega)
        have a := h.2.2.1 f1
        have b := k.2.2.1 f2
        rw [← e] at b
        exact hx ⟨f1, by omega⟩
      · have s1 := sv_inf i1
        rw [h.2.2.2.1 i1, if_pos rfl] at s1
        rcases fin_or_inf k.2.1 with f2 | i2
        · have := (sv_fin f2).1
          omega
        · have s2 := sv_inf i2
          rw [k.2.2.2.1 i2, if_neg (by simp)] at s2
          have := Flt.val_lt (show 0 < Flt.inf by rw [Flt.inf_eq]; omega)
          omega
end Go.Proofs.YtjcjphgpmpjmbaaDoor

namespace Go.Proofs.YtjcjphgpmpjmbaaDoor
open Go.RowKit

theorem fr_rat (v : Nat) : fr v = (Flt.sv v : Rat) / ((2 ^ Flt.K74 : Nat) : Rat) := by
  unfold fr
  rw [Rat.divInt_eq_div]
  rfl
/-! ### a box that holds a fraction -/
def BoxF (w0 : World) (r : Rat) (v : Value) (wx : World) : Prop :=
  ∃ (g : Nat) (neg : Bool) (A : Option Addr) (n c : Nat) (l : List Nat) (neg' : Bool) (A' : Option Addr) (n' c' : Nat) (l' : List Nat), v = .pointer (some ⟨g, 0, none⟩) ∧ Blk wx g [.bool neg, .slice A n c, .bool neg', .slice A' n' c'] ∧ OkF wx ((neg, A, n, c, l), (neg', A', n', c', l')) r ∧ Below w0.heap.size w0 wx
theorem BoxF.of {w0 wx : World} {r : Rat} {g : Nat} {neg neg' : Bool} {A A' : Option Addr} {n c n' c' : Nat} {L : List (Nat × List Value)} (h : Mm w0 ((g, [.bool neg, .slice A n c, .bool neg', .slice A' n' c']) :: L) [(neg, A, n, c, r.num), (neg', A', n', c', (r.den : Int))] wx) (hs : Sz r 2048) : BoxF w0 r (.pointer (some ⟨g, 0, none⟩)) wx := by
  obtain ⟨l, l', hO⟩ := okF_of (h.at_ (neg := neg) (A := A) (n := n) (c := c) (z := r.num) (by simp)) (h.at_ (neg := neg') (A := A') (n := n') (c := c') (z := (r.den : Int)) (by simp)) hs
  exact ⟨g, neg, A, n, c, l, neg', A', n', c', l', rfl, h.blk (by simp), hO, h.1⟩
/-- One of a row's fractions. -/
theorem frs_ok {w : World} {g N : Nat} {F : Nat → FrE} {v : Nat} (h : Frs w g N F) (i : Nat) (hi : i < N) (hV : (F i).2.2 = fr v) (hf : Flt.Fin v) :
    ∃ (neg : Bool) (A : Option Addr) (n c : Nat) (l : List Nat) (neg' : Bool) (A' : Option Addr) (n' c' : Nat) (l' : List Nat), w.cell? ⟨g, i * 4, none⟩ = some (.bool neg) ∧ w.cell? ⟨g, i * 4 + 1, none⟩ = some (.slice A n c) ∧ w.cell? ⟨g, i * 4 + 2, none⟩ = some (.bool neg') ∧ w.cell? ⟨g, i * 4 + 3, none⟩ = some (.slice A' n' c') ∧ OkF w ((neg, A, n, c, l), (neg', A', n', c', l')) (fr v) := by
  obtain ⟨⟨h0, h1, h2, h3⟩, h4⟩ := h.2 i hi
  obtain ⟨⟨⟨s1, A1, n1, p1⟩, ⟨s2, A2, n2, p2⟩, y⟩, hy⟩ : ∃ f, F i = f := ⟨_, rfl⟩
  rw [hy] at h0 h1 h2 h3 h4 hV
  have hV' : y = fr v := hV
  have k1 : IsInt w s1 A1 n1 p1 y.num := h4.1
  have k2 : IsInt w s2 A2 n2 p2 (y.den : Int) := h4.2
  rw [hV'] at k1 k2
  obtain ⟨l1, l2, O1⟩ := okF_of k1 k2 ((fr_sz hf).mono (by decide))
  exact ⟨s1, A1, n1, p1, l1, s2, A2, n2, p2, l2, h0, h1, h2, h3, O1⟩
theorem two_floats (w : World) (x y : Nat) (t : TypeId) (hx : x < 2 ^ 64) (hy : y < 2 ^ 64) (i : Nat) (hi : i < 2) : (w.alloc (.cells #[.float .f64 x, .float .f64 y] t)).cell? ⟨w.heap.size, i, none⟩ = some (.float .f64 ((fun i => if i = 0 then x else y) i)) ∧ (fun i => if i = 0 then x else y) i < 2 ^ 64 := by
  match i, hi with
  | 0, _ => exact ⟨by simp [go_sem], hx⟩
  | 1, _ => exact ⟨by simp [go_sem], hy⟩
end Go.Proofs.YtjcjphgpmpjmbaaDoor
