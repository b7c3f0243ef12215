/-
  No number of a short fraction is too long (exact.Long, ratio.Long, ratio.Answer).
  What a float is worth as a fraction, plainly.
-/
import Derived.Test.YtjcjphgpmpjmbaaDoorRaL
import Derived.Test.YtjcjphgpmpjmbaaDoorRefW
import Derived.Test.YtjcjphgpmpjmbaaDoorFlt
namespace Go.Proofs.YtjcjphgpmpjmbaaDoor
open Go.RowKit

set_option maxRecDepth 100000 in
theorem ex_long1_no (neg : Bool) (A : Option Addr) (n c : Nat) (w : World) (hn : n ≤ 2048) : Calls Tryd.prog 108 #[.agg #[.bool neg, .slice A n c]] w (RetV w (.bool false)) := by
  have hl : ¬ (2048 : Int) < (n : Int) := by omega
  go_enter Tryd.func108, Tryd.ntmps108
  go_wp2_with fail
  go_ret
  exact ⟨rfl, (Below.refl _ _).alloc (Nat.le_refl _) _⟩
set_option maxRecDepth 100000 in
set_option maxHeartbeats 800000 in
theorem index_no (g : Nat) (neg : Bool) (A : Option Addr) (n c : Nat) (w : World) (hg : g < w.heap.size) (c0 : w.cell? ⟨g, 0, none⟩ = some (.bool neg)) (c1 : w.cell? ⟨g, 1, none⟩ = some (.slice A n c)) (hn : n ≤ 2048) :
    Calls Tryd.prog 109 #[.slice (some ⟨g, 0, none⟩) 1 1, .func (.func 108) #[] #[]] w (RetV w (.int .i64 (-1))) := by
  go_enter Tryd.func109, Tryd.ntmps109
  go_wp2_with fail
  go_loopw [8] (fun i wr => ∃ k : Nat, k ≤ 1 ∧ i = .int .i64 (k : Int) ∧ Below w.heap.size w wr) (fun i _ => 1 - (intOf i).toNat)
  case atStart => exact ⟨0, Nat.zero_le _, rfl, Below.refl _ _⟩
  case round =>
    obtain ⟨k, hk, rfl, hb⟩ := hrel
    match k, hk with
    | 0, _ =>
      have d0 := (hb.cell (p := ⟨g, 0, none⟩) hg).trans c0
      have d1 := (hb.cell (p := ⟨g, 1, none⟩) hg).trans c1
      have hsz := hb.size
      go_wp2_with fail
      refine (ex_long1_no neg A n c _ hn).mono ?_
      rintro e1 w1 ⟨rfl, hb1⟩
      have hb2 := hb.trans (hb1.mono hsz)
      go_wp2_with fail
      refine ⟨⟨1, by decide, rfl, hb2⟩, ?_⟩
      simp [intOf]
    | 1, _ =>
      go_wp2_with fail
      go_ret
      exact ⟨rfl, hb⟩
theorem contains_no (g : Nat) (neg : Bool) (A : Option Addr) (n c : Nat) (w : World) (hg : g < w.heap.size) (c0 : w.cell? ⟨g, 0, none⟩ = some (.bool neg)) (c1 : w.cell? ⟨g, 1, none⟩ = some (.slice A n c)) (hn : n ≤ 2048) :
    Calls Tryd.prog 107 #[.slice (some ⟨g, 0, none⟩) 1 1, .func (.func 108) #[] #[]] w (RetV w (.bool false)) := by
  go_enter Tryd.func107, Tryd.ntmps107
  go_wp2_with fail
  refine (index_no g neg A n c _ hg c0 c1 hn).mono ?_
  rintro e1 w1 ⟨rfl, hb1⟩
  go_wp2_with fail
  go_ret
  exact ⟨rfl, hb1⟩
theorem ex_long_no (g : Nat) (neg : Bool) (A : Option Addr) (n c : Nat) (w : World) (hg : g < w.heap.size) (c0 : w.cell? ⟨g, 0, none⟩ = some (.bool neg)) (c1 : w.cell? ⟨g, 1, none⟩ = some (.slice A n c)) (hn : n ≤ 2048) :
    Calls Tryd.prog 103 #[.slice (some ⟨g, 0, none⟩) 1 1] w (RetV w (.bool false)) := by
  go_enter Tryd.func103, Tryd.ntmps103
  go_wp2_with fail
  refine (contains_no g neg A n c _ hg c0 c1 hn).mono ?_
  rintro e1 w1 ⟨rfl, hb1⟩
  go_wp2_with fail
  go_ret
  exact ⟨rfl, hb1⟩
set_option maxRecDepth 100000 in
set_option maxHeartbeats 1600000 in
theorem rat_long_no (g : Nat) (neg neg' : Bool) (A A' : Option Addr) (n c n' c' : Nat) (w : World) (hg : g < w.heap.size) (c0 : w.cell? ⟨g, 0, none⟩ = some (.bool neg)) (c1 : w.cell? ⟨g, 1, none⟩ = some (.slice A n c)) (c2 : w.cell? ⟨g, 2, none⟩ = some (.bool neg')) (c3 : w.cell? ⟨g, 3, none⟩ = some (.slice A' n' c')) (hn : n ≤ 2048) (hn' : n' ≤ 2048) :
    Calls Tryd.prog 100 #[.slice (some ⟨g, 0, none⟩) 1 1] w (RetV w (.bool false)) := by
  go_enter Tryd.func100, Tryd.ntmps100
  go_wp2_with fail
  go_loopw [7] (fun i wr => ∃ k : Nat, k ≤ 1 ∧ i = .int .i64 (k : Int) ∧ Below w.heap.size w wr) (fun i _ => 1 - (intOf i).toNat)
  case atStart => exact ⟨0, Nat.zero_le _, rfl, Below.refl _ _⟩
  case round =>
    obtain ⟨k, hk, rfl, hb⟩ := hrel
    match k, hk with
    | 0, _ =>
      have d0 := (hb.cell (p := ⟨g, 0, none⟩) hg).trans c0
      have d1 := (hb.cell (p := ⟨g, 1, none⟩) hg).trans c1
      have d2 := (hb.cell (p := ⟨g, 2, none⟩) hg).trans c2
      have d3 := (hb.cell (p := ⟨g, 3, none⟩) hg).trans c3
      have hsz := hb.size
      have K0 := (Mm.nil wr).var (g := wr.heap.size) rfl [.bool neg, .slice A n c, .bool neg', .slice A' n' c'] 26
      go_upto_region 4 with (fail)
      generalize wr.alloc (.cells #[.bool neg, .slice A n c, .bool neg', .slice A' n' c'] 26) = w0 at K0 ⊢
      obtain ⟨⟨qa0, qb0, qc0, qd0⟩, _, _⟩ := (K0.blk (g := wr.heap.size) (vs := [.bool neg, .slice A n c, .bool neg', .slice A' n' c']) (by simp)).four
      go_wp2_with fail
      refine (ex_long_no w0.heap.size neg A n c _ (by simp) (by simp [go_sem]) (by simp [go_sem]) hn).mono ?_
      rintro e1 w1 ⟨rfl, hb1⟩
      have K1 := K0.next (below_box hb1)
      obtain ⟨⟨qa1, qb1, qc1, qd1⟩, _, _⟩ := (K1.blk (g := wr.heap.size) (vs := [.bool neg, .slice A n c, .bool neg', .slice A' n' c']) (by simp)).four
      clear K0 hb1 qa0 qb0 qc0 qd0
      go_wp2_with fail
      refine (ex_long_no w1.heap.size neg' A' n' c' _ (by simp) (by simp [go_sem]) (by simp [go_sem]) hn').mono ?_
      rintro e2 w2 ⟨rfl, hb2⟩
      have K2 := K1.next (below_box hb2)
      have hb3 := hb.trans (K2.1.mono hsz)
      clear K1 K2 hb2
      go_wp2_with fail
      refine ⟨⟨1, by decide, rfl, hb3⟩, ?_⟩
      simp [intOf]
    | 1, _ =>
      go_wp2_with fail
      go_ret
      exact ⟨rfl, hb⟩
theorem rat_answer_no (g : Nat) (neg neg' : Bool) (A A' : Option Addr) (n c n' c' : Nat) (w : World) (hg : g < w.heap.size) (c0 : w.cell? ⟨g, 0, none⟩ = some (.bool neg)) (c1 : w.cell? ⟨g, 1, none⟩ = some (.slice A n c)) (c2 : w.cell? ⟨g, 2, none⟩ = some (.bool neg')) (c3 : w.cell? ⟨g, 3, none⟩ = some (.slice A' n' c')) (hn : n ≤ 2048) (hn' : n' ≤ 2048) :
    Calls Tryd.prog 91 #[.slice (some ⟨g, 0, none⟩) 1 1] w (RetV w (.int .i64 0)) := by
  go_enter Tryd.func91, Tryd.ntmps91
  go_wp2_with fail
  refine (rat_long_no g neg neg' A A' n c n' c' _ hg c0 c1 c2 c3 hn hn').mono ?_
  rintro e1 w1 ⟨rfl, hb1⟩
  go_wp2_with fail
  go_ret
  exact ⟨rfl, hb1⟩
end Go.Proofs.YtjcjphgpmpjmbaaDoor

namespace Go.Proofs.YtjcjphgpmpjmbaaDoor
open Go.RowKit

theorem frac_is {s D n : Int} {d : Nat} (hd : d ≠ 0) (hD : D ≠ 0) (hc : Nat.Coprime n.natAbs d) (h : n * D = s * (d : Int)) : (Rat.divInt s D).num = n ∧ (Rat.divInt s D).den = d := by
  have e : (⟨n, d, hd, hc⟩ : Rat) = Rat.divInt s D := by
    rw [← Rat.num_divInt_den ⟨n, d, hd, hc⟩]
    exact (Rat.divInt_eq_divInt_iff (by show (d : Int) ≠ 0; omega) hD).2 h
  rw [← e]
  exact ⟨rfl, rfl⟩
/-- What a finite float is worth. -/
def fr (v : Nat) : Rat := Rat.divInt (Flt.sv v) ((2 ^ Flt.K74 : Nat) : Int)
theorem unit_ne : ((2 ^ Flt.K74 : Nat) : Int) ≠ 0 := by have := Nat.two_pow_pos Flt.K74; omega
theorem fr_whole {v : Nat} {z : Int} {E : Nat} (h : z * ((2 ^ E : Nat) : Int) = Flt.sv v) (hE : Flt.K74 ≤ E) : (fr v).num = z * ((2 ^ (E - Flt.K74) : Nat) : Int) ∧ (fr v).den = 1 := by
  refine frac_is (by decide) unit_ne (Nat.coprime_one_right _) ?_
  rw [← h, Int.mul_assoc, ← Int.natCast_mul, ← Nat.pow_add, show E - Flt.K74 + Flt.K74 = E by omega]
  omega
theorem odd_coprime {m : Nat} (h : m % 2 = 1) (k : Nat) : Nat.Coprime m (2 ^ k) := by
  apply Nat.Coprime.pow_right
  rw [Nat.coprime_iff_gcd_eq_one, Nat.gcd_comm, Nat.gcd_rec, h]
  exact Nat.gcd_one_left 2
theorem fr_odd {v : Nat} {z : Int} {E : Nat} (h : z * ((2 ^ E : Nat) : Int) = Flt.sv v) (hE : E < Flt.K74) (ho : z.natAbs % 2 = 1) : (fr v).num = z ∧ (fr v).den = 2 ^ (Flt.K74 - E) := by
  refine frac_is (by have := Nat.two_pow_pos (Flt.K74 - E); omega) unit_ne (odd_coprime ho _) ?_
  rw [← h, Int.mul_assoc, ← Int.natCast_mul, ← Nat.pow_add, show E + (Flt.K74 - E) = Flt.K74 by omega]
theorem fr_nought {v : Nat} (h : Flt.sv v = 0) : (fr v).num = 0 ∧ (fr v).den = 1 := by
  refine frac_is (by decide) unit_ne (Nat.coprime_one_right _) ?_
  rw [h, Int.zero_mul, Int.zero_mul]
/-- Of two fractions with one denominator above nought. -/
theorem divInt_lt {a b D : Int} (hD : 0 < D) : Rat.divInt a D < Rat.divInt b D ↔ a < b := by
  have h1 : (0 : Rat) < (D : Rat) := Rat.intCast_pos.2 hD
  rw [Rat.divInt_eq_div, Rat.divInt_eq_div, Rat.div_lt_iff h1, Rat.div_mul_cancel (fun h => by rw [h] at h1; exact absurd h1 (by decide)), Rat.intCast_lt_intCast]
end Go.Proofs.YtjcjphgpmpjmbaaDoor
