/-
  No number of a short fraction is too long (exact.Long, ratio.Long, ratio.Answer).
  What a float is worth as a fraction, plainly.
  What a float is worth, plainly: its whole part shifted down by the noughts at its end.
-/
import Derived.Test.YtjcjphgpmpjmbaaGreatDoorRaL
import Derived.Test.YtjcjphgpmpjmbaaGreatDoorRefW
import Derived.Test.YtjcjphgpmpjmbaaGreatDoorFlt
import Derived.Lib.TrailingZeros
namespace Go.Proofs.YtjcjphgpmpjmbaaGreatDoor
open Go.RowKit

set_option maxRecDepth 100000 in
theorem ex_long1_no (neg : Bool) (A : Option Addr) (n c : Nat) (w : World) (hn : n ≤ 2048) : Calls Tryz.prog 170 #[.agg #[.bool neg, .slice A n c]] w (RetV w (.bool false)) := by
  have hl : ¬ (2048 : Int) < (n : Int) := by omega
  go_enter Tryz.func170, Tryz.ntmps170
  go_wp2_with fail
  go_ret
  exact ⟨rfl, (Below.refl _ _).alloc (Nat.le_refl _) _⟩
set_option maxRecDepth 100000 in
set_option maxHeartbeats 800000 in
theorem index_no (g : Nat) (neg : Bool) (A : Option Addr) (n c : Nat) (w : World) (hg : g < w.heap.size) (c0 : w.cell? ⟨g, 0, none⟩ = some (.bool neg)) (c1 : w.cell? ⟨g, 1, none⟩ = some (.slice A n c)) (hn : n ≤ 2048) :
    Calls Tryz.prog 176 #[.slice (some ⟨g, 0, none⟩) 1 1, .func (.func 170) #[] #[]] w (RetV w (.int .i64 (-1))) := by
  go_enter Tryz.func176, Tryz.ntmps176
  go_wp2_with fail
  go_loopw [8] (fun i wr => ∃ k : Nat, k ≤ 1 ∧ i = .int .i64 (k : Int) ∧ Below w.heap.size w wr) (fun i _ => 1 - (intOf i).toNat)
  case atStart => exact ⟨0, Nat.zero_le _, rfl, Below.refl _ _⟩
  case round =>
    obtain ⟨k, hk, rfl, hb⟩ := hrel
    match k, hk with
    | 0, _ =>
      have d0 := (hb.cell (p := ⟨g, 0, none⟩) hg).trans c0
      have d1 := (hb.cell (p := ⟨g, 1, none⟩) hg).trans c1
      have hsz := hb.size
      go_wp2_with fail
      refine (ex_long1_no neg A n c _ hn).mono ?_
      rintro e1 w1 ⟨rfl, hb1⟩
      have hb2 := hb.trans (hb1.mono hsz)
      go_wp2_with fail
      refine ⟨⟨1, by decide, rfl, hb2⟩, ?_⟩
      simp [intOf]
    | 1, _ =>
      go_wp2_with fail
      go_ret
      exact ⟨rfl, hb⟩
theorem contains_no (g : Nat) (neg : Bool) (A : Option Addr) (n c : Nat) (w : World) (hg : g < w.heap.size) (c0 : w.cell? ⟨g, 0, none⟩ = some (.bool neg)) (c1 : w.cell? ⟨g, 1, none⟩ = some (.slice A n c)) (hn : n ≤ 2048) :
    Calls Tryz.prog 169 #[.slice (some ⟨g, 0, none⟩) 1 1, .func (.func 170) #[] #[]] w (RetV w (.bool false)) := by
  go_enter Tryz.func169, Tryz.ntmps169
  go_wp2_with fail
  refine (index_no g neg A n c _ hg c0 c1 hn).mono ?_
  rintro e1 w1 ⟨rfl, hb1⟩
  go_wp2_with fail
  go_ret
  exact ⟨rfl, hb1⟩
theorem ex_long_no (g : Nat) (neg : Bool) (A : Option Addr) (n c : Nat) (w : World) (hg : g < w.heap.size) (c0 : w.cell? ⟨g, 0, none⟩ = some (.bool neg)) (c1 : w.cell? ⟨g, 1, none⟩ = some (.slice A n c)) (hn : n ≤ 2048) :
    Calls Tryz.prog 164 #[.slice (some ⟨g, 0, none⟩) 1 1] w (RetV w (.bool false)) := by
  go_enter Tryz.func164, Tryz.ntmps164
  go_wp2_with fail
  refine (contains_no g neg A n c _ hg c0 c1 hn).mono ?_
  rintro e1 w1 ⟨rfl, hb1⟩
  go_wp2_with fail
  go_ret
  exact ⟨rfl, hb1⟩
set_option maxRecDepth 100000 in
set_option maxHeartbeats 1600000 in
theorem rat_long_no (g : Nat) (neg neg' : Bool) (A A' : Option Addr) (n c n' c' : Nat) (w : World) (hg : g < w.heap.size) (c0 : w.cell? ⟨g, 0, none⟩ = some (.bool neg)) (c1 : w.cell? ⟨g, 1, none⟩ = some (.slice A n c)) (c2 : w.cell? ⟨g, 2, none⟩ = some (.bool neg')) (c3 : w.cell? ⟨g, 3, none⟩ = some (.slice A' n' c')) (hn : n ≤ 2048) (hn' : n' ≤ 2048) :
    Calls Tryz.prog 152 #[.slice (some ⟨g, 0, none⟩) 1 1] w (RetV w (.bool false)) := by
  go_enter Tryz.func152, Tryz.ntmps152
  go_wp2_with fail
  go_loopw [7] (fun i wr => ∃ k : Nat, k ≤ 1 ∧ i = .int .i64 (k : Int) ∧ Below w.heap.size w wr) (fun i _ => 1 - (intOf i).toNat)
  case atStart => exact ⟨0, Nat.zero_le _, rfl, Below.refl _ _⟩
  case round =>
    obtain ⟨k, hk, rfl, hb⟩ := hrel
    match k, hk with
    | 0, _ =>
      have d0 := (hb.cell (p := ⟨g, 0, none⟩) hg).trans c0
      have d1 := (hb.cell (p := ⟨g, 1, none⟩) hg).trans c1
      have d2 := (hb.cell (p := ⟨g, 2, none⟩) hg).trans c2
      have d3 := (hb.cell (p := ⟨g, 3, none⟩) hg).trans c3
      have hsz := hb.size
      have K0 := (Mm.nil wr).var (g := wr.heap.size) rfl [.bool neg, .slice A n c, .bool neg', .slice A' n' c'] 29
      go_upto_region 4 with (fail)
      generalize wr.alloc (.cells #[.bool neg, .slice A n c, .bool neg', .slice A' n' c'] 29) = w0 at K0 ⊢
      obtain ⟨⟨qa0, qb0, qc0, qd0⟩, _, _⟩ := (K0.blk (g := wr.heap.size) (vs := [.bool neg, .slice A n c, .bool neg', .slice A' n' c']) (by simp)).four
      go_wp2_with fail
      refine (ex_long_no w0.heap.size neg A n c _ (by simp) (by simp [go_sem]) (by simp [go_sem]) hn).mono ?_
      rintro e1 w1 ⟨rfl, hb1⟩
      have K1 := K0.next (below_box hb1)
      obtain ⟨⟨qa1, qb1, qc1, qd1⟩, _, _⟩ := (K1.blk (g := wr.heap.size) (vs := [.bool neg, .slice A n c, .bool neg', .slice A' n' c']) (by simp)).four
      clear K0 hb1 qa0 qb0 qc0 qd0
      go_wp2_with fail
      refine (ex_long_no w1.heap.size neg' A' n' c' _ (by simp) (by simp [go_sem]) (by simp [go_sem]) hn').mono ?_
      rintro e2 w2 ⟨rfl, hb2⟩
      have K2 := K1.next (below_box hb2)
      have hb3 := hb.trans (K2.1.mono hsz)
      clear K1 K2 hb2
      go_wp2_with fail
      refine ⟨⟨1, by decide, rfl, hb3⟩, ?_⟩
      simp [intOf]
    | 1, _ =>
      go_wp2_with fail
      go_ret
      exact ⟨rfl, hb⟩
theorem rat_answer_no (g : Nat) (neg neg' : Bool) (A A' : Option Addr) (n c n' c' : Nat) (w : World) (hg : g < w.heap.size) (c0 : w.cell? ⟨g, 0, none⟩ = some (.bool neg)) (c1 : w.cell? ⟨g, 1, none⟩ = some (.slice A n c)) (c2 : w.cell? ⟨g, 2, none⟩ = some (.bool neg')) (c3 : w.cell? ⟨g, 3, none⟩ = some (.slice A' n' c')) (hn : n ≤ 2048) (hn' : n' ≤ 2048) :
    Calls Tryz.prog 127 #[.slice (some ⟨g, 0, none⟩) 1 1] w (RetV w (.int .i64 0)) := by
  go_enter Tryz.func127, Tryz.ntmps127
  go_wp2_with fail
  refine (rat_long_no g neg neg' A A' n c n' c' _ hg c0 c1 c2 c3 hn hn').mono ?_
  rintro e1 w1 ⟨rfl, hb1⟩
  go_wp2_with fail
  go_ret
  exact ⟨rfl, hb1⟩
end Go.Proofs.YtjcjphgpmpjmbaaGreatDoor

namespace Go.Proofs.YtjcjphgpmpjmbaaGreatDoor
open Go.RowKit

theorem frac_is {s D n : Int} {d : Nat} (hd : d ≠ 0) (hD : D ≠ 0) (hc : Nat.Coprime n.natAbs d) (h : n * D = s * (d : Int)) : (Rat.divInt s D).num = n ∧ (Rat.divInt s D).den = d := by
  have e : (⟨n, d, hd, hc⟩ : Rat) = Rat.divInt s D := by
    rw [← Rat.num_divInt_den ⟨n, d, hd, hc⟩]
    exact (Rat.divInt_eq_divInt_iff (by show (d : Int) ≠ 0; omega) hD).2 h
  rw [← e]
  exact ⟨rfl, rfl⟩
/-- What a finite float is worth. -/
def fr (v : Nat) : Rat := Rat.divInt (Flt.sv v) ((2 ^ Flt.K74 : Nat) : Int)
theorem unit_ne : ((2 ^ Flt.K74 : Nat) : Int) ≠ 0 := by have := Nat.two_pow_pos Flt.K74; omega
theorem fr_whole {v : Nat} {z : Int} {E : Nat} (h : z * ((2 ^ E : Nat) : Int) = Flt.sv v) (hE : Flt.K74 ≤ E) : (fr v).num = z * ((2 ^ (E - Flt.K74) : Nat) : Int) ∧ (fr v).den = 1 := by
  refine frac_is (by decide) unit_ne (Nat.coprime_one_right _) ?_
  rw [← h, Int.mul_assoc, ← Int.natCast_mul, ← Nat.pow_add, show E - Flt.K74 + Flt.K74 = E by omega]
  omega
theorem odd_coprime {m : Nat} (h : m % 2 = 1) (k : Nat) : Nat.Coprime m (2 ^ k) := by
  apply Nat.Coprime.pow_right
  rw [Nat.coprime_iff_gcd_eq_one, Nat.gcd_comm, Nat.gcd_rec, h]
  exact Nat.gcd_one_left 2
theorem fr_odd {v : Nat} {z : Int} {E : Nat} (h : z * ((2 ^ E : Nat) : Int) = Flt.sv v) (hE : E < Flt.K74) (ho : z.natAbs % 2 = 1) : (fr v).num = z ∧ (fr v).den = 2 ^ (Flt.K74 - E) := by
  refine frac_is (by have := Nat.two_pow_pos (Flt.K74 - E); omega) unit_ne (odd_coprime ho _) ?_
  rw [← h, Int.mul_assoc, ← Int.natCast_mul, ← Nat.pow_add, show E + (Flt.K74 - E) = Flt.K74 by omega]
theorem fr_nought {v : Nat} (h : Flt.sv v = 0) : (fr v).num = 0 ∧ (fr v).den = 1 := by
  refine frac_is (by decide) unit_ne (Nat.coprime_one_right _) ?_
  rw [h, Int.zero_mul, Int.zero_mul]
/-- Of two fractions with one denominator above nought. -/
theorem divInt_lt {a b D : Int} (hD : 0 < D) : Rat.divInt a D < Rat.divInt b D ↔ a < b := by
  have h1 : (0 : Rat) < (D : Rat) := Rat.intCast_pos.2 hD
  rw [Rat.divInt_eq_div, Rat.divInt_eq_div, Rat.div_lt_iff h1, Rat.div_mul_cancel (fun h => by rw [h] at h1; exact absurd h1 (by decide)), Rat.intCast_lt_intCast]
end Go.Proofs.YtjcjphgpmpjmbaaGreatDoor

namespace Go.Proofs.YtjcjphgpmpjmbaaGreatDoor
open Go.RowKit

theorem ctzFrom_of : ∀ (j f m : Nat), j < f → Lib.ctzFrom f (2 ^ j * (2 * m + 1)) = j
  | j, 0, m, h => by omega
  | 0, f + 1, m, _ => by
    unfold Lib.ctzFrom
    rw [if_pos (by rw [Nat.pow_zero, Nat.one_mul]; omega)]
  | j + 1, f + 1, m, h => by
    unfold Lib.ctzFrom
    have e : 2 ^ (j + 1) * (2 * m + 1) = 2 * (2 ^ j * (2 * m + 1)) := by rw [Nat.pow_succ, Nat.mul_comm (2 ^ j) 2, Nat.mul_assoc]
    rw [if_neg (by rw [e]; omega), e, Nat.mul_div_cancel_left _ (by decide), ctzFrom_of j f m (by omega)]
    omega
theorem ctz_spec {Z : Nat} (h0 : 0 < Z) (h : Z < 2 ^ 64) : ∃ m, Z = 2 ^ Lib.ctz 64 Z * (2 * m + 1) ∧ Lib.ctz 64 Z < 64 := by
  have := Lib.ctzFrom_spec 64 Z h0 h
  unfold Lib.ctz
  rw [if_neg (by omega)]
  exact this
theorem ctzFrom_turned {n Z : Nat} (h0 : 0 < Z) (h : Z < 2 ^ n) : Lib.ctzFrom n (2 ^ n - Z) = Lib.ctzFrom n Z := by
  obtain ⟨m, hm, hk⟩ := Lib.ctzFrom_spec n Z h0 h
  generalize Lib.ctzFrom n Z = k at hm hk ⊢
  obtain ⟨d, rfl⟩ : ∃ d, n = k + (d + 1) := ⟨n - k - 1, by omega⟩
  rw [hm] at h
  have hlt : 2 * m + 1 < 2 ^ (d + 1) := by
    rw [Nat.pow_add] at h
    exact Nat.lt_of_mul_lt_mul_left h
  have e : 2 ^ (k + (d + 1)) - Z = 2 ^ k * (2 * (2 ^ d - m - 1) + 1) := by
    rw [hm, Nat.pow_add, ← Nat.mul_sub]
    congr 1
    rw [Nat.pow_succ] at hlt ⊢
    omega
  rw [e]
  exact ctzFrom_of k _ _ (by omega)
theorem ctz_turned {Z : Nat} (h0 : 0 < Z) (h : Z < 2 ^ 64) : Lib.ctz 64 (2 ^ 64 - Z) = Lib.ctz 64 Z := by
  unfold Lib.ctz
  rw [if_neg (by omega), if_neg (by omega)]
  exact ctzFrom_turned h0 h
/-- Of a float below 2 ^ 1074 units: its fraction in lowest terms. -/
theorem float_low {s : Bool} {x Z E k : Nat} (h : sgnd s Z * ((2 ^ E : Nat) : Int) = Flt.sv x) (h0 : 0 < Z) (hZ : Z < 2 ^ 64) (hE : E < 1074) (hk : k = min (Lib.ctz 64 Z) (1074 - E)) :
    (fr x).num = sgnd s Z / ((2 ^ k : Nat) : Int) ∧ (fr x).den = 2 ^ (1074 - E - k) := by
  obtain ⟨m, hm, hc⟩ := ctz_spec h0 hZ
  generalize Lib.ctz 64 Z = c at hm hc hk
  have hkc : k ≤ c := by omega
  obtain ⟨z, hz⟩ : ∃ z, Z = 2 ^ k * z := ⟨2 ^ (c - k) * (2 * m + 1), by rw [← Nat.mul_assoc, ← Nat.pow_add, show k + (c - k) = c by omega]; exact hm⟩
  have hp := Nat.two_pow_pos k
  have e1 : sgnd s Z = sgnd s z * ((2 ^ k : Nat) : Int) := by
    rw [hz, Nat.mul_comm]
    unfold sgnd
    cases s
    · simp [Int.natCast_mul]
    · simp [Int.natCast_mul, Int.neg_mul]
  have e2 : sgnd s Z / ((2 ^ k : Nat) : Int) = sgnd s z := by
    rw [e1]
    exact Int.mul_ediv_cancel _ (by omega)
  have e3 : sgnd s z * ((2 ^ (E + k) : Nat) : Int) = Flt.sv x := by
    rw [← h, e1, Int.mul_assoc, ← Int.natCast_mul, ← Nat.pow_add, Nat.add_comm k E]
  have e74 : Flt.K74 = 1074 := rfl
  rw [e2]
  rcases Nat.lt_or_ge (E + k) 1074 with hlt | hge
  · have hk2 : k = c := by omega
    have hodd : z = 2 * m + 1 := by
      rw [hz, hk2] at hm
      exact Nat.eq_of_mul_eq_mul_left (Nat.two_pow_pos c) hm
    obtain ⟨a, b⟩ := fr_odd e3 (by rw [e74]; exact hlt) (by unfold sgnd; cases s <;> simp <;> omega)
    refine ⟨a, ?_⟩
    rw [b, e74, Nat.sub_sub]
  · obtain ⟨a, b⟩ := fr_whole e3 (by rw [e74]; exact hge)
    have e5 : E + k = 1074 := by omega
    rw [e74, e5] at a
    refine ⟨by rw [a]; simp, ?_⟩
    rw [b, show 1074 - E - k = 0 by omega]
end Go.Proofs.YtjcjphgpmpjmbaaGreatDoor
