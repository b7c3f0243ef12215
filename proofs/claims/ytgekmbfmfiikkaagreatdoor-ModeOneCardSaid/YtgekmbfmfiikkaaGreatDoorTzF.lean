/-
  No number of a short fraction is too long (exact.Long, ratio.Long, ratio.Answer).
  What a float is worth as a fraction, plainly.
  What a float is worth, plainly: its whole part shifted down by the noughts at its end.
  What a float is worth (ratio.FromFloat): the table of the library lies in its place.
-/
import Derived.Test.YtgekmbfmfiikkaaGreatDoorRaL
import Derived.Test.YtgekmbfmfiikkaaGreatDoorRefW
import Derived.Test.YtgekmbfmfiikkaaGreatDoorFlt
import Derived.Lib.TrailingZeros
import Derived.Test.YtgekmbfmfiikkaaGreatDoorExG
import Derived.Test.YtgekmbfmfiikkaaGreatDoorOwn
import Derived.Shelf.Spec.TrailingZeros
set_option maxHeartbeats 3200000
set_option maxRecDepth 100000
namespace Go.Proofs.YtgekmbfmfiikkaaGreatDoor
open Go.RowKit
theorem ex_long1_no (neg : Bool) (A : Option Addr) (n c : Nat) (w : World) (hn : n ≤ 2048) : Calls Tryz.prog 223 #[.agg #[.bool neg, .slice A n c]] w (RetV w (.bool false)) := by
 have hl : ¬ (2048 : Int) < (n : Int) := by omega
 go_enter Tryz.func223, Tryz.ntmps223
 go_wp2_with fail
 go_ret
 exact ⟨rfl, (Below.refl _ _).alloc (Nat.le_refl _) _⟩
theorem index_no (g : Nat) (neg : Bool) (A : Option Addr) (n c : Nat) (w : World) (hg : g < w.heap.size) (c0 : w.cell? ⟨g, 0, none⟩ = some (.bool neg)) (c1 : w.cell? ⟨g, 1, none⟩ = some (.slice A n c)) (hn : n ≤ 2048) :
  Calls Tryz.prog 280 #[.slice (some ⟨g, 0, none⟩) 1 1, .func (.func 223) #[] #[]] w (RetV w (.int .i64 (-1))) := by
 go_enter Tryz.func280, Tryz.ntmps280
 go_wp2_with fail
 go_loopw [8] (fun i wr => ∃ k : Nat, k ≤ 1 ∧ i = .int .i64 (k : Int) ∧ Below w.heap.size w wr) (fun i _ => 1 - (intOf i).toNat)
 case atStart => exact ⟨0, Nat.zero_le _, rfl, Below.refl _ _⟩
 case round =>
  obtain ⟨k, hk, rfl, hb⟩ := hrel
  match k, hk with
  | 0, _ =>
   have d0 := (hb.cell (p := ⟨g, 0, none⟩) hg).trans c0
   have d1 := (hb.cell (p := ⟨g, 1, none⟩) hg).trans c1
   have hsz := hb.size
   go_wp2_with fail
   refine (ex_long1_no neg A n c _ hn).mono ?_
   rintro e1 w1 ⟨rfl, hb1⟩
   have hb2 := hb.trans (hb1.mono hsz)
   go_wp2_with fail
   refine ⟨⟨1, by decide, rfl, hb2⟩, ?_⟩
   simp [intOf]
  | 1, _ =>
   go_wp2_with fail
   go_ret
   exact ⟨rfl, hb⟩
theorem contains_no (g : Nat) (neg : Bool) (A : Option Addr) (n c : Nat) (w : World) (hg : g < w.heap.size) (c0 : w.cell? ⟨g, 0, none⟩ = some (.bool neg)) (c1 : w.cell? ⟨g, 1, none⟩ = some (.slice A n c)) (hn : n ≤ 2048) :
  Calls Tryz.prog 222 #[.slice (some ⟨g, 0, none⟩) 1 1, .func (.func 223) #[] #[]] w (RetV w (.bool false)) := by
 go_enter Tryz.func222, Tryz.ntmps222
 go_wp2_with fail
 refine (index_no g neg A n c _ hg c0 c1 hn).mono ?_
 rintro e1 w1 ⟨rfl, hb1⟩
 go_wp2_with fail
 go_ret
 exact ⟨rfl, hb1⟩
theorem ex_long_no (g : Nat) (neg : Bool) (A : Option Addr) (n c : Nat) (w : World) (hg : g < w.heap.size) (c0 : w.cell? ⟨g, 0, none⟩ = some (.bool neg)) (c1 : w.cell? ⟨g, 1, none⟩ = some (.slice A n c)) (hn : n ≤ 2048) :
  Calls Tryz.prog 115 #[.slice (some ⟨g, 0, none⟩) 1 1] w (RetV w (.bool false)) := by
 go_enter Tryz.func115, Tryz.ntmps115
 go_wp2_with fail
 refine (contains_no g neg A n c _ hg c0 c1 hn).mono ?_
 rintro e1 w1 ⟨rfl, hb1⟩
 go_wp2_with fail
 go_ret
 exact ⟨rfl, hb1⟩
theorem rat_long_no (g : Nat) (neg neg' : Bool) (A A' : Option Addr) (n c n' c' : Nat) (w : World) (hg : g < w.heap.size) (c0 : w.cell? ⟨g, 0, none⟩ = some (.bool neg)) (c1 : w.cell? ⟨g, 1, none⟩ = some (.slice A n c)) (c2 : w.cell? ⟨g, 2, none⟩ = some (.bool neg')) (c3 : w.cell? ⟨g, 3, none⟩ = some (.slice A' n' c')) (hn : n ≤ 2048) (hn' : n' ≤ 2048) :
  Calls Tryz.prog 114 #[.slice (some ⟨g, 0, none⟩) 1 1] w (RetV w (.bool false)) := by
 go_enter Tryz.func114, Tryz.ntmps114
 go_wp2_with fail
 go_loopw [7] (fun i wr => ∃ k : Nat, k ≤ 1 ∧ i = .int .i64 (k : Int) ∧ Below w.heap.size w wr) (fun i _ => 1 - (intOf i).toNat)
 case atStart => exact ⟨0, Nat.zero_le _, rfl, Below.refl _ _⟩
 case round =>
  obtain ⟨k, hk, rfl, hb⟩ := hrel
  match k, hk with
  | 0, _ =>
   have d0 := (hb.cell (p := ⟨g, 0, none⟩) hg).trans c0
   have d1 := (hb.cell (p := ⟨g, 1, none⟩) hg).trans c1
   have d2 := (hb.cell (p := ⟨g, 2, none⟩) hg).trans c2
   have d3 := (hb.cell (p := ⟨g, 3, none⟩) hg).trans c3
   have hsz := hb.size
   have K0 := (Mm.nil wr).var (g := wr.heap.size) rfl [.bool neg, .slice A n c, .bool neg', .slice A' n' c'] 26
   go_upto_region 4 with (fail)
   generalize wr.alloc (.cells #[.bool neg, .slice A n c, .bool neg', .slice A' n' c'] 26) = w0 at K0 ⊢
   obtain ⟨⟨qa0, qb0, qc0, qd0⟩, _, _⟩ := (K0.blk (g := wr.heap.size) (by repeat constructor)).four
   go_wp2_with fail
   refine (ex_long_no w0.heap.size neg A n c _ (by simp) (by simp [go_sem]) (by simp [go_sem]) hn).mono ?_
   rintro e1 w1 ⟨rfl, hb1⟩
   have K1 := K0.next (below_box hb1)
   obtain ⟨⟨_, _, _, _⟩, _, _⟩ := (K1.blk (g := wr.heap.size) (by repeat constructor)).four
   clear K0 hb1 qa0 qb0 qc0 qd0
   go_wp2_with fail
   refine (ex_long_no w1.heap.size neg' A' n' c' _ (by simp) (by simp [go_sem]) (by simp [go_sem]) hn').mono ?_
   rintro e2 w2 ⟨rfl, hb2⟩
   have K2 := K1.next (below_box hb2)
   have hb3 := hb.trans (K2.1.mono hsz)
   clear K1 K2 hb2
   go_wp2_with fail
   refine ⟨⟨1, by decide, rfl, hb3⟩, ?_⟩
   simp [intOf]
  | 1, _ =>
   go_wp2_with fail
   go_ret
   exact ⟨rfl, hb⟩
theorem rat_answer_no (g : Nat) (neg neg' : Bool) (A A' : Option Addr) (n c n' c' : Nat) (w : World) (hg : g < w.heap.size) (c0 : w.cell? ⟨g, 0, none⟩ = some (.bool neg)) (c1 : w.cell? ⟨g, 1, none⟩ = some (.slice A n c)) (c2 : w.cell? ⟨g, 2, none⟩ = some (.bool neg')) (c3 : w.cell? ⟨g, 3, none⟩ = some (.slice A' n' c')) (hn : n ≤ 2048) (hn' : n' ≤ 2048) :
  Calls Tryz.prog 266 #[.slice (some ⟨g, 0, none⟩) 1 1] w (RetV w (.int .i64 0)) := by
 go_enter Tryz.func266, Tryz.ntmps266
 go_wp2_with fail
 refine (rat_long_no g neg neg' A A' n c n' c' _ hg c0 c1 c2 c3 hn hn').mono ?_
 rintro e1 w1 ⟨rfl, hb1⟩
 go_wp2_with fail
 go_ret
 exact ⟨rfl, hb1⟩
end Go.Proofs.YtgekmbfmfiikkaaGreatDoor
namespace Go.Proofs.YtgekmbfmfiikkaaGreatDoor
open Go.RowKit
theorem frac_is {s D n : Int} {d : Nat} (hd : d ≠ 0) (hD : D ≠ 0) (hc : Nat.Coprime n.natAbs d) (h : n * D = s * (d : Int)) : (Rat.divInt s D).num = n ∧ (Rat.divInt s D).den = d := by
 have e : (⟨n, d, hd, hc⟩ : Rat) = Rat.divInt s D := by
  rw [← Rat.num_divInt_den ⟨n, d, hd, hc⟩]
  exact (Rat.divInt_eq_divInt_iff (by show (d : Int) ≠ 0; omega) hD).2 h
 rw [← e]
 exact ⟨rfl, rfl⟩
def fr (v : Nat) : Rat := Rat.divInt (Flt.sv v) ((2 ^ Flt.K74 : Nat) : Int)
theorem unit_ne : ((2 ^ Flt.K74 : Nat) : Int) ≠ 0 := by have := Nat.two_pow_pos Flt.K74; omega
theorem fr_whole {v : Nat} {z : Int} {E : Nat} (h : z * ((2 ^ E : Nat) : Int) = Flt.sv v) (hE : Flt.K74 ≤ E) : (fr v).num = z * ((2 ^ (E - Flt.K74) : Nat) : Int) ∧ (fr v).den = 1 := by
 refine frac_is (by decide) unit_ne (Nat.coprime_one_right _) ?_
 rw [← h, Int.mul_assoc, ← Int.natCast_mul, ← Nat.pow_add, show E - Flt.K74 + Flt.K74 = E by omega]
 omega
theorem odd_coprime {m : Nat} (h : m % 2 = 1) (k : Nat) : Nat.Coprime m (2 ^ k) := by
 apply Nat.Coprime.pow_right
 rw [Nat.coprime_iff_gcd_eq_one, Nat.gcd_comm, Nat.gcd_rec, h]
 exact Nat.gcd_one_left 2
theorem fr_odd {v : Nat} {z : Int} {E : Nat} (h : z * ((2 ^ E : Nat) : Int) = Flt.sv v) (hE : E < Flt.K74) (ho : z.natAbs % 2 = 1) : (fr v).num = z ∧ (fr v).den = 2 ^ (Flt.K74 - E) := by
 refine frac_is (by have := Nat.two_pow_pos (Flt.K74 - E); omega) unit_ne (odd_coprime ho _) ?_
 rw [← h, Int.mul_assoc, ← Int.natCast_mul, ← Nat.pow_add, show E + (Flt.K74 - E) = Flt.K74 by omega]
theorem fr_nought {v : Nat} (h : Flt.sv v = 0) : (fr v).num = 0 ∧ (fr v).den = 1 := by
 refine frac_is (by decide) unit_ne (Nat.coprime_one_right _) ?_
 rw [h, Int.zero_mul, Int.zero_mul]
end Go.Proofs.YtgekmbfmfiikkaaGreatDoor
namespace Go.Proofs.YtgekmbfmfiikkaaGreatDoor
open Go.RowKit
theorem ctzFrom_of : ∀ (j f m : Nat), j < f → Lib.ctzFrom f (2 ^ j * (2 * m + 1)) = j
 | j, 0, m, h => by omega
 | 0, f + 1, m, _ => by
  unfold Lib.ctzFrom
  rw [if_pos (by rw [Nat.pow_zero, Nat.one_mul]; omega)]
 | j + 1, f + 1, m, h => by
  unfold Lib.ctzFrom
  have e : 2 ^ (j + 1) * (2 * m + 1) = 2 * (2 ^ j * (2 * m + 1)) := by rw [Nat.pow_succ, Nat.mul_comm (2 ^ j) 2, Nat.mul_assoc]
  rw [if_neg (by rw [e]; omega), e, Nat.mul_div_cancel_left _ (by decide), ctzFrom_of j f m (by omega)]
  omega
theorem ctz_spec {Z : Nat} (h0 : 0 < Z) (h : Z < 2 ^ 64) : ∃ m, Z = 2 ^ Lib.ctz 64 Z * (2 * m + 1) ∧ Lib.ctz 64 Z < 64 := by
 have := Lib.ctzFrom_spec 64 Z h0 h
 unfold Lib.ctz
 rw [if_neg (by omega)]
 exact this
theorem ctzFrom_turned {n Z : Nat} (h0 : 0 < Z) (h : Z < 2 ^ n) : Lib.ctzFrom n (2 ^ n - Z) = Lib.ctzFrom n Z := by
 obtain ⟨m, hm, hk⟩ := Lib.ctzFrom_spec n Z h0 h
 generalize Lib.ctzFrom n Z = k at hm hk ⊢
 obtain ⟨d, rfl⟩ : ∃ d, n = k + (d + 1) := ⟨n - k - 1, by omega⟩
 rw [hm] at h
 have hlt : 2 * m + 1 < 2 ^ (d + 1) := by
  rw [Nat.pow_add] at h
  exact Nat.lt_of_mul_lt_mul_left h
 have e : 2 ^ (k + (d + 1)) - Z = 2 ^ k * (2 * (2 ^ d - m - 1) + 1) := by
  rw [hm, Nat.pow_add, ← Nat.mul_sub]
  congr 1
  rw [Nat.pow_succ] at hlt ⊢
  omega
 rw [e]
 exact ctzFrom_of k _ _ (by omega)
theorem ctz_turned {Z : Nat} (h0 : 0 < Z) (h : Z < 2 ^ 64) : Lib.ctz 64 (2 ^ 64 - Z) = Lib.ctz 64 Z := by
 unfold Lib.ctz
 rw [if_neg (by omega), if_neg (by omega)]
 exact ctzFrom_turned h0 h
theorem float_low {s : Bool} {x Z E k : Nat} (h : sgnd s Z * ((2 ^ E : Nat) : Int) = Flt.sv x) (h0 : 0 < Z) (hZ : Z < 2 ^ 64) (hE : E < 1074) (hk : k = min (Lib.ctz 64 Z) (1074 - E)) :
  (fr x).num = sgnd s Z / ((2 ^ k : Nat) : Int) ∧ (fr x).den = 2 ^ (1074 - E - k) := by
 obtain ⟨m, hm, hc⟩ := ctz_spec h0 hZ
 generalize Lib.ctz 64 Z = c at hm hc hk
 have hkc : k ≤ c := by omega
 obtain ⟨z, hz⟩ : ∃ z, Z = 2 ^ k * z := ⟨2 ^ (c - k) * (2 * m + 1), by rw [← Nat.mul_assoc, ← Nat.pow_add, show k + (c - k) = c by omega]; exact hm⟩
 have hp := Nat.two_pow_pos k
 have e1 : sgnd s Z = sgnd s z * ((2 ^ k : Nat) : Int) := by
  rw [hz, Nat.mul_comm]
  unfold sgnd
  cases s
  ·simp [Int.natCast_mul]
  ·simp [Int.natCast_mul, Int.neg_mul]
 have e2 : sgnd s Z / ((2 ^ k : Nat) : Int) = sgnd s z := by
  rw [e1]
  exact Int.mul_ediv_cancel _ (by omega)
 have e3 : sgnd s z * ((2 ^ (E + k) : Nat) : Int) = Flt.sv x := by
  rw [← h, e1, Int.mul_assoc, ← Int.natCast_mul, ← Nat.pow_add, Nat.add_comm k E]
 have e74 : Flt.K74 = 1074 := rfl
 rw [e2]
 rcases Nat.lt_or_ge (E + k) 1074 with hlt | hge
 ·have hk2 : k = c := by omega
  have hodd : z = 2 * m + 1 := by
   rw [hz, hk2] at hm
   exact Nat.eq_of_mul_eq_mul_left (Nat.two_pow_pos c) hm
  obtain ⟨a, b⟩ := fr_odd e3 (by rw [e74]; exact hlt) (by unfold sgnd; cases s <;> simp <;> omega)
  refine ⟨a, ?_⟩
  rw [b, e74, Nat.sub_sub]
 ·obtain ⟨a, b⟩ := fr_whole e3 (by rw [e74]; exact hge)
  have e5 : E + k = 1074 := by omega
  rw [e74, e5] at a
  refine ⟨by rw [a]; simp, ?_⟩
  rw [b, show 1074 - E - k = 0 by omega]
end Go.Proofs.YtgekmbfmfiikkaaGreatDoor
namespace Go.Proofs.YtgekmbfmfiikkaaGreatDoor
open Go.RowKit
abbrev Tab (w : World) : Prop := TabAt 1 Lib.deBruijn64tab w
theorem Tab.next {w w' : World} (h : Tab w) (hb : Below w.heap.size w w') : Tab w' := fun j hj =>
 (hb.cell (World.block_lt_of_cell? w _ (h j hj))).trans (h j hj)
theorem tz64_core (x k idx : Nat) (w : World) (hx0 : ((x : Int) == 0) = false)
  (key : IntKind.u64.wrap (bits BinOp.and IntKind.u64 (x : Int) (IntKind.u64.wrap (-(x : Int))) * 285870213051353865) / 288230376151711744 = (idx : Int))
  (hi : idx < 64) (hk : k < 64) (hcell : w.cell? ⟨1, idx, none⟩ = some (.int .u8 k)) :
  Calls Tryz.prog 316 #[.int .u64 x] w fun e w' => e = .returned (.int .i64 k) ∧ w' = w := by
 go_enter Tryz.func316, Tryz.ntmps316
 go_wp2_with (simp only [key])
 go_ret
 exact ⟨rfl, rfl⟩
theorem tz64_nought (w : World) :
  Calls Tryz.prog 316 #[.int .u64 0] w fun e w' => e = .returned (.int .i64 64) ∧ w' = w := by
 go_enter Tryz.func316, Tryz.ntmps316
 go_wp2
 go_ret
 exact ⟨rfl, rfl⟩
theorem tz64_any (x : Nat) (hx : x < 18446744073709551616) (w : World) (hT : Tab w) :
  Calls Tryz.prog 316 #[.int .u64 x] w fun e w' => e = .returned (.int .i64 (Lib.ctz 64 x)) ∧ w' = w := by
 by_cases hx0 : x = 0
 ·subst hx0
  exact tz64_nought w
 ·obtain ⟨hlow, hk⟩ := Lib.lowest_bit 64 x hx0 hx
  obtain ⟨hi, htab⟩ := Lib.deBruijn64_at _ hk
  have hcell := hT _ hi
  rw [htab] at hcell
  exact tz64_core x _ _ w (by simp; omega) (tz64_key x _ hx hx0 hlow) hi hk hcell
theorem rat_whole_any (neg : Bool) (A : Option Addr) (n c : Nat) (z : Int) (r : Rat) (w : World) (hx : IsInt w neg A n c z) (hr : Hid (r.num = z ∧ r.den = 1)) :
  Calls Tryz.prog 315 #[.agg #[.bool neg, .slice A n c]] w (RetFr w r) := by
 have K0 := ((((Mm.nil w).int hx).var (g := w.heap.size) rfl [.bool neg, .slice A n c] 24).var (g := w.heap.size + 1) (by simp) [.bool false, .slice none 0 0, .bool false, .slice none 0 0] 26)
 clear hx
 go_enter Tryz.func315, Tryz.ntmps315
 go_wp2_with fail
 generalize (w.alloc (.cells #[.bool neg, .slice A n c] 24)).alloc (.cells #[.bool false, .slice none 0 0, .bool false, .slice none 0 0] 26) = w0 at K0 ⊢
 obtain ⟨_, _, _, _, _⟩ := (K0.blk (g := w.heap.size) (by repeat constructor)).two
 have e0a : ¬ w.heap.size + 1 = w.heap.size := by omega
 have e0b : ¬ w.heap.size = w.heap.size + 1 := by omega
 go_region_held3 (fun w' => w'.cell? ⟨w.heap.size, 0, none⟩ = some (.bool neg) ∧ w'.cell? ⟨w.heap.size, 1, none⟩ = some (.slice A n c))
  (go_keep)
  (first
   | (go_at_call 215; apply Calls.withMm (w0 := w); (case K => with_reducible repeat (first | exact K0 | apply Mm.drew | apply Mm.drewN)); intro KX; (with_reducible refine (ex_of_any 1 _ (by decide)).mono ?_); rintro e1 w1 ⟨neg1, A1, n1, c1, rfl, I1, hb1⟩; (with_reducible have K1 := (KX.next hb1).int I1); have Q1x := (K1.blk (g := w.heap.size) (by repeat constructor)).two; obtain ⟨qa1x, qb1x, qc1x, qd1x, qe1x⟩ := Q1x; have Q1r := (K1.blk (g := w.heap.size + 1) (by repeat constructor)).four; obtain ⟨⟨qa1r, qb1r, qc1r, qd1r⟩, ⟨qe1r, qf1r, qg1r, qh1r⟩, qi1r⟩ := Q1r; clear KX I1 hb1)
   | fail)
 have e1 : z = r.num := hr.out.1.symm
 have e2 : (1 : Int) = (r.den : Int) := by rw [hr.out.2]; rfl
 rw [e1, e2] at K1
 clear e1 e2
 go_wp2_with fail
 have KE := (K1.pick (L' := [(w.heap.size + 1, [.bool false, .slice none 0 0, .bool false, .slice none 0 0])]) (l' := [(neg, A, n, c, r.num), (neg1, A1, n1, c1, (r.den : Int))]) (by simp) (by simp)).set4 (by simp <;> omega) neg A n c neg1 A1 n1 c1
 exact bodyPost_ret (v := .agg #[.bool neg, .slice A n c, .bool neg1, .slice A1 n1 c1]) (by simp [results, Tryz.results315, go_sem, qa1r, qb1r, qc1r, qd1r]) rfl ⟨_, _, _, _, _, _, _, _, rfl, KE.at_ (by simp), KE.at_ (by simp), KE.1⟩
theorem rat_nou_any (w : World) : Calls Tryz.prog 209 #[] w (RetFr w 0) := by
 have K0 := (Mm.nil w).var (g := w.heap.size) rfl [.bool false, .slice none 0 0, .bool false, .slice none 0 0] 26
 go_enter Tryz.func209, Tryz.ntmps209
 go_wp2_with fail
 refine (ex_of_any 1 _ (by decide)).mono ?_
 rintro e1 w1 ⟨neg1, A1, n1, c1, rfl, I1, hb1⟩
 have K1 := (K0.next hb1).int I1
 obtain ⟨⟨qa1r, qb1r, qc1r, qd1r⟩, ⟨_, _, _, _⟩, _⟩ := (K1.blk (g := w.heap.size) (by repeat constructor)).four
 clear I1 hb1
 go_wp2_with fail
 have KE := K1.set4 (by simp) false none 0 0 neg1 A1 n1 c1
 exact bodyPost_ret (v := .agg #[.bool false, .slice none 0 0, .bool neg1, .slice A1 n1 c1]) (by simp [results, Tryz.results209, go_sem, qa1r, qb1r, qc1r, qd1r]) rfl ⟨false, none, 0, 0, neg1, A1, n1, c1, rfl, isInt_nought, KE.at_ (by simp), KE.1⟩
theorem or_top (m : Nat) (h : m < 4503599627370496) : bits .or .i64 (m : Int) 4503599627370496 = ((4503599627370496 + m : Nat) : Int) := by
 have h1 : (BitVec.ofInt 64 (m : Int)).toNat = m := by
  rw [BitVec.ofInt_natCast, BitVec.toNat_ofNat]; exact Nat.mod_eq_of_lt (by omega)
 have h2 : (BitVec.ofInt 64 4503599627370496).toNat = 4503599627370496 := by decide
 have h3 : m ||| 4503599627370496 = 4503599627370496 + m := by
  have := Nat.two_pow_add_eq_or_of_lt (i := 52) (b := m) (by omega) 1
  rw [Nat.or_comm]
  simpa using this.symm
 show IntKind.i64.wrap ((BitVec.ofInt 64 (m : Int) ||| BitVec.ofInt 64 4503599627370496).toNat : Int) = _
 rw [BitVec.toNat_or, h1, h2, h3]
 exact IntWalk.i64_in _ (by omega)
def u64of (s : Bool) (Z : Nat) : Nat := if s && Z != 0 then 18446744073709551616 - Z else Z
theorem u64of_wrap (s : Bool) {Z : Nat} (h : Z < 9223372036854775808) : IntKind.u64.wrap (sgnd s Z) = (u64of s Z : Int) := by
 unfold sgnd u64of
 rw [IntKind.wrap_u64]
 cases s with
 | false => simp; omega
 | true =>
  by_cases h0 : Z = 0
  ·subst h0; rfl
  ·simp [h0]; omega
theorem u64of_lt (s : Bool) {Z : Nat} (h : Z < 9223372036854775808) : u64of s Z < 18446744073709551616 := by
 unfold u64of
 split
 ·rename_i h0
  have : Z ≠ 0 := by simp at h0; exact h0.2
  omega
 ·omega
theorem u64of_ctz (s : Bool) {Z : Nat} (h0 : 0 < Z) (h : Z < 9223372036854775808) : Lib.ctz 64 (u64of s Z) = Lib.ctz 64 Z := by
 unfold u64of
 split
 ·exact ctz_turned h0 (by omega)
 ·rfl
theorem rat_float_any (x : Nat) (hx : x < 2 ^ 64) (w : World) (hT : Tab w) : Calls Tryz.prog 246 #[.float .f64 x] w (RetFr w (fr x)) := by
  have fb := frac_bits x hx
  have eb := expo_bits x hx
  obtain ⟨s, hs⟩ : ∃ s, Flt.sgn x = s := ⟨_, rfl⟩
  have sb : ((x : Int) / 9223372036854775808 == 1) = s := by
    cases s with
    | true => have : x / 2 ^ 63 = 1 := by unfold Flt.sgn at hs; rw [beq_iff_eq] at hs; omega
              rw [beq_iff_eq]; omega
    | false => have : ¬ x / 2 ^ 63 = 1 := by unfold Flt.sgn at hs; rw [beq_eq_false_iff_ne] at hs; omega
               rw [beq_eq_false_iff_ne]; omega
  obtain ⟨m, hm⟩ : ∃ m, x % 2 ^ 52 = m := ⟨_, rfl⟩
  obtain ⟨q, hq⟩ : ∃ q, x / 2 ^ 52 % 2048 = q := ⟨_, rfl⟩
  have hmb : m < 4503599627370496 := by omega
  have hqb : q < 2048 := by omega
  have hW := worth_sv hm.symm hq.symm s hs.symm (z := sgnd s (if q = 0 then m else 4503599627370496 + m)) (by unfold sgnd; by_cases h0 : q = 0 <;> simp only [h0, if_true, if_false] <;> cases s <;> simp <;> omega)
  rw [hm] at fb
  rw [hq] at eb
  have ob := or_top m hmb
  have HW0 : Hid (q = 0 → sgnd s m * ((2 ^ 0 : Nat) : Int) = Flt.sv x) := Lib.hid (fun h => by have h2 := hW.1; rw [if_pos h, h] at h2; exact h2)
  have HW1 : Hid (q ≠ 0 → sgnd s (4503599627370496 + m) * ((2 ^ (q - 1) : Nat) : Int) = Flt.sv x) := Lib.hid (fun h => by have h2 := hW.1; rw [if_neg h] at h2; exact h2)
  have K0 := (Mm.nil w).var (g := w.heap.size) rfl [.bool false, .slice none 0 0, .bool false, .slice none 0 0] 26
  have HT := Lib.hid hT
  clear hm hq hs hW hT
  go_enter Tryz.func246, Tryz.ntmps246
  go_upto_if 17 with (fail)
  go_cut [4, 5, 17] from 18 to 21 (fun s4 s5 _ wx => ∃ Z E : Nat, s4 = .int .i64 (Z : Int) ∧ s5 = .int .i64 (E : Int) ∧ Z < 9007199254740992 ∧ E ≤ 2046 ∧ wx = w.alloc (.cells #[.bool false, .slice none 0 0, .bool false, .slice none 0 0] 26) ∧ Hid (sgnd s Z * ((2 ^ E : Nat) : Int) = Flt.sv x))
  case first =>
    by_cases hq0 : q = 0
    · have HQ0 := Lib.hid hq0
      have hq2 : ¬ (0 : Int) < (q : Int) := by omega
      clear hq0
      go_wp2_with fail
      go_meet
      exact ⟨m, 0, rfl, congrArg (Value.int .i64) (by have := HQ0.out; omega), by omega, by omega, rfl, Lib.hid (HW0.out HQ0.out)⟩
    · have hq1 : (0 : Int) < (q : Int) := by omega
      go_wp2_with fail
      go_meet
      exact ⟨4503599627370496 + m, q - 1, congrArg (Value.int .i64) (by first | exact ob | omega), congrArg (Value.int .i64) (by omega), by omega, by omega, rfl, Lib.hid (HW1.out hq0)⟩
  case rest =>
    obtain ⟨Z, E, rfl, rfl, hZ, hE, rfl, HZ⟩ := hcut
    clear fb eb ob hmb hqb HW0 HW1
    go_upto_if 24 with (fail)
    go_cut [4, 24] from 25 to 26 (fun s4 _ wx => s4 = .int .i64 (sgnd s Z) ∧ wx = w.alloc (.cells #[.bool false, .slice none 0 0, .bool false, .slice none 0 0] 26))
    case first =>
      cases s with
      | true =>
        go_wp2_with fail
        go_meet
        exact ⟨congrArg (Value.int .i64) (by unfold sgnd; first | exact IntWalk.i64_in _ (by omega) | simp), rfl⟩
      | false =>
        go_wp2_with fail
        go_meet
        exact ⟨congrArg (Value.int .i64) (by unfold sgnd; simp), rfl⟩
    case rest =>
      obtain ⟨rfl, rfl⟩ := hcut
      clear sb
      obtain ⟨z, hz⟩ : ∃ z, sgnd s Z = z := ⟨_, rfl⟩
      have hzb : -9007199254740992 < z ∧ z < 9007199254740992 := by rw [← hz]; unfold sgnd; cases s <;> simp <;> omega
      by_cases hE2 : 1074 ≤ E
      · have hE3 : (1074 : Int) ≤ (E : Int) := by omega
        have HR : Hid ((fr x).num = z * ((2 ^ (E - 1074) : Nat) : Int) ∧ (fr x).den = 1) := Lib.hid (by rw [← hz]; exact fr_whole HZ.out hE2)
        have se : IntKind.i64.wrap ((E : Int) - 1074) = ((E - 1074 : Nat) : Int) := (IntWalk.i64_in _ (by omega)).trans (by omega)
        rw [hz]
        clear HZ hz
        go_wp2_with fail
        refine (ex_of_any z _ (by omega)).mono ?_
        rintro e1 w1 ⟨neg1, A1, n1, c1, rfl, I1, hb1⟩
        have hn1 : n1 ≤ 2 := int_len I1 (by omega)
        have K1 := (K0.next hb1).int I1
        clear K0 hb1 I1
        go_wp2_with fail
        refine (ex_double_any neg1 A1 n1 c1 (E - 1074) z _ (K1.at_ (by simp)) (by omega) (by omega)).mono ?_
        rintro e2 w2 ⟨neg2, A2, n2, c2, rfl, I2, hb2⟩
        have K2 := (K1.next hb2).int I2
        clear K1 hb2 I2
        go_wp2_with fail
        refine (rat_whole_any neg2 A2 n2 c2 _ (fr x) _ (K2.at_ (by simp)) HR).mono ?_
        rintro e4 w4 ⟨neg4, A4, n4, c4, ne4, B4, m4, d4, rfl, I4, J4, hb4⟩
        have K4 := ((K2.next hb4).int J4).int I4
        clear hb4 I4 J4 K2
        obtain ⟨⟨qa4r, qb4r, qc4r, qd4r⟩, ⟨qe4, qf4, qg4, qh4⟩, qi4⟩ := (K4.blk (g := w.heap.size) (by repeat constructor)).four
        go_wp2_with fail
        have KE := (K4.pick (L' := [(w.heap.size, [.bool false, .slice none 0 0, .bool false, .slice none 0 0])]) (l' := [(neg4, A4, n4, c4, (fr x).num), (ne4, B4, m4, d4, ((fr x).den : Int))]) (by simp) (by simp)).set4 (by simp) neg4 A4 n4 c4 ne4 B4 m4 d4
        exact bodyPost_ret (v := .agg #[.bool neg4, .slice A4 n4 c4, .bool ne4, .slice B4 m4 d4]) (by simp [results, Tryz.results246, go_sem, qa4r, qb4r, qc4r, qd4r]) rfl ⟨_, _, _, _, _, _, _, _, rfl, KE.at_ (by simp), KE.at_ (by simp), KE.1⟩
      · have hE3 : ¬ (1074 : Int) ≤ (E : Int) := by omega
        have uw := u64of_wrap s (Z := Z) (by omega)
        have ul := u64of_lt s (Z := Z) (by omega)
        have se : IntKind.i64.wrap (1074 - (E : Int)) = ((1074 - E : Nat) : Int) := (IntWalk.i64_in _ (by omega)).trans (by omega)
        obtain ⟨t, ht⟩ : ∃ t, Lib.ctz 64 (u64of s Z) = t := ⟨_, rfl⟩
        obtain ⟨u, hu⟩ : ∃ u, u64of s Z = u := ⟨_, rfl⟩
        rw [hz, hu] at uw
        rw [hu] at ul ht
        have hmin : min (t : Int) ((1074 - E : Nat) : Int) = ((min t (1074 - E) : Nat) : Int) := by omega
        rw [hz]
        by_cases hz0 : Z = 0
        · have hzz : (z == 0) = true := by rw [← hz, hz0]; cases s <;> rfl
          have HV : Hid ((fr x) = 0) := Lib.hid (by
            have h := HZ.out
            rw [hz0, show sgnd s 0 = 0 by cases s <;> rfl, Int.zero_mul] at h
            have := fr_nought h.symm
            exact Rat.ext (by rw [this.1]; rfl) (by rw [this.2]; rfl))
          clear HZ hz
          go_wp2_with fail
          refine (tz64_any u ul _ (HT.out.next K0.1)).mono ?_
          rintro e1 w1 ⟨rfl, rfl⟩
          rw [ht]
          go_wp2_with fail
          refine (rat_nou_any _).mono ?_
          rintro e4 w4 ⟨neg4, A4, n4, c4, ne4, B4, m4, d4, rfl, I4, J4, hb4⟩
          rw [← HV.out] at I4 J4
          have K4 := ((K0.next hb4).int J4).int I4
          clear hb4 I4 J4 K0
          obtain ⟨⟨qa4r, qb4r, qc4r, qd4r⟩, ⟨qe4, qf4, qg4, qh4⟩, qi4⟩ := (K4.blk (g := w.heap.size) (by repeat constructor)).four
          go_wp2_with fail
          have KE := (K4.pick (L' := [(w.heap.size, [.bool false, .slice none 0 0, .bool false, .slice none 0 0])]) (l' := [(neg4, A4, n4, c4, (fr x).num), (ne4, B4, m4, d4, ((fr x).den : Int))]) (by simp) (by simp)).set4 (by simp) neg4 A4 n4 c4 ne4 B4 m4 d4
          exact bodyPost_ret (v := .agg #[.bool neg4, .slice A4 n4 c4, .bool ne4, .slice B4 m4 d4]) (by simp [results, Tryz.results246, go_sem, qa4r, qb4r, qc4r, qd4r]) rfl ⟨_, _, _, _, _, _, _, _, rfl, KE.at_ (by simp), KE.at_ (by simp), KE.1⟩
        · have hzz : (z == 0) = false := by rw [beq_eq_false_iff_ne, ← hz]; unfold sgnd; cases s <;> simp <;> omega
          have hct := u64of_ctz s (Z := Z) (by omega) (by omega)
          rw [hu, ht] at hct
          obtain ⟨k, hk⟩ : ∃ k, min t (1074 - E) = k := ⟨_, rfl⟩
          have ht64 : t < 64 := by rw [hct]; obtain ⟨_, _, h⟩ := ctz_spec (Z := Z) (by omega) (by omega); exact h
          have HR : Hid ((fr x).num = z / ((2 ^ k : Nat) : Int) ∧ (fr x).den = 2 ^ (1074 - E - k)) := Lib.hid (by rw [← hz]; exact float_low HZ.out (by omega) (by omega) (by omega) (by rw [← hct]; exact hk.symm))
          have hk1 : k ≤ 1074 - E := by omega
          rw [hk] at hmin
          have hzd : -9007199254740992 ≤ z / ((2 ^ k : Nat) : Int) ∧ z / ((2 ^ k : Nat) : Int) ≤ 9007199254740992 := by
            have hp := Nat.two_pow_pos k
            have h1 : (z / ((2 ^ k : Nat) : Int)).natAbs ≤ z.natAbs := Int.natAbs_ediv_le_natAbs _ _
            omega
          have s2 : IntKind.i64.wrap (((1074 - E : Nat) : Int) - (k : Int)) = ((1074 - E - k : Nat) : Int) := (IntWalk.i64_in _ (by omega)).trans (by omega)
          have hk0 : (0 : Int) ≤ (k : Int) := Int.natCast_nonneg _
          have hpk : z / 2 ^ k = z / ((2 ^ k : Nat) : Int) := by
            rw [Int.natCast_pow]
            rfl
          obtain ⟨v, hv⟩ : ∃ v, z / ((2 ^ k : Nat) : Int) = v := ⟨_, rfl⟩
          rw [hv] at hpk hzd HR
          have HPK := Lib.hid hpk
          clear hpk hv
          have HTU := Lib.hid ht
          clear HZ hz hct ht hu
          go_wp2_with fail
          refine (tz64_any u ul _ (HT.out.next K0.1)).mono ?_
          rintro e1 w1 ⟨rfl, rfl⟩
          rw [HTU.out]
          go_wp2_with fail
          rw [HPK.out]
          refine (ex_of_any v _ (by omega)).mono ?_
          rintro e1 w1 ⟨neg1, A1, n1, c1, rfl, I1, hb1⟩
          have K1 := (K0.next hb1).int I1
          clear K0 hb1 I1
          go_wp2_with fail
          refine (ex_of_any 1 _ (by decide)).mono ?_
          rintro e2 w2 ⟨neg2, A2, n2, c2, rfl, I2, hb2⟩
          have hn2 : n2 ≤ 1 := int_len I2 (by decide)
          have K2 := (K1.next hb2).int I2
          clear K1 hb2 I2
          go_wp2_with fail
          refine (ex_double_any neg2 A2 n2 c2 (1074 - E - k) 1 _ (K2.at_ (by simp)) (by omega) (by omega)).mono ?_
          rintro e4 w4 ⟨neg4, A4, n4, c4, rfl, I4, hb4⟩
          have K4 := (K2.next hb4).int I4
          clear hb4 I4 K2
          rw [← HR.out.1, show (1 : Int) * ((2 ^ (1074 - E - k) : Nat) : Int) = ((fr x).den : Int) by rw [HR.out.2, Int.one_mul]] at K4
          obtain ⟨⟨qa4r, qb4r, qc4r, qd4r⟩, ⟨qe4, qf4, qg4, qh4⟩, qi4⟩ := (K4.blk (g := w.heap.size) (by repeat constructor)).four
          go_wp2_with fail
          have KE := (K4.pick (L' := [(w.heap.size, [.bool false, .slice none 0 0, .bool false, .slice none 0 0])]) (l' := [(neg1, A1, n1, c1, (fr x).num), (neg4, A4, n4, c4, ((fr x).den : Int))]) (by simp) (by simp)).set4 (by simp) neg1 A1 n1 c1 neg4 A4 n4 c4
          exact bodyPost_ret (v := .agg #[.bool neg1, .slice A1 n1 c1, .bool neg4, .slice A4 n4 c4]) (by simp [results, Tryz.results246, go_sem, qa4r, qb4r, qc4r, qd4r]) rfl ⟨_, _, _, _, _, _, _, _, rfl, KE.at_ (by simp), KE.at_ (by simp), KE.1⟩
end Go.Proofs.YtgekmbfmfiikkaaGreatDoor
