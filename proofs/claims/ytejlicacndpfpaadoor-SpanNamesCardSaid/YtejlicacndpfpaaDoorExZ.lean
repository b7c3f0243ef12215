/-
  A fraction in memory of its own (ratio.Copy), the answer of an operation (frac.answered).
  The operations of frac: always, do, Add, Sub, Mul, of fractions that may be where the answer is short.
  The floats beside a fraction, plainly: it does not hang on how the fraction is written; a quotient of 64 or 65 bits.
-/
import Derived.Test.YtejlicacndpfpaaDoorTzF
import Derived.Test.YtejlicacndpfpaaDoorTzG
import Derived.Test.YtejlicacndpfpaaDoorRaL
import Derived.Test.YtejlicacndpfpaaDoorEdgU
namespace Go.Proofs.YtejlicacndpfpaaDoor
open Go.RowKit

set_option maxRecDepth 100000 in
set_option maxHeartbeats 3200000 in
theorem rat_copy_any (neg neg' : Bool) (A A' : Option Addr) (n c n' c' : Nat) (r : Rat) (w : World) (hx : IsInt w neg A n c r.num) (hx' : IsInt w neg' A' n' c' (r.den : Int)) (hn : n ≤ 2048) (hn' : n' ≤ 2048) :
    Calls Tryd.prog 56 #[.agg #[.bool neg, .slice A n c, .bool neg', .slice A' n' c']] w (RetFr w r) := by
  have K0 := ((((Mm.nil w).int hx).int hx').var (g := w.heap.size) rfl [.bool neg, .slice A n c, .bool neg', .slice A' n' c'] 26).var (g := w.heap.size + 1) (by simp) [.bool false, .slice none 0 0, .bool false, .slice none 0 0] 26
  clear hx hx'
  go_enter Tryd.func56, Tryd.ntmps56
  go_wp2_with fail
  generalize (w.alloc (.cells #[.bool neg, .slice A n c, .bool neg', .slice A' n' c'] 26)).alloc (.cells #[.bool false, .slice none 0 0, .bool false, .slice none 0 0] 26) = w0 at K0 ⊢
  refine (ex_of_any 0 _ (by decide)).mono ?_
  rintro e1 w1 ⟨neg1, A1, n1, c1, rfl, I1, hb1⟩
  have hn1 : n1 ≤ 1 := int_len I1 (by decide)
  have hz1 : w.heap.size + 1 < w1.heap.size := by
    have := ((K0.next hb1).blk (g := w.heap.size + 1) (vs := [.bool false, .slice none 0 0, .bool false, .slice none 0 0]) (by simp)).1
    exact this
  have K1 := ((K0.next hb1).int I1).var (g := w1.heap.size) rfl [.bool neg1, .slice A1 n1 c1] 24
  clear K0 I1 hb1
  go_upto_region 2 with (fail)
  generalize hg3 : w1.heap.size = g3 at K1 hz1 ⊢
  generalize w1.alloc (.cells #[.bool neg1, .slice A1 n1 c1] 24) = w2 at K1 ⊢
  clear hg3
  obtain ⟨⟨qa0, qb0, qc0, qd0⟩, _, _⟩ := (K1.blk (g := w.heap.size) (vs := [.bool neg, .slice A n c, .bool neg', .slice A' n' c']) (by simp)).four
  obtain ⟨za0, zb0, _, _, _⟩ := (K1.blk (g := g3) (vs := [.bool neg1, .slice A1 n1 c1]) (by simp)).two
  have e0a : ¬ w.heap.size + 1 = w.heap.size := by omega
  have e0b : ¬ w.heap.size + 1 = g3 := by omega
  go_wp2_with fail
  go_region_held3 (fun w' => w'.cell? ⟨w.heap.size, 0, none⟩ = some (.bool neg) ∧ w'.cell? ⟨w.heap.size, 1, none⟩ = some (.slice A n c) ∧ w'.cell? ⟨w.heap.size, 2, none⟩ = some (.bool neg') ∧ w'.cell? ⟨w.heap.size, 3, none⟩ = some (.slice A' n' c') ∧ w'.cell? ⟨g3, 0, none⟩ = some (.bool neg1) ∧ w'.cell? ⟨g3, 1, none⟩ = some (.slice A1 n1 c1))
    (go_keep)
    (first
      | (go_at_call 75; (with_reducible refine (ex_plus_any neg neg1 A A1 n c n1 c1 r.num 0 _ ?_ ?_ (by omega) (by omega)).mono ?_); (first | (with_reducible exact K1.at_ (by simp)) | (with_reducible exact K1.drew.at_ (by simp)) | (with_reducible exact (K1.drewN _).at_ (by simp))); (first | (with_reducible exact K1.at_ (by simp)) | (with_reducible exact K1.drew.at_ (by simp)) | (with_reducible exact (K1.drewN _).at_ (by simp))); rintro e2 w2 ⟨neg2, A2, n2, c2, rfl, I2, hb2⟩; (first | (with_reducible have K2 := (K1.next hb2).int I2) | (with_reducible have K2 := (K1.drew.next hb2).int I2) | (with_reducible have K2 := ((K1.drewN _).next hb2).int I2)); obtain ⟨⟨qa2, qb2, qc2, qd2⟩, _, _⟩ := (K2.blk (g := w.heap.size) (vs := [.bool neg, .slice A n c, .bool neg', .slice A' n' c']) (by simp)).four; obtain ⟨za2, zb2, _, _, _⟩ := (K2.blk (g := g3) (vs := [.bool neg1, .slice A1 n1 c1]) (by simp)).two; obtain ⟨⟨ra2, rb2, rc2, rd2⟩, ⟨re2, rf2, rg2, rh2⟩, ri2⟩ := (K2.blk (g := w.heap.size + 1) (vs := [.bool false, .slice none 0 0, .bool false, .slice none 0 0]) (by simp)).four; clear I2 hb2)
      | (go_at_call 75; (with_reducible refine (ex_plus_any neg' neg1 A' A1 n' c' n1 c1 (r.den : Int) 0 _ ?_ ?_ (by omega) (by omega)).mono ?_); (first | (with_reducible exact K2.at_ (by simp)) | (with_reducible exact K2.drew.at_ (by simp)) | (with_reducible exact (K2.drewN _).at_ (by simp))); (first | (with_reducible exact K2.at_ (by simp)) | (with_reducible exact K2.drew.at_ (by simp)) | (with_reducible exact (K2.drewN _).at_ (by simp))); rintro e3 w3 ⟨neg3, A3, n3, c3, rfl, I3, hb3⟩; (first | (with_reducible have K3 := (K2.next hb3).int I3) | (with_reducible have K3 := (K2.drew.next hb3).int I3) | (with_reducible have K3 := ((K2.drewN _).next hb3).int I3)); obtain ⟨⟨qa3, qb3, qc3, qd3⟩, _, _⟩ := (K3.blk (g := w.heap.size) (vs := [.bool neg, .slice A n c, .bool neg', .slice A' n' c']) (by simp)).four; obtain ⟨za3, zb3, _, _, _⟩ := (K3.blk (g := g3) (vs := [.bool neg1, .slice A1 n1 c1]) (by simp)).two; obtain ⟨⟨ra3, rb3, rc3, rd3⟩, ⟨re3, rf3, rg3, rh3⟩, ri3⟩ := (K3.blk (g := w.heap.size + 1) (vs := [.bool false, .slice none 0 0, .bool false, .slice none 0 0]) (by simp)).four; clear I3 hb3)
      | fail)
  all_goals
   rw [Int.add_zero, Int.add_zero] at K3
   go_wp2_with fail
   have KE := (K3.pick (L' := [(w.heap.size + 1, [.bool false, .slice none 0 0, .bool false, .slice none 0 0])]) (l' := [(neg2, A2, n2, c2, r.num), (neg3, A3, n3, c3, (r.den : Int))]) (by simp) (by simp)).set4 (by simp <;> omega) neg2 A2 n2 c2 neg3 A3 n3 c3
   exact bodyPost_ret (v := .agg #[.bool neg2, .slice A2 n2 c2, .bool neg3, .slice A3 n3 c3]) (by simp [results, Tryd.results56, go_sem, ra3, rb3, rc3, rd3]) rfl ⟨_, _, _, _, _, _, _, _, rfl, KE.at_ (by simp), KE.at_ (by simp), KE.1⟩
/-- A fraction as an answer, with no error. -/
def RetFo (W : World) (x : Rat) (e : Ending) (w' : World) : Prop :=
  ∃ (neg : Bool) (A : Option Addr) (n c : Nat) (neg' : Bool) (A' : Option Addr) (n' c' : Nat), e = .returned (.tuple #[.agg #[.bool neg, .slice A n c, .bool neg', .slice A' n' c'], .int .i64 0]) ∧ IsInt w' neg A n c x.num ∧ IsInt w' neg' A' n' c' (x.den : Int) ∧ Below W.heap.size W w'
set_option maxRecDepth 100000 in
set_option maxHeartbeats 1600000 in
theorem frac_answered_any (neg neg' : Bool) (A A' : Option Addr) (n c n' c' : Nat) (r : Rat) (w : World) (hx : IsInt w neg A n c r.num) (hx' : IsInt w neg' A' n' c' (r.den : Int)) (hs : Sz r 2048) :
    Calls Tryd.prog 32 #[.agg #[.bool neg, .slice A n c, .bool neg', .slice A' n' c']] w (RetFo w r) := by
  have hn := int_len hx hs.1
  have hn' := int_len hx' hs.2
  have K0 := (((((Mm.nil w).int hx).int hx').var (g := w.heap.size) rfl [.bool neg, .slice A n c, .bool neg', .slice A' n' c'] 26).var (g := w.heap.size + 1) (by simp) [.bool false, .slice none 0 0, .bool false, .slice none 0 0] 26)
  clear hx hx' hs
  go_enter Tryd.func32, Tryd.ntmps32
  go_wp2_with fail
  refine (rat_answer_no (w.heap.size + 1 + 1) neg neg' A A' n c n' c' _ (by simp) (by simp [go_sem]) (by simp [go_sem]) (by simp [go_sem]) (by simp [go_sem]) hn hn').mono ?_
  rintro e1 w1 ⟨rfl, hb1⟩
  have K1 := (K0.box (.cells #[.bool neg, .slice A n c, .bool neg', .slice A' n' c'] 26)).next hb1
  clear K0 hb1
  obtain ⟨⟨qa1, qb1, qc1, qd1⟩, _, _⟩ := (K1.blk (g := w.heap.size) (vs := [.bool neg, .slice A n c, .bool neg', .slice A' n' c']) (by simp)).four
  go_wp2_with fail
  refine (rat_copy_any neg neg' A A' n c n' c' r _ (K1.at_ (by simp)) (K1.at_ (by simp)) hn hn').mono ?_
  rintro e2 w2 ⟨neg2, A2, n2, c2, neg3, A3, n3, c3, rfl, I2, J2, hb2⟩
  have K2 := ((K1.next hb2).int J2).int I2
  clear K1 hb2 I2 J2
  obtain ⟨⟨ra3, rb3, rc3, rd3⟩, ⟨re3, rf3, rg3, rh3⟩, ri3⟩ := (K2.blk (g := w.heap.size + 1) (vs := [.bool false, .slice none 0 0, .bool false, .slice none 0 0]) (by simp)).four
  go_wp2_with fail
  have KE := (K2.pick (L' := [(w.heap.size + 1, [.bool false, .slice none 0 0, .bool false, .slice none 0 0])]) (l' := [(neg2, A2, n2, c2, r.num), (neg3, A3, n3, c3, (r.den : Int))]) (by simp) (by simp)).set4 (by simp <;> omega) neg2 A2 n2 c2 neg3 A3 n3 c3
  exact bodyPost_ret (v := .tuple #[.agg #[.bool neg2, .slice A2 n2 c2, .bool neg3, .slice A3 n3 c3], .int .i64 0]) (by simp [results, Tryd.results32, go_sem, ra3, rb3, rc3, rd3]) rfl ⟨_, _, _, _, _, _, _, _, rfl, KE.at_ (by simp), KE.at_ (by simp), KE.1⟩
end Go.Proofs.YtejlicacndpfpaaDoor

namespace Go.Proofs.YtejlicacndpfpaaDoor
open Go.RowKit

def RetFk (W : World) (x : Rat) (e : Ending) (w' : World) : Prop :=
  ∃ (neg : Bool) (A : Option Addr) (n c : Nat) (l : List Nat) (neg' : Bool) (A' : Option Addr) (n' c' : Nat) (l' : List Nat), e = .returned (.tuple #[.agg #[.bool neg, .slice A n c, .bool neg', .slice A' n' c'], .int .i64 0]) ∧ OkF w' ((neg, A, n, c, l), (neg', A', n', c', l')) x ∧ Below W.heap.size W w'
end Go.Proofs.YtejlicacndpfpaaDoor

namespace Go.Proofs.YtejlicacndpfpaaDoor
open Go.RowKit

theorem Dn_cross {num den num' den' r : Nat} (hd : 0 < den) (hd' : 0 < den') (h : num * den' = num' * den) (k : Flt.Dn num den r) : Flt.Dn num' den' r := by
  refine ⟨k.1, ?_, fun h1 => ?_⟩
  · have a1 := Nat.mul_le_mul_right den' k.2.1
    rw [h, Nat.mul_right_comm] at a1
    exact Nat.le_of_mul_le_mul_right a1 hd
  · have a1 := Nat.mul_lt_mul_of_pos_right (k.2.2 h1) hd'
    rw [h, Nat.mul_right_comm] at a1
    exact Nat.lt_of_mul_lt_mul_right a1
theorem hiR_cross {num den num' den' r : Nat} (hd : 0 < den) (hd' : 0 < den') (h : num * den' = num' * den) : hiR num den r = hiR num' den' r := by
  have e : (Flt.val r * den = num) ↔ (Flt.val r * den' = num') := by
    constructor
    · intro k
      have a1 : Flt.val r * den' * den = num' * den := by rw [Nat.mul_right_comm, k, h]
      exact Nat.eq_of_mul_eq_mul_right hd a1
    · intro k
      have a1 : Flt.val r * den * den' = num * den' := by rw [Nat.mul_right_comm, k, h]
      exact Nat.eq_of_mul_eq_mul_right hd' a1
  unfold hiR
  by_cases k : Flt.val r * den = num
  · rw [if_pos k, if_pos (e.1 k)]
  · rw [if_neg k, if_neg (fun q => k (e.2 q))]
theorem Brk_cross {s : Bool} {num den num' den' d u : Nat} (hd : 0 < den) (hd' : 0 < den') (h : num * den' = num' * den) (k : Brk s num den d u) : Brk s num' den' d u := by
  obtain ⟨r, h1, h2, h3⟩ := k
  rw [hiR_cross hd hd' h] at h2 h3
  exact ⟨r, Dn_cross hd hd' h h1, h2, h3⟩
/-- A quotient of numbers of so many bits. -/
theorem quo_bits {P Q b N : Nat} (hb : 1 ≤ b) (hP1 : 2 ^ (b + 63) ≤ P) (hP2 : P < 2 ^ (b + 64)) (hQ1 : 2 ^ (b - 1) ≤ Q) (hQ2 : Q < 2 ^ b) (hN : P / Q = N) :
    0 < Q ∧ N * Q ≤ P ∧ P < (N + 1) * Q ∧ 2 ^ 63 ≤ N ∧ N < 2 ^ 65 := by
  have hQ0 : 0 < Q := Nat.lt_of_lt_of_le (Nat.two_pow_pos _) hQ1
  subst hN
  refine ⟨hQ0, Nat.div_mul_le_self _ _, ?_, ?_, ?_⟩
  · have h1 := Nat.lt_div_mul_add (a := P) (b := Q) hQ0
    rw [Nat.add_mul, Nat.one_mul]
    exact h1
  · rw [Nat.le_div_iff_mul_le hQ0]
    refine Nat.le_trans (Nat.mul_le_mul_left _ (Nat.le_of_lt hQ2)) ?_
    rw [← Nat.pow_add, Nat.add_comm]
    exact hP1
  · rw [Nat.div_lt_iff_lt_mul hQ0]
    refine Nat.lt_of_lt_of_le hP2 ?_
    refine Nat.le_trans ?_ (Nat.mul_le_mul_left _ hQ1)
    rw [← Nat.pow_add]
    exact Nat.pow_le_pow_right (by decide) (by omega)
/-- The shifted parts, and what is told of them. -/
theorem at_cross {z D s : Nat} (_hz : 0 < z) (hD : 0 < D) (sgn : Bool) (d u : Nat) :
    (Brk sgn (z * 2 ^ s * 2 ^ (-(s : Int) + 1074).toNat) (D * 2 ^ (-(-(s : Int) + 1074)).toNat) d u → Brk sgn (z * 2 ^ Flt.K74) D d u) ∧
    (Brk sgn (z * 2 ^ ((s : Int) + 1074).toNat) (D * 2 ^ s * 2 ^ (-((s : Int) + 1074)).toNat) d u → Brk sgn (z * 2 ^ Flt.K74) D d u) := by
  have hK : Flt.K74 = 1074 := rfl
  refine ⟨fun h => ?_, fun h => ?_⟩
  · refine Brk_cross (Nat.mul_pos hD (Nat.two_pow_pos _)) hD ?_ h
    rw [Nat.mul_assoc z, ← Nat.pow_add]
    rcases Nat.le_total s 1074 with k | k
    · rw [show s + (-(s : Int) + 1074).toNat = Flt.K74 by rw [hK]; omega, show (-(-(s : Int) + 1074)).toNat = 0 by omega, Nat.pow_zero, Nat.mul_one]
    · rw [show s + (-(s : Int) + 1074).toNat = Flt.K74 + (-(-(s : Int) + 1074)).toNat by rw [hK]; omega, Nat.pow_add]
      generalize 2 ^ (-(-(s : Int) + 1074)).toNat = K
      generalize 2 ^ Flt.K74 = L
      grind
  · refine Brk_cross (Nat.mul_pos (Nat.mul_pos hD (Nat.two_pow_pos _)) (Nat.two_pow_pos _)) hD ?_ h
    rw [show ((s : Int) + 1074).toNat = s + Flt.K74 by rw [hK]; omega, show (-((s : Int) + 1074)).toNat = 0 by omega, Nat.pow_zero, Nat.mul_one, Nat.pow_add]
    generalize 2 ^ s = K
    generalize 2 ^ Flt.K74 = L
    grind
end Go.Proofs.YtejlicacndpfpaaDoor
