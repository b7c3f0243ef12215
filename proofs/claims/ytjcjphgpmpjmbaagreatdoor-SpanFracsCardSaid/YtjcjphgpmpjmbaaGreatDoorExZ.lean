/-
  May all of these fractions be? (ratio.Checks)
  The floats beside a fraction, plainly: it does not hang on how the fraction is written; a quotient of 64 or 65 bits.
-/
import Derived.Test.YtjcjphgpmpjmbaaGreatDoorExX
import Derived.Test.YtjcjphgpmpjmbaaGreatDoorEdgU
namespace Go.Proofs.YtjcjphgpmpjmbaaGreatDoor
open Go.RowKit

/-- A fraction in memory as limbs: its two numbers' values and limbs. -/
abbrev LmE := (Bool × Option Addr × Nat × Nat × List Nat) × (Bool × Option Addr × Nat × Nat × List Nat)
def LmE.at_ (wr : World) (f : LmE) : Prop := Sl wr f.1.2.1 f.1.2.2.1 f.1.2.2.2.1 f.1.2.2.2.2 ∧ Sl wr f.2.2.1 f.2.2.2.1 f.2.2.2.2.1 f.2.2.2.2.2 ∧ f.1.2.2.1 ≤ 1000000000 ∧ f.2.2.2.1 ≤ 1000000000
theorem LmE.at_.below {w w' : World} {f : LmE} (h : LmE.at_ w f) (hb : Below w.heap.size w w') : LmE.at_ w' f := ⟨h.1.below hb, h.2.1.below hb, h.2.2⟩
def LmE.vs (f : LmE) : List Value := [.bool f.1.1, .slice f.1.2.1 f.1.2.2.1 f.1.2.2.2.1, .bool f.2.1, .slice f.2.2.1 f.2.2.2.1 f.2.2.2.2.1]
/-- A block that holds fractions. -/
def Lfs (wr : World) (g N : Nat) (F : Nat → LmE) : Prop :=
  g < wr.heap.size ∧ ∀ i, i < N → (wr.cell? ⟨g, i * 4, none⟩ = some (.bool (F i).1.1) ∧ wr.cell? ⟨g, i * 4 + 1, none⟩ = some (.slice (F i).1.2.1 (F i).1.2.2.1 (F i).1.2.2.2.1) ∧
    wr.cell? ⟨g, i * 4 + 2, none⟩ = some (.bool (F i).2.1) ∧ wr.cell? ⟨g, i * 4 + 3, none⟩ = some (.slice (F i).2.2.1 (F i).2.2.2.1 (F i).2.2.2.2.1)) ∧ LmE.at_ wr (F i)
theorem Lfs.next {wr w' : World} {g N : Nat} {F : Nat → LmE} (h : Lfs wr g N F) (hb : Below wr.heap.size wr w') : Lfs w' g N F := by
  refine ⟨Nat.lt_of_lt_of_le h.1 hb.size, fun i hi => ?_⟩
  obtain ⟨⟨h0, h1, h2, h3⟩, h4⟩ := h.2 i hi
  obtain ⟨hc, _⟩ := bcell hb
  exact ⟨⟨(hc _ _ h.1).trans h0, (hc _ _ h.1).trans h1, (hc _ _ h.1).trans h2, (hc _ _ h.1).trans h3⟩, h4.below hb⟩
open Classical in
noncomputable def okB (f : LmE) : Bool := decide (okFr f.1.1 f.1.2.2.2.2 f.2.1 f.2.2.2.2.2)
open Classical in
theorem okB_iff (f : LmE) : okB f = true ↔ okFr f.1.1 f.1.2.2.2.2 f.2.1 f.2.2.2.2.2 := by
  unfold okB
  exact decide_eq_true_iff
open Classical in
theorem okB_chk (f : LmE) : chkFr f.1.1 f.1.2.2.2.2 f.2.1 f.2.2.2.2.2 = if okB f then 0 else 1 := by
  unfold okB
  by_cases h : okFr f.1.1 f.1.2.2.2.2 f.2.1 f.2.2.2.2.2
  · rw [chkFr_ok h, decide_eq_true h]; rfl
  · rw [chkFr_no h, decide_eq_false h]; rfl
/-- May all of the first so many be? -/
noncomputable def okAll (F : Nat → LmE) : Nat → Bool
  | 0 => true
  | n + 1 => okAll F n && okB (F n)
theorem okAll_no {F : Nat → LmE} {k N : Nat} (hk : k < N) (h : okB (F k) = false) : okAll F N = false := by
  induction N with
  | zero => omega
  | succ n ih =>
    unfold okAll
    rcases Nat.lt_or_ge k n with h1 | h1
    · rw [ih h1]; rfl
    · have : k = n := by omega
      subst this
      rw [h, Bool.and_false]

set_option maxRecDepth 100000 in
set_option maxHeartbeats 3200000 in
theorem rat_checks_any (g N c : Nat) (F : Nat → LmE) (w : World) (hL : Lfs w g N F) (hN : N ≤ 1000) (hc : N ≤ c) :
    Calls Tryz.prog 73 #[.slice (some ⟨g, 0, none⟩) N c] w (RetV w (.bool (okAll F N))) := by
  have hg := hL.1
  go_enter Tryz.func73, Tryz.ntmps73
  go_wp2_with fail
  go_loopw [7] (fun i wr => ∃ k : Nat, k ≤ N ∧ i = .int .i64 (k : Int) ∧ Hid (okAll F k = true) ∧ Below w.heap.size w wr) (fun i _ => N - (intOf i).toNat)
  case atStart => exact ⟨0, Nat.zero_le _, rfl, Lib.hid rfl, Below.refl _ _⟩
  case round =>
    obtain ⟨k, hk, rfl, HK, hb⟩ := hrel
    have hsz := hb.size
    by_cases hlt : k < N
    · obtain ⟨hg1, hall⟩ := hL.next hb
      obtain ⟨⟨a0, a1, a2, a3⟩, hS, hS', hn, hn'⟩ := hall k hlt
      have HCk := Lib.hid (okB_chk (F k))
      have HOK : Hid (okAll F (k + 1) = (okAll F k && okB (F k))) := Lib.hid rfl
      have HNO : Hid (okB (F k) = false → okAll F N = false) := Lib.hid (okAll_no hlt)
      obtain ⟨f, hf⟩ : ∃ f, F k = f := ⟨_, rfl⟩
      rw [hf] at a0 a1 a2 a3 hS hS' hn hn' HCk HOK HNO
      obtain ⟨⟨neg, A, n, c1, l⟩, neg', A', n', c1', l'⟩ := f
      simp only at a0 a1 a2 a3 hS hS' hn hn' HCk
      have hlt' : (k : Int) < (N : Int) := by omega
      have hk0 : (0 : Int) ≤ (k : Int) := Int.natCast_nonneg _
      clear hall hf
      go_wp2_with fail
      refine (ratio_check neg neg' A A' n c1 n' c1' l l' _ (hS.alloc _) (hS'.alloc _) hn hn').mono ?_
      rintro e1 w1 ⟨rfl, hb1⟩
      obtain ⟨b, hob⟩ : ∃ b, okB ((neg, A, n, c1, l), (neg', A', n', c1', l')) = b := ⟨_, rfl⟩
      rw [hob] at HCk HOK HNO
      rw [HCk.out]
      clear hob
      cases b with
      | false =>
        have HF : Hid (okAll F N = false) := Lib.hid (HNO.out rfl)
        go_wp2_with fail
        go_ret
        exact ⟨by rw [HF.out]; rfl, (hb.trans (((Below.refl _ _).alloc (Nat.le_refl _) _).mono hsz)).trans (hb1.mono (by simp; omega))⟩
      | true =>
        go_wp2_with fail
        refine ⟨⟨k + 1, hlt, congrArg (Value.int .i64) (by omega), Lib.hid (by rw [HOK.out, HK.out]; rfl), (hb.trans (((Below.refl _ _).alloc (Nat.le_refl _) _).mono hsz)).trans (hb1.mono (by simp; omega))⟩, ?_⟩
        simp [intOf]
        omega
    · obtain rfl : k = N := by omega
      have hnl : ¬ (k : Int) < (k : Int) := by omega
      go_wp2_with fail
      go_ret
      exact ⟨by rw [HK.out]; rfl, hb⟩
end Go.Proofs.YtjcjphgpmpjmbaaGreatDoor

namespace Go.Proofs.YtjcjphgpmpjmbaaGreatDoor
open Go.RowKit

theorem Dn_cross {num den num' den' r : Nat} (hd : 0 < den) (hd' : 0 < den') (h : num * den' = num' * den) (k : Flt.Dn num den r) : Flt.Dn num' den' r := by
  refine ⟨k.1, ?_, fun h1 => ?_⟩
  · have a1 := Nat.mul_le_mul_right den' k.2.1
    rw [h, Nat.mul_right_comm] at a1
    exact Nat.le_of_mul_le_mul_right a1 hd
  · have a1 := Nat.mul_lt_mul_of_pos_right (k.2.2 h1) hd'
    rw [h, Nat.mul_right_comm] at a1
    exact Nat.lt_of_mul_lt_mul_right a1
theorem hiR_cross {num den num' den' r : Nat} (hd : 0 < den) (hd' : 0 < den') (h : num * den' = num' * den) : hiR num den r = hiR num' den' r := by
  have e : (Flt.val r * den = num) ↔ (Flt.val r * den' = num') := by
    constructor
    · intro k
      have a1 : Flt.val r * den' * den = num' * den := by rw [Nat.mul_right_comm, k, h]
      exact Nat.eq_of_mul_eq_mul_right hd a1
    · intro k
      have a1 : Flt.val r * den * den' = num * den' := by rw [Nat.mul_right_comm, k, h]
      exact Nat.eq_of_mul_eq_mul_right hd' a1
  unfold hiR
  by_cases k : Flt.val r * den = num
  · rw [if_pos k, if_pos (e.1 k)]
  · rw [if_neg k, if_neg (fun q => k (e.2 q))]
theorem Brk_cross {s : Bool} {num den num' den' d u : Nat} (hd : 0 < den) (hd' : 0 < den') (h : num * den' = num' * den) (k : Brk s num den d u) : Brk s num' den' d u := by
  obtain ⟨r, h1, h2, h3⟩ := k
  rw [hiR_cross hd hd' h] at h2 h3
  exact ⟨r, Dn_cross hd hd' h h1, h2, h3⟩
/-- A quotient of numbers of so many bits. -/
theorem quo_bits {P Q b N : Nat} (hb : 1 ≤ b) (hP1 : 2 ^ (b + 63) ≤ P) (hP2 : P < 2 ^ (b + 64)) (hQ1 : 2 ^ (b - 1) ≤ Q) (hQ2 : Q < 2 ^ b) (hN : P / Q = N) :
    0 < Q ∧ N * Q ≤ P ∧ P < (N + 1) * Q ∧ 2 ^ 63 ≤ N ∧ N < 2 ^ 65 := by
  have hQ0 : 0 < Q := Nat.lt_of_lt_of_le (Nat.two_pow_pos _) hQ1
  subst hN
  refine ⟨hQ0, Nat.div_mul_le_self _ _, ?_, ?_, ?_⟩
  · have h1 := Nat.lt_div_mul_add (a := P) (b := Q) hQ0
    rw [Nat.add_mul, Nat.one_mul]
    exact h1
  · rw [Nat.le_div_iff_mul_le hQ0]
    refine Nat.le_trans (Nat.mul_le_mul_left _ (Nat.le_of_lt hQ2)) ?_
    rw [← Nat.pow_add, Nat.add_comm]
    exact hP1
  · rw [Nat.div_lt_iff_lt_mul hQ0]
    refine Nat.lt_of_lt_of_le hP2 ?_
    refine Nat.le_trans ?_ (Nat.mul_le_mul_left _ hQ1)
    rw [← Nat.pow_add]
    exact Nat.pow_le_pow_right (by decide) (by omega)
/-- The shifted parts, and what is told of them. -/
theorem at_cross {z D s : Nat} (_hz : 0 < z) (hD : 0 < D) (sgn : Bool) (d u : Nat) :
    (Brk sgn (z * 2 ^ s * 2 ^ (-(s : Int) + 1074).toNat) (D * 2 ^ (-(-(s : Int) + 1074)).toNat) d u → Brk sgn (z * 2 ^ Flt.K74) D d u) ∧
    (Brk sgn (z * 2 ^ ((s : Int) + 1074).toNat) (D * 2 ^ s * 2 ^ (-((s : Int) + 1074)).toNat) d u → Brk sgn (z * 2 ^ Flt.K74) D d u) := by
  have hK : Flt.K74 = 1074 := rfl
  refine ⟨fun h => ?_, fun h => ?_⟩
  · refine Brk_cross (Nat.mul_pos hD (Nat.two_pow_pos _)) hD ?_ h
    rw [Nat.mul_assoc z, ← Nat.pow_add]
    rcases Nat.le_total s 1074 with k | k
    · rw [show s + (-(s : Int) + 1074).toNat = Flt.K74 by rw [hK]; omega, show (-(-(s : Int) + 1074)).toNat = 0 by omega, Nat.pow_zero, Nat.mul_one]
    · rw [show s + (-(s : Int) + 1074).toNat = Flt.K74 + (-(-(s : Int) + 1074)).toNat by rw [hK]; omega, Nat.pow_add]
      generalize 2 ^ (-(-(s : Int) + 1074)).toNat = K
      generalize 2 ^ Flt.K74 = L
      grind
  · refine Brk_cross (Nat.mul_pos (Nat.mul_pos hD (Nat.two_pow_pos _)) (Nat.two_pow_pos _)) hD ?_ h
    rw [show ((s : Int) + 1074).toNat = s + Flt.K74 by rw [hK]; omega, show (-((s : Int) + 1074)).toNat = 0 by omega, Nat.pow_zero, Nat.mul_one, Nat.pow_add]
    generalize 2 ^ s = K
    generalize 2 ^ Flt.K74 = L
    grind
end Go.Proofs.YtjcjphgpmpjmbaaGreatDoor
