/-
  May all of these fractions be? (ratio.Checks)
-/
import Derived.Test.YtejlicacndpfpaaExX
namespace Go.Proofs.Ytejlicacndpfpaa
open Go.RowKit

/-- A fraction in memory as limbs: its two numbers' values and limbs. -/
abbrev LmE := (Bool × Option Addr × Nat × Nat × List Nat) × (Bool × Option Addr × Nat × Nat × List Nat)
def LmE.at_ (wr : World) (f : LmE) : Prop := Sl wr f.1.2.1 f.1.2.2.1 f.1.2.2.2.1 f.1.2.2.2.2 ∧ Sl wr f.2.2.1 f.2.2.2.1 f.2.2.2.2.1 f.2.2.2.2.2 ∧ f.1.2.2.1 ≤ 1000000000 ∧ f.2.2.2.1 ≤ 1000000000
theorem LmE.at_.below {w w' : World} {f : LmE} (h : LmE.at_ w f) (hb : Below w.heap.size w w') : LmE.at_ w' f := ⟨h.1.below hb, h.2.1.below hb, h.2.2⟩
def LmE.vs (f : LmE) : List Value := [.bool f.1.1, .slice f.1.2.1 f.1.2.2.1 f.1.2.2.2.1, .bool f.2.1, .slice f.2.2.1 f.2.2.2.1 f.2.2.2.2.1]
/-- A block that holds fractions. -/
def Lfs (wr : World) (g N : Nat) (F : Nat → LmE) : Prop :=
  g < wr.heap.size ∧ ∀ i, i < N → (wr.cell? ⟨g, i * 4, none⟩ = some (.bool (F i).1.1) ∧ wr.cell? ⟨g, i * 4 + 1, none⟩ = some (.slice (F i).1.2.1 (F i).1.2.2.1 (F i).1.2.2.2.1) ∧
    wr.cell? ⟨g, i * 4 + 2, none⟩ = some (.bool (F i).2.1) ∧ wr.cell? ⟨g, i * 4 + 3, none⟩ = some (.slice (F i).2.2.1 (F i).2.2.2.1 (F i).2.2.2.2.1)) ∧ LmE.at_ wr (F i)
theorem Lfs.next {wr w' : World} {g N : Nat} {F : Nat → LmE} (h : Lfs wr g N F) (hb : Below wr.heap.size wr w') : Lfs w' g N F := by
  refine ⟨Nat.lt_of_lt_of_le h.1 hb.size, fun i hi => ?_⟩
  obtain ⟨⟨h0, h1, h2, h3⟩, h4⟩ := h.2 i hi
  obtain ⟨hc, _⟩ := bcell hb
  exact ⟨⟨(hc _ _ h.1).trans h0, (hc _ _ h.1).trans h1, (hc _ _ h.1).trans h2, (hc _ _ h.1).trans h3⟩, h4.below hb⟩
open Classical in
noncomputable def okB (f : LmE) : Bool := decide (okFr f.1.1 f.1.2.2.2.2 f.2.1 f.2.2.2.2.2)
open Classical in
theorem okB_iff (f : LmE) : okB f = true ↔ okFr f.1.1 f.1.2.2.2.2 f.2.1 f.2.2.2.2.2 := by
  unfold okB
  exact decide_eq_true_iff
open Classical in
theorem okB_chk (f : LmE) : chkFr f.1.1 f.1.2.2.2.2 f.2.1 f.2.2.2.2.2 = if okB f then 0 else 1 := by
  unfold okB
  by_cases h : okFr f.1.1 f.1.2.2.2.2 f.2.1 f.2.2.2.2.2
  · rw [chkFr_ok h, decide_eq_true h]; rfl
  · rw [chkFr_no h, decide_eq_false h]; rfl
/-- May all of the first so many be? -/
noncomputable def okAll (F : Nat → LmE) : Nat → Bool
  | 0 => true
  | n + 1 => okAll F n && okB (F n)
theorem okAll_no {F : Nat → LmE} {k N : Nat} (hk : k < N) (h : okB (F k) = false) : okAll F N = false := by
  induction N with
  | zero => omega
  | succ n ih =>
    unfold okAll
    rcases Nat.lt_or_ge k n with h1 | h1
    · rw [ih h1]; rfl
    · have : k = n := by omega
      subst this
      rw [h, Bool.and_false]

set_option maxRecDepth 100000 in
set_option maxHeartbeats 3200000 in
theorem rat_checks_any (g N c : Nat) (F : Nat → LmE) (w : World) (hL : Lfs w g N F) (hN : N ≤ 1000) (hc : N ≤ c) :
    Calls Try.prog 83 #[.slice (some ⟨g, 0, none⟩) N c] w (RetV w (.bool (okAll F N))) := by
  have hg := hL.1
  go_enter Try.func83, Try.ntmps83
  go_wp2_with fail
  go_loopw [7] (fun i wr => ∃ k : Nat, k ≤ N ∧ i = .int .i64 (k : Int) ∧ Hid (okAll F k = true) ∧ Below w.heap.size w wr) (fun i _ => N - (intOf i).toNat)
  case atStart => exact ⟨0, Nat.zero_le _, rfl, Lib.hid rfl, Below.refl _ _⟩
  case round =>
    obtain ⟨k, hk, rfl, HK, hb⟩ := hrel
    have hsz := hb.size
    by_cases hlt : k < N
    · obtain ⟨hg1, hall⟩ := hL.next hb
      obtain ⟨⟨a0, a1, a2, a3⟩, hS, hS', hn, hn'⟩ := hall k hlt
      have HCk := Lib.hid (okB_chk (F k))
      have HOK : Hid (okAll F (k + 1) = (okAll F k && okB (F k))) := Lib.hid rfl
      have HNO : Hid (okB (F k) = false → okAll F N = false) := Lib.hid (okAll_no hlt)
      obtain ⟨f, hf⟩ : ∃ f, F k = f := ⟨_, rfl⟩
      rw [hf] at a0 a1 a2 a3 hS hS' hn hn' HCk HOK HNO
      obtain ⟨⟨neg, A, n, c1, l⟩, neg', A', n', c1', l'⟩ := f
      simp only at a0 a1 a2 a3 hS hS' hn hn' HCk
      have hlt' : (k : Int) < (N : Int) := by omega
      have hk0 : (0 : Int) ≤ (k : Int) := Int.natCast_nonneg _
      clear hall hf
      go_wp2_with fail
      refine (ratio_check neg neg' A A' n c1 n' c1' l l' _ (hS.alloc _) (hS'.alloc _) hn hn').mono ?_
      rintro e1 w1 ⟨rfl, hb1⟩
      obtain ⟨b, hob⟩ : ∃ b, okB ((neg, A, n, c1, l), (neg', A', n', c1', l')) = b := ⟨_, rfl⟩
      rw [hob] at HCk HOK HNO
      rw [HCk.out]
      clear hob
      cases b with
      | false =>
        have HF : Hid (okAll F N = false) := Lib.hid (HNO.out rfl)
        go_wp2_with fail
        go_ret
        exact ⟨by rw [HF.out]; rfl, (hb.trans (((Below.refl _ _).alloc (Nat.le_refl _) _).mono hsz)).trans (hb1.mono (by simp; omega))⟩
      | true =>
        go_wp2_with fail
        refine ⟨⟨k + 1, hlt, congrArg (Value.int .i64) (by omega), Lib.hid (by rw [HOK.out, HK.out]; rfl), (hb.trans (((Below.refl _ _).alloc (Nat.le_refl _) _).mono hsz)).trans (hb1.mono (by simp; omega))⟩, ?_⟩
        simp [intOf]
        omega
    · obtain rfl : k = N := by omega
      have hnl : ¬ (k : Int) < (k : Int) := by omega
      go_wp2_with fail
      go_ret
      exact ⟨by rw [HK.out]; rfl, hb⟩
end Go.Proofs.Ytejlicacndpfpaa
