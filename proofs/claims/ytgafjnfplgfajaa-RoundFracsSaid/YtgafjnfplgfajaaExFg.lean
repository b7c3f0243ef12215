/-
  The twin of a fraction (TwinFrac).
-/
import Derived.Test.YtgafjnfplgfajaaExFf
namespace Go.Proofs.Ytgafjnfplgfajaa
open Go.RowKit

def RetTwf (W : World) (neg : Bool) (n : Nat) (l : List Nat) (neg' : Bool) (n' : Nat) (l' : List Nat) (e : Ending) (w' : World) : Prop :=
  ∃ g c g' c', e = .returned (.agg #[.bool neg, .slice (some ⟨g, 0, none⟩) n c, .bool neg', .slice (some ⟨g', 0, none⟩) n' c']) ∧ Twl w' g n c l ∧ Twl w' g' n' c' l' ∧ Below W.heap.size W w'
set_option maxRecDepth 100000 in
set_option maxHeartbeats 1600000 in
theorem twin_frac_any (neg neg' : Bool) (A A' : Option Addr) (n c n' c' : Nat) (l l' : List Nat) (w : World) (ha : Sl w A n c l) (hb : Sl w A' n' c' l') (hn : n ≤ 1000000000) (hn' : n' ≤ 1000000000) :
    Calls Try.prog 13 #[.agg #[.bool neg, .slice A n c, .bool neg', .slice A' n' c']] w (RetTwf w neg n l neg' n' l') := by
  have K0 := ((Mm.nil w).var (g := w.heap.size) rfl [.bool neg, .slice A n c, .bool neg', .slice A' n' c'] 38).var (g := w.heap.size + 1) (by simp) [.bool false, .slice none 0 0, .bool false, .slice none 0 0] 38
  have ha0 := ha.below K0.1
  have hb0 := hb.below K0.1
  clear ha hb
  go_enter Try.func13, Try.ntmps13
  go_wp2_with fail
  generalize (w.alloc (.cells #[.bool neg, .slice A n c, .bool neg', .slice A' n' c'] 38)).alloc (.cells #[.bool false, .slice none 0 0, .bool false, .slice none 0 0] 38) = w0 at K0 ha0 hb0 ⊢
  obtain ⟨⟨qa0, qb0, qc0, qd0⟩, _, qi0⟩ := (K0.blk (g := w.heap.size) (vs := [.bool neg, .slice A n c, .bool neg', .slice A' n' c']) (by simp)).four
  obtain ⟨_, _, qz0⟩ := (K0.blk (g := w.heap.size + 1) (vs := [.bool false, .slice none 0 0, .bool false, .slice none 0 0]) (by simp)).four
  go_region_held3 (fun w' => w'.cell? ⟨w.heap.size, 0, none⟩ = some (.bool neg) ∧ w'.cell? ⟨w.heap.size, 1, none⟩ = some (.slice A n c) ∧ w'.cell? ⟨w.heap.size, 2, none⟩ = some (.bool neg') ∧ w'.cell? ⟨w.heap.size, 3, none⟩ = some (.slice A' n' c'))
    (go_keep)
    (first
      | (go_at_call 43; (with_reducible refine (twin_int_any neg A n c l _ ?_ hn).mono ?_); (exact ha0); rintro e1 w1 ⟨g1, c1, rfl, T1, hb1, hf1⟩; (first | (with_reducible have K1 := K0.next hb1) | (with_reducible have K1 := K0.drew.next hb1) | (with_reducible have K1 := (K0.drewN _).next hb1)); have hb01 : Sl w1 A' n' c' l' := hb0.below (by first | exact hb1 | exact below_of_drew hb1 | exact below_of_drewN hb1); have far1 : w0.heap.size ≤ g1 := hf1; have hb1s : w0.heap.size ≤ w1.heap.size := hb1.size; obtain ⟨⟨qa1, qb1, qc1, qd1⟩, _, qi1⟩ := (K1.blk (g := w.heap.size) (vs := [.bool neg, .slice A n c, .bool neg', .slice A' n' c']) (by simp)).four; clear hb1)
      | (go_at_call 43; (with_reducible refine (twin_int_any neg' A' n' c' l' _ ?_ hn').mono ?_); (exact hb01); rintro e2 w2 ⟨g2, c2, rfl, T2, hb2, hf2⟩; (first | (with_reducible have K2 := K1.next hb2) | (with_reducible have K2 := K1.drew.next hb2) | (with_reducible have K2 := (K1.drewN _).next hb2)); have T12 : Twl w2 g1 n c1 l := T1.below (by first | exact hb2 | exact below_of_drew hb2 | exact below_of_drewN hb2); have far2 : w1.heap.size ≤ g2 := hf2; obtain ⟨⟨qa2, qb2, qc2, qd2⟩, _, qi2⟩ := (K2.blk (g := w.heap.size) (vs := [.bool neg, .slice A n c, .bool neg', .slice A' n' c']) (by simp)).four; obtain ⟨⟨ra2, rb2, rc2, rd2⟩, ⟨re2, rf2, rg2, rh2⟩, ri2⟩ := (K2.blk (g := w.heap.size + 1) (vs := [.bool false, .slice none 0 0, .bool false, .slice none 0 0]) (by simp)).four; clear hb2))
  all_goals
   go_wp2_with fail
   have K3 := (K2.pick (L' := [(w.heap.size + 1, [.bool false, .slice none 0 0, .bool false, .slice none 0 0])]) (l' := []) (by simp) (by simp)).set4 (by simp <;> omega) neg (some ⟨g1, 0, none⟩) n c1 neg' (some ⟨g2, 0, none⟩) n' c2
   have T3 := (((T12.far (p := ⟨w.heap.size + 1, 0, none⟩) (.bool neg) (by simp; omega)).far (p := ⟨w.heap.size + 1, 1, none⟩) (.slice (some ⟨g1, 0, none⟩) n c1) (by simp; omega)).far (p := ⟨w.heap.size + 1, 2, none⟩) (.bool neg') (by simp; omega)).far (p := ⟨w.heap.size + 1, 3, none⟩) (.slice (some ⟨g2, 0, none⟩) n' c2) (by simp; omega)
   have T4 := (((T2.far (p := ⟨w.heap.size + 1, 0, none⟩) (.bool neg) (by simp; omega)).far (p := ⟨w.heap.size + 1, 1, none⟩) (.slice (some ⟨g1, 0, none⟩) n c1) (by simp; omega)).far (p := ⟨w.heap.size + 1, 2, none⟩) (.bool neg') (by simp; omega)).far (p := ⟨w.heap.size + 1, 3, none⟩) (.slice (some ⟨g2, 0, none⟩) n' c2) (by simp; omega)
   exact bodyPost_ret (v := .agg #[.bool neg, .slice (some ⟨g1, 0, none⟩) n c1, .bool neg', .slice (some ⟨g2, 0, none⟩) n' c2]) (by simp [results, Try.results13, go_sem, ra2, rb2, rc2, rd2]) rfl ⟨g1, c1, g2, c2, rfl, T3, T4, K3.1⟩
end Go.Proofs.Ytgafjnfplgfajaa
