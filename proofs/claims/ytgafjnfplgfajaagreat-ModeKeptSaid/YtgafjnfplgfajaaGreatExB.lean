/-
  The program's whole numbers (package exact): bits, copies, times a power of two.
-/
import Derived.Test.YtgafjnfplgfajaaGreatExW
namespace Go.Proofs.YtgafjnfplgfajaaGreat
open Go.RowKit

theorem bitLen_32 {x : Nat} (h : x < 4294967296) : bitLen x ≤ 32 := by
  unfold bitLen
  split
  · omega
  · rename_i hh
    have := (Nat.log2_lt hh).2 (show x < 2 ^ 32 from h)
    omega
/-! ### copies -/
/-- A row of limbs of the call's own. -/
def RetOwn (W : World) (l : List Nat) (e : Ending) (w' : World) : Prop :=
  ∃ A n c, e = .returned (.slice A n c) ∧ w'.ownsRow W.heap.size 64 1 (.slice A n c) n (u32s l) ∧ n ≤ c ∧ Below W.heap.size W w'
theorem u32s_len (l : List Nat) : (u32s l).length = l.length := by unfold u32s; simp
set_option maxRecDepth 100000 in
set_option maxHeartbeats 800000 in
theorem ex_clone_any (A : Option Addr) (n c : Nat) (l : List Nat) (w : World) (h : Sl w A n c l) (hn : n ≤ 1000000000) :
    Calls Tryz.prog 76 #[.slice A n c] w (RetOwn w l) := by
  obtain ⟨i0, hi, hz0, hz1, hz2⟩ := info_parts info_u32
  have heq := fun w => Lib.run_eql_slice_nil (P := Tryz.prog) w 22 64 A n c 0 0 Tryz.underlying22
  have hlen := h.len
  have hcap := h.cap
  cases A with
  | none =>
    have hn0 : n = 0 := by
      rcases Nat.eq_zero_or_pos n with h0 | h0
      · exact h0
      · obtain ⟨ad, e, _⟩ := h.1.2 h0
        cases e
    subst hn0
    have hl0 : l = [] := List.eq_nil_of_length_eq_zero hlen
    subst hl0
    go_enter Tryz.func76, Tryz.ntmps76
    go_wp2_with fail
    go_ret
    exact ⟨none, 0, 0, rfl, World.ownsRow_nil _ _ _ _, Nat.le_refl _, Below.refl _ _⟩
  | some ad =>
    have hown0 : (w.alloc (.cells #[] 64)).ownsRow w.heap.size 64 1 (.slice (some ⟨w.heap.size, 0, none⟩) 0 0) 0 [] := World.ownsRow_lit w #[] 0 (Nat.le_refl _) (by decide) rfl
    have h1 := h.alloc (.cells #[] 64)
    go_enter Tryz.func76, Tryz.ntmps76
    go_wp2_with (at_builtin; refine wpList_append_any _ rfl _ _ 22 rfl w.heap.size 64 i0 (.int .u32 0) 4 Tryz.underlying22 hi hz0 hz1 hz2 rfl _ 0 [] rfl hown0 _ (some ad) n c (u32s l) rfl h1.1 (u32s_one l) ?d1 ?d2 ?d3 ?_)
    case d1 => unfold maxLen; omega
    case d2 => omega
    case d3 => simp
    intro v' w2 hown2 hgrow2 hv2
    have hb2 : Below w.heap.size w w2 := ((Below.refl _ _).alloc (Nat.le_refl _) _).grown hgrow2 (by simp) (own_ge hown0)
    obtain ⟨A2, c2, rfl, hc2⟩ := own_form hown2
    go_wp2_with fail
    go_ret
    exact ⟨A2, n, c2, rfl, hown2, hc2, hb2⟩
set_option maxRecDepth 100000 in
set_option maxHeartbeats 800000 in
theorem ex_own_any (neg : Bool) (A : Option Addr) (n c : Nat) (l : List Nat) (w : World) (h : Sl w A n c l) (hn : n ≤ 1000000000) :
    Calls Tryz.prog 75 #[.bool neg, .slice A n c] w (RetInt w (sgnd neg (Lm.lv l))) := by
  have h1 := h.alloc (.cells #[.bool false, .slice none 0 0] 24)
  go_enter Tryz.func75, Tryz.ntmps75
  go_wp2_with fail
  refine (ex_clone_any A n c l _ h1 hn).mono ?_
  rintro e1 w1 ⟨A1, n1, c1, rfl, hown, hc1, hb1⟩
  have hs1 : Sl w1 A1 n1 c1 l := Sl.of_own hown hc1 h.ok
  have hn1 : n1 ≤ 1000000000 := by have := hs1.len; have := h.len; omega
  obtain ⟨bc1, bf1⟩ := bcell hb1
  have hz1 : w.heap.size < w1.heap.size := by have := hb1.size; simp at this; omega
  clear hown
  go_wp2_with fail
  refine (ex_signed_any neg A1 n1 c1 l _ hs1 (by omega)).mono ?_
  rintro e2 w2 ⟨neg2, A2, n2, c2, rfl, hI2, hb2⟩
  obtain ⟨bc2, bf2⟩ := bcell hb2
  have r1 := (bc2 w.heap.size 0 hz1).trans (bc1 w.heap.size 0 (by simp))
  have r2 := (bc2 w.heap.size 1 hz1).trans (bc1 w.heap.size 1 (by simp))
  have r3 := (bf2 w.heap.size 0 hz1).trans (bf1 w.heap.size 0 (by simp))
  have r4 := (bf2 w.heap.size 1 hz1).trans (bf1 w.heap.size 1 (by simp))
  clear bc1 bf1 bc2 bf2
  go_wp2_with fail
  exact bodyPost_ret (v := .agg #[.bool neg2, .slice A2 n2 c2]) (by simp [results, Tryz.results75, go_sem, r1, r2]) rfl
    ⟨neg2, A2, n2, c2, rfl, isInt_result (b0 := false) (a0 := none) (n0 := 0) (c0 := 0) hI2 (r1.trans (by simp [go_sem])) (r2.trans (by simp [go_sem])) _ _, below_result (below_next (below_box hb1) hb2) (Nat.le_refl _) _ _⟩
end Go.Proofs.YtgafjnfplgfajaaGreat
