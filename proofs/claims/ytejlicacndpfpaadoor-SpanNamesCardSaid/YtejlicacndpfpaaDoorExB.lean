/-
  The program's whole numbers (package exact): bits, copies, times a power of two.
-/
import Derived.Test.YtejlicacndpfpaaDoorExW
namespace Go.Proofs.YtejlicacndpfpaaDoor
open Go.RowKit

theorem len32_of (x L : Nat) (w : World) (h : x < 4294967296) (hL : Hid (bitLen x = L)) : Calls Tryd.prog 82 #[.int .u32 (x : Int)] w fun e w' => e = .returned (.int .i64 (L : Int)) ∧ w = w' := by
  have c := Tryd.bits_Len32 (x : Int) w (by omega) (by omega)
  rw [Int.toNat_natCast, lib_bitLen (by omega), hL.out] at c
  exact c.mono fun _ _ ⟨h1, h2⟩ => ⟨h1, h2.symm⟩
theorem bitLen_32 {x : Nat} (h : x < 4294967296) : bitLen x ≤ 32 := by
  unfold bitLen
  split
  · omega
  · rename_i hh
    have := (Nat.log2_lt hh).2 (show x < 2 ^ 32 from h)
    omega
set_option maxRecDepth 100000 in
set_option maxHeartbeats 800000 in
theorem ex_bits_of (neg : Bool) (A : Option Addr) (n c : Nat) (x : Int) (L : Nat) (w : World) (hx : IsInt w neg A n c x) (hn : n ≤ 100000000) (hL : Hid (bitLen x.natAbs = L)) :
    Calls Tryd.prog 62 #[.agg #[.bool neg, .slice A n c]] w (RetV w (.int .i64 (L : Int))) := by
  have K0 := ((Mm.nil w).int hx).var (g := w.heap.size) rfl [.bool neg, .slice A n c] 24
  obtain ⟨l, hl, cl, _, hxe⟩ := hx
  have habs : x.natAbs = Lm.lv l := by rw [hxe]; unfold sgnd; split <;> omega
  have HL : Hid (bitLen (Lm.lv l) = L) := Lib.hid (by rw [← habs]; exact hL.out)
  clear hxe habs
  have HLEN := Lib.hid hl.len
  by_cases h0 : n = 0
  · subst h0
    have E : Hid (L = 0) := Lib.hid (by have : l = [] := List.eq_nil_of_length_eq_zero HLEN.out; rw [← HL.out, this]; rfl)
    go_enter Tryd.func62, Tryd.ntmps62
    go_wp2_with fail
    go_ret
    exact ⟨by rw [E.out]; rfl, K0.1⟩
  · have hl1 := hl.alloc (.cells #[.bool neg, .slice A n c] 24)
    obtain ⟨ad, rfl, hb, hlt, hc, hxl⟩ := hl1.at_ (k := n - 1) (by omega)
    have hn1 : 1 ≤ n := by omega
    have hne : ((n : Int) == 0) = false := by rw [beq_eq_false_iff_ne]; omega
    clear h0 hl1
    have hT : Hid ((L : Int) = 32 * ((n : Int) - 1) + (bitLen l[n - 1] : Nat)) := Lib.hid (by
      have := bitLen_top hl.ok cl (by rw [HLEN.out]; omega)
      have e : l.length - 1 = n - 1 := by rw [HLEN.out]
      simp only [e] at this
      rw [← HL.out, this]
      omega)
    have hbl := bitLen_32 hxl
    obtain ⟨b, hbb⟩ : ∃ b, bitLen l[n - 1] = b := ⟨_, rfl⟩
    rw [hbb] at hbl hT
    have HB := Lib.hid hbb
    clear hbb
    go_enter Tryd.func62, Tryd.ntmps62
    go_wp2_with fail
    generalize w.alloc (.cells #[.bool neg, .slice (some ad) n c] 24) = w0 at K0 hc hb ⊢
    obtain ⟨qa, qb, _, _, _⟩ := (K0.blk (g := w.heap.size) (vs := [.bool neg, .slice (some ad) n c]) (by simp)).two
    have hi0 : (0 : Int) ≤ (n : Int) - 1 := by omega
    have hi3 : (1 : Int) ≤ (n : Int) := by omega
    have hi4 : 0 < n := by omega
    have hi5 : (0 : Int) < (n : Int) := by omega
    have hi1 : (n : Int) - 1 < (n : Int) := by omega
    have hi2 : ((n : Int) - 1).toNat = n - 1 := by omega
    go_quiet ((go_at_call 82; exact Calls.quiet_of_same ((len32_of _ b _ hxl HB).mono (fun _ _ h => ⟨h.1, h.2.symm⟩))))
    go_wp2_with fail
    go_ret
    exact ⟨by rw [hT.out]; rfl, below_drewN K0.1 _⟩

/-! ### copies -/
/-- A row of limbs of the call's own. -/
def RetOwn (W : World) (l : List Nat) (e : Ending) (w' : World) : Prop :=
  ∃ A n c, e = .returned (.slice A n c) ∧ w'.ownsRow W.heap.size 65 1 (.slice A n c) n (u32s l) ∧ n ≤ c ∧ Below W.heap.size W w'
theorem u32s_len (l : List Nat) : (u32s l).length = l.length := by unfold u32s; simp
set_option maxRecDepth 100000 in
set_option maxHeartbeats 800000 in
theorem ex_clone_any (A : Option Addr) (n c : Nat) (l : List Nat) (w : World) (h : Sl w A n c l) (hn : n ≤ 1000000000) :
    Calls Tryd.prog 78 #[.slice A n c] w (RetOwn w l) := by
  obtain ⟨i0, hi, hz0, hz1, hz2⟩ := info_parts info_u32
  have heq := fun w => Lib.run_eql_slice_nil (P := Tryd.prog) w 22 65 A n c 0 0 Tryd.underlying22
  have hlen := h.len
  have hcap := h.cap
  cases A with
  | none =>
    have hn0 : n = 0 := by
      rcases Nat.eq_zero_or_pos n with h0 | h0
      · exact h0
      · obtain ⟨ad, e, _⟩ := h.1.2 h0
        cases e
    subst hn0
    have hl0 : l = [] := List.eq_nil_of_length_eq_zero hlen
    subst hl0
    go_enter Tryd.func78, Tryd.ntmps78
    go_wp2_with fail
    go_ret
    exact ⟨none, 0, 0, rfl, World.ownsRow_nil _ _ _ _, Nat.le_refl _, Below.refl _ _⟩
  | some ad =>
    have hown0 : (w.alloc (.cells #[] 65)).ownsRow w.heap.size 65 1 (.slice (some ⟨w.heap.size, 0, none⟩) 0 0) 0 [] := World.ownsRow_lit w #[] 0 (Nat.le_refl _) (by decide) rfl
    have h1 := h.alloc (.cells #[] 65)
    go_enter Tryd.func78, Tryd.ntmps78
    go_wp2_with (at_builtin; refine wpList_append_any _ rfl _ _ 22 rfl w.heap.size 65 i0 (.int .u32 0) 4 Tryd.underlying22 hi hz0 hz1 hz2 rfl _ 0 [] rfl hown0 _ (some ad) n c (u32s l) rfl h1.1 (u32s_one l) ?d1 ?d2 ?d3 ?_)
    case d1 => unfold maxLen; omega
    case d2 => omega
    case d3 => simp
    intro v' w2 hown2 hgrow2 hv2
    have hb2 : Below w.heap.size w w2 := ((Below.refl _ _).alloc (Nat.le_refl _) _).grown hgrow2 (by simp) (own_ge hown0)
    obtain ⟨A2, c2, rfl, hc2⟩ := own_form hown2
    go_wp2_with fail
    go_ret
    exact ⟨A2, n, c2, rfl, hown2, hc2, hb2⟩
set_option maxRecDepth 100000 in
set_option maxHeartbeats 800000 in
theorem ex_own_any (neg : Bool) (A : Option Addr) (n c : Nat) (l : List Nat) (w : World) (h : Sl w A n c l) (hn : n ≤ 1000000000) :
    Calls Tryd.prog 76 #[.bool neg, .slice A n c] w (RetInt w (sgnd neg (Lm.lv l))) := by
  have h1 := h.alloc (.cells #[.bool false, .slice none 0 0] 24)
  go_enter Tryd.func76, Tryd.ntmps76
  go_wp2_with fail
  refine (ex_clone_any A n c l _ h1 hn).mono ?_
  rintro e1 w1 ⟨A1, n1, c1, rfl, hown, hc1, hb1⟩
  have hs1 : Sl w1 A1 n1 c1 l := Sl.of_own hown hc1 h.ok
  have hn1 : n1 ≤ 1000000000 := by have := hs1.len; have := h.len; omega
  obtain ⟨bc1, bf1⟩ := bcell hb1
  have hz1 : w.heap.size < w1.heap.size := by have := hb1.size; simp at this; omega
  clear hown
  go_wp2_with fail
  refine (ex_signed_any neg A1 n1 c1 l _ hs1 (by omega)).mono ?_
  rintro e2 w2 ⟨neg2, A2, n2, c2, rfl, hI2, hb2⟩
  obtain ⟨bc2, bf2⟩ := bcell hb2
  have r1 := (bc2 w.heap.size 0 hz1).trans (bc1 w.heap.size 0 (by simp))
  have r2 := (bc2 w.heap.size 1 hz1).trans (bc1 w.heap.size 1 (by simp))
  have r3 := (bf2 w.heap.size 0 hz1).trans (bf1 w.heap.size 0 (by simp))
  have r4 := (bf2 w.heap.size 1 hz1).trans (bf1 w.heap.size 1 (by simp))
  clear bc1 bf1 bc2 bf2
  go_wp2_with fail
  exact bodyPost_ret (v := .agg #[.bool neg2, .slice A2 n2 c2]) (by simp [results, Tryd.results76, go_sem, r1, r2]) rfl
    ⟨neg2, A2, n2, c2, rfl, isInt_result (b0 := false) (a0 := none) (n0 := 0) (c0 := 0) hI2 (r1.trans (by simp [go_sem])) (r2.trans (by simp [go_sem])) _ _, below_result (below_next (below_box hb1) hb2) (Nat.le_refl _) _ _⟩
end Go.Proofs.YtejlicacndpfpaaDoor
