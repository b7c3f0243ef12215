/-
  The references' whole numbers (polestarref01): doubled so many times.
-/
import Derived.Test.YthddodhcpfponaaRefI
namespace Go.Proofs.Ythddodhcpfponaa
open Go.RowKit

theorem two_pow_lt (k : Nat) (h : k < 32) : 2 ^ k < 4294967296 := Nat.lt_of_lt_of_le (Nat.pow_lt_pow_right (by decide) h) (by decide)
theorem double_lv (l : List Nat) (s : Nat) : Lm.lv (List.replicate (s / 32) 0 ++ l) * 2 ^ (s % 32) = Lm.lv l * 2 ^ s := by
  rw [Lm.lv_append, Lm.lv_zeros, List.length_replicate, Nat.zero_add]
  have e : Lm.B ^ (s / 32) = 2 ^ (32 * (s / 32)) := by rw [Nat.pow_mul]
  rw [e, Nat.mul_comm (2 ^ _), Nat.mul_assoc, ← Nat.pow_add]
  congr 2
  omega

/-- 2^k, closed to the walk. -/
def pw (k : Nat) : Nat := 2 ^ k
theorem pw_succ (k : Nat) : pw (k + 1) = 2 * pw k := by unfold pw; rw [Nat.pow_succ, Nat.mul_comm]
theorem pw_lt (k : Nat) (h : k < 32) : pw k < 4294967296 := two_pow_lt k h

set_option maxRecDepth 100000 in
set_option maxHeartbeats 800000 in
theorem ref_double_pos (neg : Bool) (A : Option Addr) (n c s : Nat) (a : List Nat) (w : World) (ha : Sl w A n c a) (h0 : 0 < n) (hn : n ≤ 100000000) (hs : s ≤ 1000000000) :
    Calls Try.prog 42 #[.agg #[.bool neg, .slice A n c], .int .i64 s] w (RetInt w (sgnd neg (Lm.lv a * 2 ^ s))) := by
  obtain ⟨i0, hi, hz0, hz1, hz2⟩ := info_parts info_u32
  have hne : ((n : Int) == 0) = false := by rw [beq_eq_false_iff_ne]; omega
  obtain ⟨ad, rfl, hb0, _⟩ := ha.at_ (k := 0) h0
  have ha2 := (ha.alloc (.cells #[.bool neg, .slice (some ad) n c] 32)).alloc (.cells #[.bool false, .slice none 0 0] 32)
  have hlen := ha.len
  have HL := Lib.hid hlen
  clear hlen
  go_enter Try.func42, Try.ntmps42
  go_wp2_with (at_make; refine wpList_make_full _ rfl _ _ 30 rfl (w.heap.size + 2) 84 i0 (.int .u32 0) 1 Try.underlying30 hi hz0 hz1 _ _ _ _ (s / 32) rfl rfl (by omega) (by omega) ?c2 ?c3 ?c4 ?_)
  case c2 => rw [hz2]; omega
  case c3 => unfold maxLen; omega
  case c4 => simp
  intro w1 hown1 hgrow1
  rw [made_u32] at hown1
  have hb1 := (Below.refl ((w.alloc (.cells #[.bool neg, .slice (some ad) n c] 32)).alloc (.cells #[.bool false, .slice none 0 0] 32)).heap.size _).grown hgrow1 (Nat.le_refl _) (fun k hk => by cases hk)
  obtain ⟨hc1, hf1⟩ := bcell hb1
  have ha3 := ha2.below hb1
  have k1 := hc1 w.heap.size 1 (by simp <;> omega)
  have hsz1 : w.heap.size + 2 ≤ w1.heap.size := by have := hb1.size; simp at this; omega
  clear hgrow1
  go_wp2_with (at_builtin; refine wpList_append_own _ rfl _ _ 30 rfl (w.heap.size + 2) 84 i0 (.int .u32 0) 1 4 Try.underlying30 hi hz0 hz1 hz2 rfl (by decide) _ _ _ rfl hown1 ad n c (u32s a) rfl ?d0 ?d1 ?d2 ?d3 ?d4 ?d5 ?_)
  case d0 => unfold u32s; simpa using HL.out
  case d1 =>
    intro j u hj
    obtain ⟨ad', e, _, hcell⟩ := ha3.1.2 h0
    injection e with e
    subst e
    exact hcell j u hj
  case d2 =>
    intro u hu
    unfold u32s at hu
    obtain ⟨_, _, rfl⟩ := List.mem_map.1 hu
    rfl
  case d3 => unfold maxLen; omega
  case d4 => omega
  case d5 => exact hsz1
  intro v' w2 hown2 hgrow2 _
  rw [← u32s_append] at hown2
  have hb2 : Below ((w.alloc (.cells #[.bool neg, .slice (some ad) n c] 32)).alloc (.cells #[.bool false, .slice none 0 0] 32)).heap.size _ w2 := hb1.grown hgrow2 hb1.size (fun k hk => by have := own_ge hown1 k hk; simp; omega)
  obtain ⟨A2, c2, rfl, hc2le⟩ := own_form hown2
  have hS2 : Sl w2 A2 (s / 32 + n) c2 (List.replicate (s / 32) 0 ++ a) := Sl.of_own hown2 hc2le (Lm.ok_append (Lm.ok_zeros _) ha.ok)
  clear hown1 hown2 hgrow2 k1 hc1 hf1 hb1 ha3
  obtain ⟨hc, hf⟩ := bcell hb2
  have r1 := hc (w.heap.size + 1) 0 (by simp <;> omega)
  have r2 := hc (w.heap.size + 1) 1 (by simp <;> omega)
  have r3 := hf (w.heap.size + 1) 0 (by simp <;> omega)
  have r4 := hf (w.heap.size + 1) 1 (by simp <;> omega)
  have k1 := hc w.heap.size 0 (by simp <;> omega)
  have hsz2 : w.heap.size + 1 < w2.heap.size := by have := hb2.size; simp at this; omega
  go_wp2
  go_loop [6, 7] (fun f i => ∃ k : Nat, k ≤ s % 32 ∧ i = .int .i64 k ∧ f = .int .u32 (pw k : Nat)) (fun _ i => s % 32 - (intOf i).toNat)
  case atStart => exact ⟨0, Nat.zero_le _, rfl, rfl⟩
  case round =>
    obtain ⟨k, hk, rfl, rfl⟩ := hrel
    have hp1 := pw_lt k (by omega)
    by_cases hlt : k < s % 32
    · have hp2 := pw_lt (k + 1) (by omega)
      have hp3 : 2 * pw k ≤ 4294967295 := by rw [← pw_succ]; omega
      have hpe := Lib.hid (pw_succ k)
      go_wp2
      go_round
      case rel => exact ⟨k + 1, by omega, by go_num, by rw [hpe.out]; go_num⟩
      case measure => simp [intOf]; omega
    · obtain rfl : k = s % 32 := by omega
      go_wp2
      have ne1 : ¬ w.heap.size + 1 = w.heap.size := by omega
      have ne2 : ¬ w.heap.size = w.heap.size + 1 := by omega
      go_region_held3 (fun w' => w'.cell? ⟨w.heap.size, 0, none⟩ = some (.bool neg))
        (go_keep)
        (first | (go_at_call 81; refine (ref_times_any _ _ _ _ _ _ (by exact hS2.drewN 1) (by omega) hp1).mono ?_; rintro e w3 ⟨A3, n3, c3, l3, rfl, hS3, ⟨hv3, hcn3, hl3⟩, hb3⟩; obtain ⟨hc3, hf3⟩ := bcell hb3; have k3 := hc3 w.heap.size 0 (by simp <;> omega); have t1 := hc3 (w.heap.size + 1) 0 (by simp <;> omega); have t2 := hc3 (w.heap.size + 1) 1 (by simp <;> omega); have t3 := hf3 (w.heap.size + 1) 0 (by simp <;> omega); have t4 := hf3 (w.heap.size + 1) 1 (by simp <;> omega); have hn3 := hS3.len; have hz3 : w.heap.size + 1 < w3.heap.size := (by have := hb3.size; simp at this; omega)) | (go_at_call 77; refine (ref_signed_any _ _ _ _ _ _ hS3 (by omega)).mono ?_; rintro e w4 ⟨neg4, A4, n4, c4, rfl, hI4, hb4⟩; obtain ⟨hc4, hf4⟩ := bcell hb4; have k4 := hc4 w.heap.size 0 (by omega); have r5 := hc4 (w.heap.size + 1) 0 (by omega); have r6 := hc4 (w.heap.size + 1) 1 (by omega); have r7 := hf4 (w.heap.size + 1) 0 (by omega); have r8 := hf4 (w.heap.size + 1) 1 (by omega)))
      go_wp2
      have hv : Lm.lv l3 = Lm.lv a * 2 ^ s := by rw [hv3]; exact double_lv a s
      rw [hv] at hI4
      exact bodyPost_ret (v := .agg #[.bool neg4, .slice A4 n4 c4]) (by simp [results, Try.results42, go_sem, r5, r6, t1, t2, r1, r2]) rfl
        ⟨neg4, A4, n4, c4, rfl, isInt_result (b0 := false) (a0 := none) (n0 := 0) (c0 := 0) hI4 (r5.trans (t1.trans (r1.trans (by simp [go_sem])))) (r6.trans (t2.trans (r2.trans (by simp [go_sem])))) _ _,
          below_result (below_next (below_next (below_box (below_box hb2)) (below_of_drew hb3)) hb4) (by omega) _ _⟩

theorem ref_double_any (neg : Bool) (A : Option Addr) (n c s : Nat) (x : Int) (w : World) (hx : IsInt w neg A n c x) (hn : n ≤ 100000000) (hs : s ≤ 1000000000) :
    Calls Try.prog 42 #[.agg #[.bool neg, .slice A n c], .int .i64 s] w (RetInt w (x * 2 ^ s)) := by
  have hz := isInt_zero hx
  obtain ⟨a, ha, ca, hneg, rfl⟩ := hx
  have hpw : sgnd neg (Lm.lv a * 2 ^ s) = sgnd neg (Lm.lv a) * 2 ^ s := by
    unfold sgnd
    split
    · rw [Int.natCast_mul, Int.neg_mul]; simp
    · rw [Int.natCast_mul]; simp
  by_cases h0 : n = 0
  · have hx0 : sgnd neg (Lm.lv a) * 2 ^ s = 0 := by rw [hz.1 h0, Int.zero_mul]
    rw [hx0]
    subst h0
    clear hz hpw hx0
    go_enter Try.func42, Try.ntmps42
    go_wp2
    exact bodyPost_ret (v := .agg #[.bool false, .slice none 0 0]) (by simp [results, Try.results42, go_sem]) rfl
      ⟨false, none, 0, 0, rfl, isInt_nought, ((Below.refl _ _).alloc (Nat.le_refl _) _).alloc (by simp) _⟩
  · rw [← hpw]
    exact ref_double_pos neg A n c s a w ha (by omega) hn hs
end Go.Proofs.Ythddodhcpfponaa
