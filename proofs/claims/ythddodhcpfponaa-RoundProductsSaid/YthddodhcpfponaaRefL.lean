/-
  The references' whole numbers (polestarref01): a number below 2^63 as one of 64 bits.
-/
import Derived.Test.YthddodhcpfponaaRefK
namespace Go.Proofs.Ythddodhcpfponaa
open Go.RowKit

theorem isInt_len_le {w : World} {neg : Bool} {A : Option Addr} {n c : Nat} {z : Int} (h : IsInt w neg A n c z) {k : Nat} (hz : z.natAbs < Lm.B ^ k) : n ≤ k := by
  obtain ⟨l, hl, cl, _, rfl⟩ := h
  have h1 : (sgnd neg (Lm.lv l)).natAbs = Lm.lv l := by unfold sgnd; split <;> omega
  rw [h1] at hz
  rcases Nat.lt_or_ge k n with hk | hk
  · exfalso
    have hne : l ≠ [] := by intro e; subst e; have := hl.len; simp at this; omega
    have h2 := Lm.lv_pos cl hne
    have h3 : Lm.B ^ k ≤ Lm.B ^ (l.length - 1) := Nat.pow_le_pow_right (by decide) (by have := hl.len; omega)
    omega
  · exact hk
def RetSide (W : World) (P : Int → Prop) (e : Ending) (w' : World) : Prop := ∃ r : Int, e = .returned (.int .i64 r) ∧ P r ∧ Below W.heap.size W w'
theorem ref_cmp_ge (neg neg' : Bool) (A A' : Option Addr) (n c n' c' : Nat) (x y : Int) (w : World) (hx : IsInt w neg A n c x) (hy : IsInt w neg' A' n' c' y) (hn : n ≤ 1000000000) (hn' : n' ≤ 1000000000) (h : y ≤ x) :
    Calls Try.prog 89 #[.agg #[.bool neg, .slice A n c], .agg #[.bool neg', .slice A' n' c']] w (RetSide w (0 ≤ ·)) :=
  (ref_cmp_int _ _ _ _ _ _ _ _ _ _ _ hx hy hn hn').mono fun _ _ ⟨he, hb⟩ => ⟨_, he, by unfold icmp; split <;> (try split) <;> omega, hb⟩
theorem ref_cmp_le (neg neg' : Bool) (A A' : Option Addr) (n c n' c' : Nat) (x y : Int) (w : World) (hx : IsInt w neg A n c x) (hy : IsInt w neg' A' n' c' y) (hn : n ≤ 1000000000) (hn' : n' ≤ 1000000000) (h : x ≤ y) :
    Calls Try.prog 89 #[.agg #[.bool neg, .slice A n c], .agg #[.bool neg', .slice A' n' c']] w (RetSide w (· ≤ 0)) :=
  (ref_cmp_int _ _ _ _ _ _ _ _ _ _ _ hx hy hn hn').mono fun _ _ ⟨he, hb⟩ => ⟨_, he, by unfold icmp; split <;> (try split) <;> omega, hb⟩
theorem lv_drop_le (l : List Nat) (k : Nat) : Lm.lv (l.drop k) ≤ Lm.lv l := by
  rcases Nat.lt_or_ge l.length k with h | h
  · rw [List.drop_of_length_le (by omega)]; exact Nat.zero_le _
  · rw [Lm.lv_take_drop l k h]
    have : 1 * Lm.lv (l.drop k) ≤ Lm.B ^ k * Lm.lv (l.drop k) := Nat.mul_le_mul_right _ (Nat.pow_pos (by decide))
    omega

set_option maxRecDepth 100000 in
set_option maxHeartbeats 800000 in
theorem ref_int64_any (neg : Bool) (A : Option Addr) (n c : Nat) (x : Int) (w : World) (hx : IsInt w neg A n c x) (h0 : 0 ≤ x) (h1 : x ≤ 9223372036854775807) :
    Calls Try.prog 123 #[.agg #[.bool neg, .slice A n c]] w (RetV w (.tuple #[.int .i64 x, .bool true])) := by
  have hn : n ≤ 2 := isInt_len_le hx (by show _ < 4294967296 ^ 2; omega)
  have hx1 := hx.alloc (.cells #[.bool neg, .slice A n c] 32)
  have hneg : neg = false := by rw [isInt_neg hx]; exact decide_eq_false (by omega)
  subst hneg
  have hxx := hx1
  go_enter Try.func123, Try.ntmps123
  go_wp2
  obtain ⟨l, hl, cl, hnl, hxe⟩ := hx
  have hck : Hid (chk false l = 0) := chk_ok ⟨by have := hl.len; omega, cl, fun _ => rfl⟩
  go_region_held3 (fun w' => w'.cell? ⟨w.heap.size, 0, none⟩ = some (.bool false) ∧ w'.cell? ⟨w.heap.size, 1, none⟩ = some (.slice A n c))
    (go_keep)
    (first | (go_at_call 100; refine (ref_check_sl _ _ _ _ _ _ (by exact (hl.alloc _).drewN 1) (by omega)).mono ?_; rintro e w1 ⟨rfl, hb1⟩; rw [hck.out]; obtain ⟨hc1, hf1⟩ := bcell hb1; have k1 := hc1 w.heap.size 0 (by simp <;> omega); have k2 := hc1 w.heap.size 1 (by simp <;> omega); have hxx := (hx1.drewN 1).below hb1; have hbw : Below w.heap.size w w1 := below_box (below_of_drew hb1); have hz1 : w.heap.size < w1.heap.size := (by have := hb1.size; simp at this; omega)) | (go_at_call 76; refine (ref_of_any _ _ (by omega)).mono ?_; rintro e w1 ⟨neg1, A1, n1, c1, rfl, hI1, hb1⟩; obtain ⟨hc1, hf1⟩ := bcell hb1; have k1 := hc1 w.heap.size 0 (by omega); have k2 := hc1 w.heap.size 1 (by omega); have hxx := hxx.below hb1; have hbw := below_next hbw hb1; have hz1 : w.heap.size < w1.heap.size := (by have := hb1.size; omega); have hn1 : n1 ≤ 2 := isInt_len_le hI1 (by show _ < 4294967296 ^ 2; omega)) | (go_at_call 89; refine (ref_cmp_ge _ _ _ _ _ _ _ _ _ _ _ hxx hI1 ?_ ?_ ?_).mono ?_; omega; omega; omega; rintro e w1 ⟨r, rfl, hr, hb1⟩; have hr : 0 ≤ r := hr; have hrb : decide (r < 0) = false := decide_eq_false (Int.not_lt.2 hr); obtain ⟨hc1, hf1⟩ := bcell hb1; have k1 := hc1 w.heap.size 0 (by omega); have k2 := hc1 w.heap.size 1 (by omega); have hxx := hxx.below hb1; have hbw := below_next hbw hb1; have hz1 : w.heap.size < w1.heap.size := (by have := hb1.size; omega)) | (go_at_call 89; refine (ref_cmp_le _ _ _ _ _ _ _ _ _ _ _ hxx hI1 ?_ ?_ ?_).mono ?_; omega; omega; omega; rintro e w1 ⟨r, rfl, hr, hb1⟩; have hr : r ≤ 0 := hr; have hrb : decide (0 < r) = false := decide_eq_false (Int.not_lt.2 hr); obtain ⟨hc1, hf1⟩ := bcell hb1; have k1 := hc1 w.heap.size 0 (by omega); have k2 := hc1 w.heap.size 1 (by omega); have hxx := hxx.below hb1; have hbw := below_next hbw hb1; have hz1 : w.heap.size < w1.heap.size := (by have := hb1.size; omega)))
  have hbb : Below w.heap.size w w1 := hbw
  have HXE := Lib.hid hxe
  clear hxe
  obtain ⟨m, hm, cm, _, hxm⟩ := hxx
  have HXM := Lib.hid hxm
  clear hxm
  have HML := Lib.hid hm.len
  have hlm : Lm.lv m ≤ 9223372036854775807 := by have := HXM.out; unfold sgnd at this; simp at this; omega
  go_wp2
  go_loop [4, 5] (fun acc i => ∃ k q : Nat, k ≤ n ∧ i = .int .i64 ((k : Int) - 1) ∧ acc = .int .u64 q ∧ Hid (q = Lm.lv (m.drop k)) ∧ q ≤ 9223372036854775807) (fun _ i => (intOf i + 1).toNat)
  case atStart => exact ⟨n, 0, Nat.le_refl _, rfl, rfl, (by rw [List.drop_of_length_le (by rw [HML.out]; exact Nat.le_refl _)]; rfl : 0 = Lm.lv (m.drop n)), by omega⟩
  case round =>
    obtain ⟨k, q, hk, rfl, rfl, hq, hqb⟩ := hrel
    by_cases h00 : k = 0
    · subst h00
      have E : Hid ((q : Int) = x) := by
        have h := HXM.out
        have h2 := hq.out
        unfold sgnd at h; simp at h
        rw [List.drop_zero] at h2
        show (q : Int) = x
        omega
      go_wp2
      go_ret2
      exact ⟨by rw [← E.out]; rfl, hbb⟩
    · obtain ⟨ad, rfl, hb, hlt, hc, hxl⟩ := hm.at_ (k := k - 1) (by omega)
      have hk1 : 1 ≤ k := by omega
      clear h00
      have hstep : q * 4294967296 + m[k - 1] = Lm.lv (m.drop (k - 1)) := by
        rw [hq.out, Lm.lv_drop m hlt, show k - 1 + 1 = k by omega]
        have : Lm.B = 4294967296 := rfl
        rw [this]; omega
      have hbd : q * 4294967296 + m[k - 1] ≤ 9223372036854775807 := by rw [hstep]; exact Nat.le_trans (lv_drop_le _ _) hlm
      have HS := Lib.hid hstep
      clear hstep
      go_wp2
      go_round
      case rel => exact ⟨k - 1, q * 4294967296 + m[k - 1], by omega, by go_num, by go_num, HS.out, hbd⟩
      case measure => simp [intOf]; omega

theorem ref_number_any (neg : Bool) (A : Option Addr) (n c : Nat) (x : Int) (w : World) (hx : IsInt w neg A n c x) (h0 : 0 ≤ x) (h1 : x ≤ 9223372036854775807) :
    Calls Try.prog 110 #[.agg #[.bool neg, .slice A n c]] w (RetV w (.int .u64 x)) := by
  have hx1 := hx.alloc (.cells #[.bool neg, .slice A n c] 32)
  go_enter Try.func110, Try.ntmps110
  go_wp2_with (go_at_call 123; refine (ref_int64_any _ _ _ _ _ _ (by exact hx1) h0 h1).mono ?_; rintro e w1 ⟨rfl, hb1⟩)
  go_ret
  exact ⟨rfl, below_box hb1⟩
end Go.Proofs.Ythddodhcpfponaa
