/-
  The references' whole numbers (polestarref01): limbs less limbs.
-/
import Derived.Test.YthddodhcpfponaaRefB
namespace Go.Proofs.Ythddodhcpfponaa
open Go.RowKit

set_option maxRecDepth 100000 in
set_option maxHeartbeats 1600000 in
theorem ref_sub_any (A A' : Option Addr) (n c n' c' : Nat) (a b : List Nat) (w : World) (ha : Sl w A n c a) (hb : Sl w A' n' c' b) (hn : n ≤ 1000000000) (hn' : n' ≤ n) (hle : Lm.lv b ≤ Lm.lv a) :
    Calls Try.prog 80 #[.slice A n c, .slice A' n' c'] w (RetLimbs w fun l => Lm.lv l = Lm.lv a - Lm.lv b ∧ Lm.canon l ∧ l.length ≤ n) := by
  have la := ha.len
  have lb := hb.len
  obtain ⟨i0, hi, hz0, hz1, hz2⟩ := info_parts info_u32
  have HL : Hid (a.length = n ∧ b.length = n') := ⟨la, lb⟩
  have HLE : Hid (Lm.lv b ≤ Lm.lv a) := hle
  clear la lb hle
  go_enter Try.func80, Try.ntmps80
  go_wp2
  go_loopw [5, 6, 7] (fun v cr i wr => ∃ (k q : Nat) (out : List Nat), k ≤ n ∧ q ≤ 1 ∧ i = .int .i64 k ∧ cr = .int .u64 q ∧ Hid (out.length = k) ∧ wr.ownsRow w.heap.size 84 1 v k (u32s out) ∧ Lm.ok out ∧
      Hid (Lm.lv out + Lm.lv (b.take k) = Lm.lv (a.take k) + Lm.B ^ k * q) ∧ Below w.heap.size w wr)
    (fun _ _ i _ => n - (intOf i).toNat)
  case atStart => exact ⟨0, 0, [], by omega, by omega, rfl, rfl, (rfl : ([] : List Nat).length = 0), World.ownsRow_nil _ _ _ _, Lm.ok_nil, (by simp [Lm.lv] : Lm.lv [] + Lm.lv (b.take 0) = Lm.lv (a.take 0) + Lm.B ^ 0 * 0), Below.refl _ _⟩
  case round =>
    obtain ⟨k, q, out, hk, hq, rfl, rfl, hol, hown, hok, HE, hnx⟩ := hrel
    have ha' := ha.below hnx
    have hb' := hb.below hnx
    have hsz := hnx.size
    by_cases h1 : k < n
    · obtain ⟨ad, rfl, hba, hla, hca, hxa⟩ := ha'.at_ h1
      by_cases h2 : k < n'
      · obtain ⟨ad', rfl, hbb, hlb, hcb, hxb⟩ := hb'.at_ h2
        by_cases h3 : a[k] < q + b[k]
        · go_wp2_with (at_builtin; refine wpList_append_own _ rfl _ _ 30 rfl w.heap.size 84 i0 (.int .u32 0) 1 4 Try.underlying30 hi hz0 hz1 hz2 rfl (by decide) _ _ _ rfl (hown.alloc _) ⟨wr.heap.size, 0, none⟩ 1 1 [_] rfl rfl (cell_one_new _ _ _) ?c2 ?c3 ?c4 ?c5 ?_)
          case c2 => intro u hu; simp at hu; subst hu; rfl
          case c3 => unfold maxLen; omega
          case c4 => omega
          case c5 => simp; omega
          intro v' w1 hown' hgrow _
          have R := own_snoc (d := (a[k] + 4294967296 - (q + b[k]))) hown' (by omega)
          have hb1 : Below w.heap.size w w1 := (hnx.alloc (by omega) _).grown hgrow (by simp; omega) (own_ge hown)
          have hE := Lm.sub_step (r := 1) (d := (a[k] + 4294967296 - (q + b[k]))) hol.out HE.out (Lm.take_in a hla) (Lm.take_in b hlb) (by omega)
          have HE' := Lib.hid hE
          clear hE hown' hgrow hown
          go_wp2
          go_roundw
          case rel => exact ⟨k + 1, 1, out ++ [(a[k] + 4294967296 - (q + b[k]))], by omega, by omega, by go_num, rfl, (by simp [hol.out] : (out ++ [(a[k] + 4294967296 - (q + b[k]))]).length = k + 1), R, Lm.ok_append hok (Lm.ok_one (by show _ < 4294967296; omega)), HE'.out, hb1⟩
          case measure => simp [intOf]; omega
        · go_wp2_with (at_builtin; refine wpList_append_own _ rfl _ _ 30 rfl w.heap.size 84 i0 (.int .u32 0) 1 4 Try.underlying30 hi hz0 hz1 hz2 rfl (by decide) _ _ _ rfl (hown.alloc _) ⟨wr.heap.size, 0, none⟩ 1 1 [_] rfl rfl (cell_one_new _ _ _) ?d2 ?d3 ?d4 ?d5 ?_)
          case d2 => intro u hu; simp at hu; subst hu; rfl
          case d3 => unfold maxLen; omega
          case d4 => omega
          case d5 => simp; omega
          intro v' w1 hown' hgrow _
          have R := own_snoc (d := (a[k] - (q + b[k]))) hown' (by omega)
          have hb1 : Below w.heap.size w w1 := (hnx.alloc (by omega) _).grown hgrow (by simp; omega) (own_ge hown)
          have hE := Lm.sub_step (r := 0) (d := (a[k] - (q + b[k]))) hol.out HE.out (Lm.take_in a hla) (Lm.take_in b hlb) (by omega)
          have HE' := Lib.hid hE
          clear hE hown' hgrow hown
          go_wp2
          go_roundw
          case rel => exact ⟨k + 1, 0, out ++ [(a[k] - (q + b[k]))], by omega, by omega, by go_num, rfl, (by simp [hol.out] : (out ++ [(a[k] - (q + b[k]))]).length = k + 1), R, Lm.ok_append hok (Lm.ok_one (by show _ < 4294967296; omega)), HE'.out, hb1⟩
          case measure => simp [intOf]; omega
      · have hlb : b.length ≤ k := by rw [HL.out.2]; omega
        by_cases h3 : a[k] < q + 0
        · go_wp2_with (at_builtin; refine wpList_append_own _ rfl _ _ 30 rfl w.heap.size 84 i0 (.int .u32 0) 1 4 Try.underlying30 hi hz0 hz1 hz2 rfl (by decide) _ _ _ rfl (hown.alloc _) ⟨wr.heap.size, 0, none⟩ 1 1 [_] rfl rfl (cell_one_new _ _ _) ?e2 ?e3 ?e4 ?e5 ?_)
          case e2 => intro u hu; simp at hu; subst hu; rfl
          case e3 => unfold maxLen; omega
          case e4 => omega
          case e5 => simp; omega
          intro v' w1 hown' hgrow _
          have R := own_snoc (d := (a[k] + 4294967296 - (q + 0))) hown' (by omega)
          have hb1 : Below w.heap.size w w1 := (hnx.alloc (by omega) _).grown hgrow (by simp; omega) (own_ge hown)
          have hE := Lm.sub_step (r := 1) (d := (a[k] + 4294967296 - (q + 0))) hol.out HE.out (Lm.take_in a hla) (Lm.take_out b hlb) (by omega)
          have HE' := Lib.hid hE
          clear hE hown' hgrow hown
          go_wp2
          go_roundw
          case rel => exact ⟨k + 1, 1, out ++ [(a[k] + 4294967296 - (q + 0))], by omega, by omega, by go_num, rfl, (by simp [hol.out] : (out ++ [(a[k] + 4294967296 - (q + 0))]).length = k + 1), R, Lm.ok_append hok (Lm.ok_one (by show _ < 4294967296; omega)), HE'.out, hb1⟩
          case measure => simp [intOf]; omega
        · go_wp2_with (at_builtin; refine wpList_append_own _ rfl _ _ 30 rfl w.heap.size 84 i0 (.int .u32 0) 1 4 Try.underlying30 hi hz0 hz1 hz2 rfl (by decide) _ _ _ rfl (hown.alloc _) ⟨wr.heap.size, 0, none⟩ 1 1 [_] rfl rfl (cell_one_new _ _ _) ?f2 ?f3 ?f4 ?f5 ?_)
          case f2 => intro u hu; simp at hu; subst hu; rfl
          case f3 => unfold maxLen; omega
          case f4 => omega
          case f5 => simp; omega
          intro v' w1 hown' hgrow _
          have R := own_snoc (d := (a[k] - (q + 0))) hown' (by omega)
          have hb1 : Below w.heap.size w w1 := (hnx.alloc (by omega) _).grown hgrow (by simp; omega) (own_ge hown)
          have hE := Lm.sub_step (r := 0) (d := (a[k] - (q + 0))) hol.out HE.out (Lm.take_in a hla) (Lm.take_out b hlb) (by omega)
          have HE' := Lib.hid hE
          clear hE hown' hgrow hown
          go_wp2
          go_roundw
          case rel => exact ⟨k + 1, 0, out ++ [(a[k] - (q + 0))], by omega, by omega, by go_num, rfl, (by simp [hol.out] : (out ++ [(a[k] - (q + 0))]).length = k + 1), R, Lm.ok_append hok (Lm.ok_one (by show _ < 4294967296; omega)), HE'.out, hb1⟩
          case measure => simp [intOf]; omega
    · obtain rfl : k = n := by omega
      have hout := hol.out
      obtain ⟨A1, c1, rfl, hc1⟩ := own_form hown
      have hS : Sl wr A1 k c1 out := Sl.of_own hown hc1 hok
      have htl := trim_len out
      have E : Hid (Lm.lv out = Lm.lv a - Lm.lv b) := by
        have h1 := HE.out
        rw [Lm.lv_take_ge a k (by rw [HL.out.1]; omega), Lm.lv_take_ge b k (by rw [HL.out.2]; omega)] at h1
        have h2 := Lm.lv_lt hok
        rw [hout] at h2
        have h3 := HLE.out
        have hq0 : q = 0 := by
          rcases Nat.eq_zero_or_pos q with h | h
          · exact h
          · have : q = 1 := by omega
            subst this; omega
        subst hq0
        show Lm.lv out = Lm.lv a - Lm.lv b
        omega
      clear hout
      go_wp2_with (go_at_call 104; refine (ref_trim_any _ _ _ _ _ hS (by omega)).mono ?_; rintro e w' ⟨rfl, rfl⟩)
      go_ret
      exact ⟨A1, _, c1, Lm.trim out, rfl, hS.trim, ⟨by rw [Lm.trim_lv]; exact E.out, Lm.trim_canon _, by have := hol.out; omega⟩, hnx⟩
end Go.Proofs.Ythddodhcpfponaa
