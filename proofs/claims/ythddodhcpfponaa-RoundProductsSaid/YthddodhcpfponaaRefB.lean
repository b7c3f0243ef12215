/-
  The references' whole numbers (polestarref01): limbs and limbs, limbs less limbs.
-/
import Derived.Test.YthddodhcpfponaaRefA
namespace Go.Proofs.Ythddodhcpfponaa
open Go.RowKit

theorem info_u32 : (Try.prog.info? 84).map (fun i => (i.zero, i.size, i.bytes)) = some (some (.int .u32 0), 1, 4) := by kernel_rfl


set_option maxHeartbeats 1600000 in
theorem ref_add_any (A A' : Option Addr) (n c n' c' : Nat) (a b : List Nat) (w : World) (ha : Sl w A n c a) (hb : Sl w A' n' c' b) (hn : n ≤ 1000000000) (hn' : n' ≤ 1000000000) :
    Calls Try.prog 78 #[.slice A n c, .slice A' n' c'] w (RetLimbs w fun l => Lm.lv l = Lm.lv a + Lm.lv b ∧ l.length ≤ max n n' + 1) := by
  have la := ha.len
  have lb := hb.len
  obtain ⟨i0, hi, hz0, hz1, hz2⟩ := info_parts info_u32
  have HL : Hid (a.length = n ∧ b.length = n') := ⟨la, lb⟩
  clear la lb
  go_enter Try.func78, Try.ntmps78
  go_wp2
  go_loopw [5, 6, 7] (fun v cr i wr => ∃ (k q : Nat) (out : List Nat), k ≤ max n n' + 1 ∧ q ≤ 1 ∧ (k = max n n' + 1 → q = 0) ∧ i = .int .i64 k ∧ cr = .int .u64 q ∧ Hid (out.length = k) ∧ wr.ownsRow w.heap.size 84 1 v k (u32s out) ∧ Lm.ok out ∧
      Hid (Lm.lv out + Lm.B ^ k * q = Lm.lv (a.take k) + Lm.lv (b.take k)) ∧ Below w.heap.size w wr)
    (fun _ _ i _ => max n n' + 1 - (intOf i).toNat)
  case atStart => exact ⟨0, 0, [], by omega, by omega, fun _ => rfl, rfl, rfl, (rfl : ([] : List Nat).length = 0), World.ownsRow_nil _ _ _ _, Lm.ok_nil, (by simp [Lm.lv] : Lm.lv [] + Lm.B ^ 0 * 0 = Lm.lv (a.take 0) + Lm.lv (b.take 0)), Below.refl _ _⟩
  case round =>
    obtain ⟨k, q, out, hk, hq, hkq, rfl, rfl, hol, hown, hok, HE, hnx⟩ := hrel
    have ha' := ha.below hnx
    have hb' := hb.below hnx
    have hsz := hnx.size
    by_cases h1 : k < n
    · obtain ⟨ad, rfl, hba, hla, hca, hxa⟩ := ha'.at_ h1
      by_cases h2 : k < n'
      · obtain ⟨ad', rfl, hbb, hlb, hcb, hxb⟩ := hb'.at_ h2
        go_wp2_with (at_builtin; refine wpList_append_own _ rfl _ _ 30 rfl w.heap.size 84 i0 (.int .u32 0) 1 4 Try.underlying30 hi hz0 hz1 hz2 rfl (by decide) _ _ _ rfl (hown.alloc _) ⟨wr.heap.size, 0, none⟩ 1 1 [_] rfl rfl (cell_one_new _ _ _) ?c2 ?c3 ?c4 ?c5 ?_)
        case c2 => intro u hu; simp at hu; subst hu; rfl
        case c3 => unfold maxLen; omega
        case c4 => omega
        case c5 => simp; omega
        intro v' w1 hown' hgrow _
        have R := own_snoc (d := (q + a[k] + b[k]) % 4294967296) hown' (by omega)
        have hb1 : Below w.heap.size w w1 := (hnx.alloc (by omega) _).grown hgrow (by simp; omega) (own_ge hown)
        have hE := Lm.add_step hol.out HE.out (Lm.take_in a hla) (Lm.take_in b hlb)
        have HE' := Lib.hid hE
        clear hE hown' hgrow hown
        go_wp2
        go_roundw
        case rel => exact ⟨k + 1, (q + a[k] + b[k]) / 4294967296, out ++ [(q + a[k] + b[k]) % 4294967296], by omega, by omega, by omega, by go_num, by go_num, (by simp [hol.out] : (out ++ [(q + a[k] + b[k]) % 4294967296]).length = k + 1), R, Lm.ok_append hok (Lm.ok_one (Nat.mod_lt _ (by decide))), HE'.out, hb1⟩
        case measure => simp [intOf]; omega
      · have hlb : b.length ≤ k := by rw [HL.out.2]; omega
        go_wp2_with (at_builtin; refine wpList_append_own _ rfl _ _ 30 rfl w.heap.size 84 i0 (.int .u32 0) 1 4 Try.underlying30 hi hz0 hz1 hz2 rfl (by decide) _ _ _ rfl (hown.alloc _) ⟨wr.heap.size, 0, none⟩ 1 1 [_] rfl rfl (cell_one_new _ _ _) ?d2 ?d3 ?d4 ?d5 ?_)
        case d2 => intro u hu; simp at hu; subst hu; rfl
        case d3 => unfold maxLen; omega
        case d4 => omega
        case d5 => simp; omega
        intro v' w1 hown' hgrow _
        have R := own_snoc (d := (q + a[k] + 0) % 4294967296) hown' (by omega)
        have hb1 : Below w.heap.size w w1 := (hnx.alloc (by omega) _).grown hgrow (by simp; omega) (own_ge hown)
        have hE := Lm.add_step hol.out HE.out (Lm.take_in a hla) (Lm.take_out b hlb)
        have HE' := Lib.hid hE
        clear hE hown' hgrow hown
        go_wp2
        go_roundw
        case rel => exact ⟨k + 1, (q + a[k] + 0) / 4294967296, out ++ [(q + a[k] + 0) % 4294967296], by omega, by omega, by omega, by go_num, by go_num, (by simp [hol.out] : (out ++ [(q + a[k] + 0) % 4294967296]).length = k + 1), R, Lm.ok_append hok (Lm.ok_one (Nat.mod_lt _ (by decide))), HE'.out, hb1⟩
        case measure => simp [intOf]; omega
    · have hla : a.length ≤ k := by rw [HL.out.1]; omega
      by_cases h2 : k < n'
      · obtain ⟨ad', rfl, hbb, hlb, hcb, hxb⟩ := hb'.at_ h2
        go_wp2_with (at_builtin; refine wpList_append_own _ rfl _ _ 30 rfl w.heap.size 84 i0 (.int .u32 0) 1 4 Try.underlying30 hi hz0 hz1 hz2 rfl (by decide) _ _ _ rfl (hown.alloc _) ⟨wr.heap.size, 0, none⟩ 1 1 [_] rfl rfl (cell_one_new _ _ _) ?e2 ?e3 ?e4 ?e5 ?_)
        case e2 => intro u hu; simp at hu; subst hu; rfl
        case e3 => unfold maxLen; omega
        case e4 => omega
        case e5 => simp; omega
        intro v' w1 hown' hgrow _
        have R := own_snoc (d := (q + 0 + b[k]) % 4294967296) hown' (by omega)
        have hb1 : Below w.heap.size w w1 := (hnx.alloc (by omega) _).grown hgrow (by simp; omega) (own_ge hown)
        have hE := Lm.add_step hol.out HE.out (Lm.take_out a hla) (Lm.take_in b hlb)
        have HE' := Lib.hid hE
        clear hE hown' hgrow hown
        go_wp2
        go_roundw
        case rel => exact ⟨k + 1, (q + 0 + b[k]) / 4294967296, out ++ [(q + 0 + b[k]) % 4294967296], by omega, by omega, by omega, by go_num, by go_num, (by simp [hol.out] : (out ++ [(q + 0 + b[k]) % 4294967296]).length = k + 1), R, Lm.ok_append hok (Lm.ok_one (Nat.mod_lt _ (by decide))), HE'.out, hb1⟩
        case measure => simp [intOf]; omega
      · have hlb : b.length ≤ k := by rw [HL.out.2]; omega
        by_cases h3 : q = 0
        · subst h3
          go_wp2
          go_ret
          obtain ⟨A1, c1, rfl, hc1⟩ := own_form hown
          exact ⟨A1, k, c1, out, rfl, Sl.of_own hown hc1 hok, ⟨by have := HE.out; rw [Lm.lv_take_ge a k hla, Lm.lv_take_ge b k hlb] at this; omega, by have := hol.out; omega⟩, hnx⟩
        · have h3' : 0 < q := by omega
          go_wp2_with (at_builtin; refine wpList_append_own _ rfl _ _ 30 rfl w.heap.size 84 i0 (.int .u32 0) 1 4 Try.underlying30 hi hz0 hz1 hz2 rfl (by decide) _ _ _ rfl (hown.alloc _) ⟨wr.heap.size, 0, none⟩ 1 1 [_] rfl rfl (cell_one_new _ _ _) ?f2 ?f3 ?f4 ?f5 ?_)
          case f2 => intro u hu; simp at hu; subst hu; rfl
          case f3 => unfold maxLen; omega
          case f4 => omega
          case f5 => simp; omega
          intro v' w1 hown' hgrow _
          have R := own_snoc (d := (q + 0 + 0) % 4294967296) hown' (by omega)
          have hb1 : Below w.heap.size w w1 := (hnx.alloc (by omega) _).grown hgrow (by simp; omega) (own_ge hown)
          have hE := Lm.add_step hol.out HE.out (Lm.take_out a hla) (Lm.take_out b hlb)
          have HE' := Lib.hid hE
          clear hE hown' hgrow hown
          go_wp2
          go_roundw
          case rel => exact ⟨k + 1, (q + 0 + 0) / 4294967296, out ++ [(q + 0 + 0) % 4294967296], by omega, by omega, by omega, by go_num, by go_num, (by simp [hol.out] : (out ++ [(q + 0 + 0) % 4294967296]).length = k + 1), R, Lm.ok_append hok (Lm.ok_one (Nat.mod_lt _ (by decide))), HE'.out, hb1⟩
          case measure => simp [intOf]; omega
end Go.Proofs.Ythddodhcpfponaa
