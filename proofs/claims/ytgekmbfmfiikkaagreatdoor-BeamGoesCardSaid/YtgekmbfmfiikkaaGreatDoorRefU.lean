/-
  The references whole numbers (polestarref01): limbs, sums, products, comparisons.
-/
import Derived.Test.YtgekmbfmfiikkaaGreatDoorZero
import Derived.Deep.RegionHeld3
import Derived.StillTailTactics
set_option maxHeartbeats 1600000
set_option maxRecDepth 100000
/-! The references' whole numbers (polestarref01): limbs. -/
namespace Go.Proofs.YtgekmbfmfiikkaaGreatDoor
open Go.RowKit
theorem ref_trim_any (A : Option Addr) (n c : Nat) (l : List Nat) (w : World) (h : Sl w A n c l) (hn : n ≤ 4000000000) :
  Calls Tryz.prog 344 #[.slice A n c] w fun e w' => e = .returned (.slice A (Lm.trim l).length c) ∧ w = w' := by
 have hlen := h.len
 have hcap := h.cap
 go_enter Tryz.func344, Tryz.ntmps344
 go_wp2
 go_loop [0] (fun v => ∃ k : Nat, k ≤ n ∧ v = .slice A k c ∧ Hid (Lm.trim (l.take k) = Lm.trim l)) (fun v => lenOf v)
 case atStart => exact ⟨n, Nat.le_refl _, rfl, by rw [← hlen, List.take_length]; exact rfl⟩
 case round =>
  obtain ⟨k, hk, rfl, hrel⟩ := hrel
  by_cases h0 : k = 0
  ·subst h0
   have e : Lm.trim l = [] := by rw [← hrel.out]; rfl
   have E : Hid (Lm.trim l = []) := e
   clear e
   go_wp2
   go_ret
   exact ⟨by rw [E.out]; rfl, rfl⟩
  ·obtain ⟨ad, rfl, hb, hl, hc, hx⟩ := h.at_ (k := k - 1) (by omega)
   have hk1 : 1 ≤ k := by omega
   clear h0 
   have hd : decide ((0 : Int) < (k : Int)) = true := by simp; omega
   go_wp2
   ·have hz : ((l[k - 1] : Nat) : Int) == 0 := by assumption
    have hz' : l[k - 1] = 0 := by have := beq_iff_eq.1 hz; omega
    refine ⟨⟨k - 1, by omega, rfl, ?_⟩, by simp [lenOf]; omega⟩
    have e : l.take k = l.take (k - 1) ++ [0] := by
     conv => lhs; rw [show k = k - 1 + 1 by omega]
     rw [List.take_succ_eq_append_getElem hl, hz']
    have e2 : Lm.trim (l.take (k - 1)) = Lm.trim l := by rw [← hrel.out, e, Lm.trim_snoc_zero]
    exact e2
   ·have hz : (((l[k - 1] : Nat) : Int) == 0) = false := by assumption
    have hz' : l[k - 1] ≠ 0 := by intro e; rw [e] at hz; simp at hz
    have e : l.take k = l.take (k - 1) ++ [l[k - 1]] := by
     conv => lhs; rw [show k = k - 1 + 1 by omega]
     rw [List.take_succ_eq_append_getElem hl]
    have e2 : (Lm.trim l).length = k := by
     rw [← hrel.out, e, Lm.trim_snoc _ _ hz', ← e, List.length_take]; omega
    go_ret
    exact ⟨by rw [e2]; rfl, rfl⟩
theorem isInt_signed {w : World} {neg : Bool} {A : Option Addr} {n c : Nat} {l : List Nat} (h : Sl w A n c l) (hne : Lm.trim l ≠ []) :
  IsInt w neg A (Lm.trim l).length c (sgnd neg (Lm.lv l)) :=
 ⟨Lm.trim l, h.trim, Lm.trim_canon l, fun e => absurd e hne, by rw [Lm.trim_lv]⟩
theorem isInt_nought {w : World} : IsInt w false none 0 0 0 := ⟨[], Sl.nil, Lm.canon_nil, fun _ => rfl, rfl⟩
theorem ref_signed_any (neg : Bool) (A : Option Addr) (n c : Nat) (l : List Nat) (w : World) (h : Sl w A n c l) (hn : n ≤ 4000000000) :
  Calls Tryz.prog 287 #[.bool neg, .slice A n c] w (RetInt w (sgnd neg (Lm.lv l))) := by
 have hlen := h.len
 have hcap := h.cap
 have htl := trim_len l
 by_cases h0 : Lm.trim l = []
 ·have hlv : Lm.lv l = 0 := by rw [← Lm.trim_lv, h0]; rfl
  have hl0 : ((Lm.trim l).length : Int) = 0 := by rw [h0]; rfl
  have H : Hid (Lm.lv l = 0) := hlv
  clear hlv h0
  go_enter Tryz.func287, Tryz.ntmps287
  go_wp2_with (go_at_call 344; refine (ref_trim_any _ _ _ _ _ (h.alloc _) hn).mono ?_; rintro e w' ⟨rfl, rfl⟩)
  exact bodyPost_ret (v := .agg #[.bool false, .slice none 0 0]) (by simp [results, Tryz.results287, go_sem]) rfl
   ⟨false, none, 0, 0, rfl, by rw [H.out, show sgnd neg 0 = 0 by unfold sgnd; split <;> rfl]; exact isInt_nought, (Below.refl _ _).alloc (Nat.le_refl _) _⟩
 ·have h1 : (((Lm.trim l).length : Int) == 0) = false := by
   have : (Lm.trim l).length ≠ 0 := fun e => h0 (List.eq_nil_of_length_eq_zero e)
   rw [beq_eq_false_iff_ne]; omega
  go_enter Tryz.func287, Tryz.ntmps287
  go_wp2_with (go_at_call 344; refine (ref_trim_any _ _ _ _ _ (h.alloc _) hn).mono ?_; rintro e w' ⟨rfl, rfl⟩)
  exact bodyPost_ret (v := .agg #[.bool neg, .slice A (Lm.trim l).length c]) (by simp [results, Tryz.results287, go_sem]) rfl
   ⟨neg, A, (Lm.trim l).length, c, rfl, (isInt_signed h h0).below ((Below.refl _ _).alloc (Nat.le_refl _) _), (Below.refl _ _).alloc (Nat.le_refl _) _⟩
theorem ref_cmp_any (A A' : Option Addr) (n c n' c' : Nat) (a b : List Nat) (w : World) (ha : Sl w A n c a) (hb : Sl w A' n' c' b) (ca : Lm.canon a) (cb : Lm.canon b) (hn : n ≤ 1000000000) (hn' : n' ≤ 1000000000) :
  Calls Tryz.prog 347 #[.slice A n c, .slice A' n' c'] w fun e w' => e = .returned (.int .i64 (Lm.cmp a b)) ∧ ∃ k, w' = w.drewN k := by
 have la := ha.len
 have lb := hb.len
 by_cases hlt : n < n'
 ·have E : Hid (Lm.cmp a b = -1) := Lm.cmp_neg (Lm.len_of_lv ha.ok hb.ok cb (by omega))
  go_enter Tryz.func347, Tryz.ntmps347
  go_wp2
  go_ret
  exact ⟨by rw [E.out]; rfl, 0, rfl⟩
 ·by_cases hgt : n' < n
  ·have E : Hid (Lm.cmp a b = 1) := Lm.cmp_pos (Lm.len_of_lv hb.ok ha.ok ca (by omega))
   go_enter Tryz.func347, Tryz.ntmps347
   go_wp2
   go_ret
   exact ⟨by rw [E.out]; rfl, 0, rfl⟩
  ·obtain rfl : n = n' := by omega
   go_enter Tryz.func347, Tryz.ntmps347
   go_wp2
   go_loopw [5] (fun i wr => ∃ k : Nat, k ≤ n ∧ i = .int .i64 ((k : Int) - 1) ∧ Hid (a.drop k = b.drop k) ∧ ∃ j, wr = w.drewN j) (fun i _ => (intOf i + 1).toNat)
   case atStart => exact ⟨n, Nat.le_refl _, rfl, (by rw [List.drop_of_length_le (by omega), List.drop_of_length_le (by omega)] : a.drop n = b.drop n), 0, rfl⟩
   case round =>
    obtain ⟨k, hk, rfl, HD, j, rfl⟩ := hrel
    by_cases h0 : k = 0
    ·subst h0
     have E : Hid (Lm.cmp a b = 0) := Lm.cmp_zero (by have := HD.out; simp only [List.drop_zero] at this; rw [this])
     go_wp2
     go_ret
     exact ⟨by rw [E.out]; rfl, j, rfl⟩
    ·obtain ⟨ad, rfl, hba, hla, hca, hxa⟩ := ha.at_ (k := k - 1) (by omega)
     obtain ⟨ad', rfl, hbb, hlb, hcb, hxb⟩ := hb.at_ (k := k - 1) (by omega)
     have hk1 : 1 ≤ k := by omega
     have HD' : Hid (a.drop (k - 1 + 1) = b.drop (k - 1 + 1)) := by rw [show k - 1 + 1 = k by omega]; exact HD
     go_wp2
     go_quiet (fail)
     all_goals go_wp2
     ·have hl : a[k - 1] < b[k - 1] := by assumption
      have E : Lm.cmp a b = -1 := Lm.cmp_neg (Lm.lt_of_limb ha.ok hla hlb HD'.out hl)
      go_ret
      exact ⟨by rw [E]; rfl, _, drew2 _ _ _⟩
     ·have hnl : ¬ a[k - 1] < b[k - 1] := by assumption
      go_quiet (fail)
      all_goals go_wp2
      ·have hl : b[k - 1] < a[k - 1] := by assumption
       have E : Lm.cmp a b = 1 := Lm.cmp_pos (Lm.lt_of_limb hb.ok hlb hla HD'.out.symm hl)
       go_ret
       exact ⟨by rw [E]; rfl, _, drew3 _ _ _ _⟩
      ·have hng : ¬ b[k - 1] < a[k - 1] := by assumption
       have he : a[k - 1] = b[k - 1] := by omega
       go_roundw
       case rel => exact ⟨k - 1, by omega, by go_num, (by rw [List.drop_eq_getElem_cons hla, List.drop_eq_getElem_cons hlb, he, HD'.out] : a.drop (k - 1) = b.drop (k - 1)), _, by first | exact drew3 _ _ _ _ | rfl⟩
       case measure => simp [intOf]; omega
end Go.Proofs.YtgekmbfmfiikkaaGreatDoor
/-! The references' whole numbers (polestarref01): limbs and limbs, limbs less limbs. -/
namespace Go.Proofs.YtgekmbfmfiikkaaGreatDoor
open Go.RowKit
theorem info_u32 : (Tryz.prog.info? 164).map (fun i => (i.zero, i.size, i.bytes)) = some (some (.int .u32 0), 1, 4) := by kernel_rfl
theorem ref_add_any (A A' : Option Addr) (n c n' c' : Nat) (a b : List Nat) (w : World) (ha : Sl w A n c a) (hb : Sl w A' n' c' b) (hn : n ≤ 1000000000) (hn' : n' ≤ 1000000000) :
  Calls Tryz.prog 346 #[.slice A n c, .slice A' n' c'] w (RetLimbs w fun l => Lm.lv l = Lm.lv a + Lm.lv b ∧ l.length ≤ max n n' + 1) := by
 have la := ha.len
 have lb := hb.len
 obtain ⟨i0, hi, hz0, hz1, hz2⟩ := info_parts info_u32
 have HL : Hid (a.length = n ∧ b.length = n') := ⟨la, lb⟩
 clear la lb
 go_enter Tryz.func346, Tryz.ntmps346
 go_wp2
 go_loopw [5, 6, 7] (fun v cr i wr => ∃ (k q : Nat) (out : List Nat), k ≤ max n n' + 1 ∧ q ≤ 1 ∧ (k = max n n' + 1 → q = 0) ∧ i = .int .i64 k ∧ cr = .int .u64 q ∧ Hid (out.length = k) ∧ wr.ownsRow w.heap.size 164 1 v k (u32s out) ∧ Lm.ok out ∧
   Hid (Lm.lv out + Lm.B ^ k * q = Lm.lv (a.take k) + Lm.lv (b.take k)) ∧ Below w.heap.size w wr)
  (fun _ _ i _ => max n n' + 1 - (intOf i).toNat)
 case atStart => exact ⟨0, 0, [], by omega, by omega, fun _ => rfl, rfl, rfl, (rfl : ([] : List Nat).length = 0), World.ownsRow_nil _ _ _ _, Lm.ok_nil, (by simp [Lm.lv] : Lm.lv [] + Lm.B ^ 0 * 0 = Lm.lv (a.take 0) + Lm.lv (b.take 0)), Below.refl _ _⟩
 case round =>
  obtain ⟨k, q, out, hk, hq, hkq, rfl, rfl, hol, hown, hok, HE, hnx⟩ := hrel
  have ha' := ha.below hnx
  have hb' := hb.below hnx
  have hsz := hnx.size
  by_cases h1 : k < n
  ·obtain ⟨ad, rfl, hba, hla, hca, hxa⟩ := ha'.at_ h1
   by_cases h2 : k < n'
   ·obtain ⟨ad', rfl, hbb, hlb, hcb, hxb⟩ := hb'.at_ h2
    go_wp2_with (at_builtin; refine wpList_append_own _ rfl _ _ 22 rfl w.heap.size 164 i0 (.int .u32 0) 1 4 Tryz.underlying22 hi hz0 hz1 hz2 rfl (by decide) _ _ _ rfl (hown.alloc _) ⟨wr.heap.size, 0, none⟩ 1 1 [_] rfl rfl (cell_one_new _ _ _) ?c2 ?c3 ?c4 ?c5 ?_)
    case c2 => intro u hu; simp at hu; subst hu; rfl
    case c3 => unfold maxLen; omega
    case c4 => omega
    case c5 => simp; omega
    intro v' w1 hown' hgrow _
    have R := own_snoc (d := (q + a[k] + b[k]) % 4294967296) hown' (by omega)
    have hb1 : Below w.heap.size w w1 := (hnx.alloc (by omega) _).grown hgrow (by simp; omega) (own_ge hown)
    have hE := Lm.add_step hol.out HE.out (Lm.take_in a hla) (Lm.take_in b hlb)
    have HE' := Lib.hid hE
    clear hE hown' hgrow hown
    go_wp2
    go_roundw
    case rel => exact ⟨k + 1, (q + a[k] + b[k]) / 4294967296, out ++ [(q + a[k] + b[k]) % 4294967296], by omega, by omega, by omega, by go_num, by go_num, (by simp [hol.out] : (out ++ [(q + a[k] + b[k]) % 4294967296]).length = k + 1), R, Lm.ok_append hok (Lm.ok_one (Nat.mod_lt _ (by decide))), HE'.out, hb1⟩
    case measure => simp [intOf]; omega
   ·have hlb : b.length ≤ k := by rw [HL.out.2]; omega
    go_wp2_with (at_builtin; refine wpList_append_own _ rfl _ _ 22 rfl w.heap.size 164 i0 (.int .u32 0) 1 4 Tryz.underlying22 hi hz0 hz1 hz2 rfl (by decide) _ _ _ rfl (hown.alloc _) ⟨wr.heap.size, 0, none⟩ 1 1 [_] rfl rfl (cell_one_new _ _ _) ?d2 ?d3 ?d4 ?d5 ?_)
    case d2 => intro u hu; simp at hu; subst hu; rfl
    case d3 => unfold maxLen; omega
    case d4 => omega
    case d5 => simp; omega
    intro v' w1 hown' hgrow _
    have R := own_snoc (d := (q + a[k] + 0) % 4294967296) hown' (by omega)
    have hb1 : Below w.heap.size w w1 := (hnx.alloc (by omega) _).grown hgrow (by simp; omega) (own_ge hown)
    have hE := Lm.add_step hol.out HE.out (Lm.take_in a hla) (Lm.take_out b hlb)
    have HE' := Lib.hid hE
    clear hE hown' hgrow hown
    go_wp2
    go_roundw
    case rel => exact ⟨k + 1, (q + a[k] + 0) / 4294967296, out ++ [(q + a[k] + 0) % 4294967296], by omega, by omega, by omega, by go_num, by go_num, (by simp [hol.out] : (out ++ [(q + a[k] + 0) % 4294967296]).length = k + 1), R, Lm.ok_append hok (Lm.ok_one (Nat.mod_lt _ (by decide))), HE'.out, hb1⟩
    case measure => simp [intOf]; omega
  ·have hla : a.length ≤ k := by rw [HL.out.1]; omega
   by_cases h2 : k < n'
   ·obtain ⟨ad', rfl, hbb, hlb, hcb, hxb⟩ := hb'.at_ h2
    go_wp2_with (at_builtin; refine wpList_append_own _ rfl _ _ 22 rfl w.heap.size 164 i0 (.int .u32 0) 1 4 Tryz.underlying22 hi hz0 hz1 hz2 rfl (by decide) _ _ _ rfl (hown.alloc _) ⟨wr.heap.size, 0, none⟩ 1 1 [_] rfl rfl (cell_one_new _ _ _) ?e2 ?e3 ?e4 ?e5 ?_)
    case e2 => intro u hu; simp at hu; subst hu; rfl
    case e3 => unfold maxLen; omega
    case e4 => omega
    case e5 => simp; omega
    intro v' w1 hown' hgrow _
    have R := own_snoc (d := (q + 0 + b[k]) % 4294967296) hown' (by omega)
    have hb1 : Below w.heap.size w w1 := (hnx.alloc (by omega) _).grown hgrow (by simp; omega) (own_ge hown)
    have hE := Lm.add_step hol.out HE.out (Lm.take_out a hla) (Lm.take_in b hlb)
    have HE' := Lib.hid hE
    clear hE hown' hgrow hown
    go_wp2
    go_roundw
    case rel => exact ⟨k + 1, (q + 0 + b[k]) / 4294967296, out ++ [(q + 0 + b[k]) % 4294967296], by omega, by omega, by omega, by go_num, by go_num, (by simp [hol.out] : (out ++ [(q + 0 + b[k]) % 4294967296]).length = k + 1), R, Lm.ok_append hok (Lm.ok_one (Nat.mod_lt _ (by decide))), HE'.out, hb1⟩
    case measure => simp [intOf]; omega
   ·have hlb : b.length ≤ k := by rw [HL.out.2]; omega
    by_cases h3 : q = 0
    ·subst h3
     go_wp2
     go_ret
     obtain ⟨A1, c1, rfl, hc1⟩ := own_form hown
     exact ⟨A1, k, c1, out, rfl, Sl.of_own hown hc1 hok, ⟨by have := HE.out; rw [Lm.lv_take_ge a k hla, Lm.lv_take_ge b k hlb] at this; omega, by have := hol.out; omega⟩, hnx⟩
    ·have h3' : 0 < q := by omega
     go_wp2_with (at_builtin; refine wpList_append_own _ rfl _ _ 22 rfl w.heap.size 164 i0 (.int .u32 0) 1 4 Tryz.underlying22 hi hz0 hz1 hz2 rfl (by decide) _ _ _ rfl (hown.alloc _) ⟨wr.heap.size, 0, none⟩ 1 1 [_] rfl rfl (cell_one_new _ _ _) ?f2 ?f3 ?f4 ?f5 ?_)
     case f2 => intro u hu; simp at hu; subst hu; rfl
     case f3 => unfold maxLen; omega
     case f4 => omega
     case f5 => simp; omega
     intro v' w1 hown' hgrow _
     have R := own_snoc (d := (q + 0 + 0) % 4294967296) hown' (by omega)
     have hb1 : Below w.heap.size w w1 := (hnx.alloc (by omega) _).grown hgrow (by simp; omega) (own_ge hown)
     have hE := Lm.add_step hol.out HE.out (Lm.take_out a hla) (Lm.take_out b hlb)
     have HE' := Lib.hid hE
     clear hE hown' hgrow hown
     go_wp2
     go_roundw
     case rel => exact ⟨k + 1, (q + 0 + 0) / 4294967296, out ++ [(q + 0 + 0) % 4294967296], by omega, by omega, by omega, by go_num, by go_num, (by simp [hol.out] : (out ++ [(q + 0 + 0) % 4294967296]).length = k + 1), R, Lm.ok_append hok (Lm.ok_one (Nat.mod_lt _ (by decide))), HE'.out, hb1⟩
     case measure => simp [intOf]; omega
end Go.Proofs.YtgekmbfmfiikkaaGreatDoor
/-! The references' whole numbers (polestarref01): limbs less limbs. -/
namespace Go.Proofs.YtgekmbfmfiikkaaGreatDoor
open Go.RowKit
theorem ref_sub_any (A A' : Option Addr) (n c n' c' : Nat) (a b : List Nat) (w : World) (ha : Sl w A n c a) (hb : Sl w A' n' c' b) (hn : n ≤ 1000000000) (hn' : n' ≤ n) (hle : Lm.lv b ≤ Lm.lv a) :
  Calls Tryz.prog 348 #[.slice A n c, .slice A' n' c'] w (RetLimbs w fun l => Lm.lv l = Lm.lv a - Lm.lv b ∧ Lm.canon l ∧ l.length ≤ n) := by
 have la := ha.len
 have lb := hb.len
 obtain ⟨i0, hi, hz0, hz1, hz2⟩ := info_parts info_u32
 have HL : Hid (a.length = n ∧ b.length = n') := ⟨la, lb⟩
 have HLE : Hid (Lm.lv b ≤ Lm.lv a) := hle
 clear la lb hle
 go_enter Tryz.func348, Tryz.ntmps348
 go_wp2
 go_loopw [5, 6, 7] (fun v cr i wr => ∃ (k q : Nat) (out : List Nat), k ≤ n ∧ q ≤ 1 ∧ i = .int .i64 k ∧ cr = .int .u64 q ∧ Hid (out.length = k) ∧ wr.ownsRow w.heap.size 164 1 v k (u32s out) ∧ Lm.ok out ∧
   Hid (Lm.lv out + Lm.lv (b.take k) = Lm.lv (a.take k) + Lm.B ^ k * q) ∧ Below w.heap.size w wr)
  (fun _ _ i _ => n - (intOf i).toNat)
 case atStart => exact ⟨0, 0, [], by omega, by omega, rfl, rfl, (rfl : ([] : List Nat).length = 0), World.ownsRow_nil _ _ _ _, Lm.ok_nil, (by simp [Lm.lv] : Lm.lv [] + Lm.lv (b.take 0) = Lm.lv (a.take 0) + Lm.B ^ 0 * 0), Below.refl _ _⟩
 case round =>
  obtain ⟨k, q, out, hk, hq, rfl, rfl, hol, hown, hok, HE, hnx⟩ := hrel
  have ha' := ha.below hnx
  have hb' := hb.below hnx
  have hsz := hnx.size
  by_cases h1 : k < n
  ·obtain ⟨ad, rfl, hba, hla, hca, hxa⟩ := ha'.at_ h1
   by_cases h2 : k < n'
   ·obtain ⟨ad', rfl, hbb, hlb, hcb, hxb⟩ := hb'.at_ h2
    by_cases h3 : a[k] < q + b[k]
    ·go_wp2_with (at_builtin; refine wpList_append_own _ rfl _ _ 22 rfl w.heap.size 164 i0 (.int .u32 0) 1 4 Tryz.underlying22 hi hz0 hz1 hz2 rfl (by decide) _ _ _ rfl (hown.alloc _) ⟨wr.heap.size, 0, none⟩ 1 1 [_] rfl rfl (cell_one_new _ _ _) ?c2 ?c3 ?c4 ?c5 ?_)
     case c2 => intro u hu; simp at hu; subst hu; rfl
     case c3 => unfold maxLen; omega
     case c4 => omega
     case c5 => simp; omega
     intro v' w1 hown' hgrow _
     have R := own_snoc (d := (a[k] + 4294967296 - (q + b[k]))) hown' (by omega)
     have hb1 : Below w.heap.size w w1 := (hnx.alloc (by omega) _).grown hgrow (by simp; omega) (own_ge hown)
     have hE := Lm.sub_step (r := 1) (d := (a[k] + 4294967296 - (q + b[k]))) hol.out HE.out (Lm.take_in a hla) (Lm.take_in b hlb) (by omega)
     have HE' := Lib.hid hE
     clear hE hown' hgrow hown
     go_wp2
     go_roundw
     case rel => exact ⟨k + 1, 1, out ++ [(a[k] + 4294967296 - (q + b[k]))], by omega, by omega, by go_num, rfl, (by simp [hol.out] : (out ++ [(a[k] + 4294967296 - (q + b[k]))]).length = k + 1), R, Lm.ok_append hok (Lm.ok_one (by show _ < 4294967296; omega)), HE'.out, hb1⟩
     case measure => simp [intOf]; omega
    ·go_wp2_with (at_builtin; refine wpList_append_own _ rfl _ _ 22 rfl w.heap.size 164 i0 (.int .u32 0) 1 4 Tryz.underlying22 hi hz0 hz1 hz2 rfl (by decide) _ _ _ rfl (hown.alloc _) ⟨wr.heap.size, 0, none⟩ 1 1 [_] rfl rfl (cell_one_new _ _ _) ?d2 ?d3 ?d4 ?d5 ?_)
     case d2 => intro u hu; simp at hu; subst hu; rfl
     case d3 => unfold maxLen; omega
     case d4 => omega
     case d5 => simp; omega
     intro v' w1 hown' hgrow _
     have R := own_snoc (d := (a[k] - (q + b[k]))) hown' (by omega)
     have hb1 : Below w.heap.size w w1 := (hnx.alloc (by omega) _).grown hgrow (by simp; omega) (own_ge hown)
     have hE := Lm.sub_step (r := 0) (d := (a[k] - (q + b[k]))) hol.out HE.out (Lm.take_in a hla) (Lm.take_in b hlb) (by omega)
     have HE' := Lib.hid hE
     clear hE hown' hgrow hown
     go_wp2
     go_roundw
     case rel => exact ⟨k + 1, 0, out ++ [(a[k] - (q + b[k]))], by omega, by omega, by go_num, rfl, (by simp [hol.out] : (out ++ [(a[k] - (q + b[k]))]).length = k + 1), R, Lm.ok_append hok (Lm.ok_one (by show _ < 4294967296; omega)), HE'.out, hb1⟩
     case measure => simp [intOf]; omega
   ·have hlb : b.length ≤ k := by rw [HL.out.2]; omega
    by_cases h3 : a[k] < q + 0
    ·go_wp2_with (at_builtin; refine wpList_append_own _ rfl _ _ 22 rfl w.heap.size 164 i0 (.int .u32 0) 1 4 Tryz.underlying22 hi hz0 hz1 hz2 rfl (by decide) _ _ _ rfl (hown.alloc _) ⟨wr.heap.size, 0, none⟩ 1 1 [_] rfl rfl (cell_one_new _ _ _) ?e2 ?e3 ?e4 ?e5 ?_)
     case e2 => intro u hu; simp at hu; subst hu; rfl
     case e3 => unfold maxLen; omega
     case e4 => omega
     case e5 => simp; omega
     intro v' w1 hown' hgrow _
     have R := own_snoc (d := (a[k] + 4294967296 - (q + 0))) hown' (by omega)
     have hb1 : Below w.heap.size w w1 := (hnx.alloc (by omega) _).grown hgrow (by simp; omega) (own_ge hown)
     have hE := Lm.sub_step (r := 1) (d := (a[k] + 4294967296 - (q + 0))) hol.out HE.out (Lm.take_in a hla) (Lm.take_out b hlb) (by omega)
     have HE' := Lib.hid hE
     clear hE hown' hgrow hown
     go_wp2
     go_roundw
     case rel => exact ⟨k + 1, 1, out ++ [(a[k] + 4294967296 - (q + 0))], by omega, by omega, by go_num, rfl, (by simp [hol.out] : (out ++ [(a[k] + 4294967296 - (q + 0))]).length = k + 1), R, Lm.ok_append hok (Lm.ok_one (by show _ < 4294967296; omega)), HE'.out, hb1⟩
     case measure => simp [intOf]; omega
    ·go_wp2_with (at_builtin; refine wpList_append_own _ rfl _ _ 22 rfl w.heap.size 164 i0 (.int .u32 0) 1 4 Tryz.underlying22 hi hz0 hz1 hz2 rfl (by decide) _ _ _ rfl (hown.alloc _) ⟨wr.heap.size, 0, none⟩ 1 1 [_] rfl rfl (cell_one_new _ _ _) ?f2 ?f3 ?f4 ?f5 ?_)
     case f2 => intro u hu; simp at hu; subst hu; rfl
     case f3 => unfold maxLen; omega
     case f4 => omega
     case f5 => simp; omega
     intro v' w1 hown' hgrow _
     have R := own_snoc (d := (a[k] - (q + 0))) hown' (by omega)
     have hb1 : Below w.heap.size w w1 := (hnx.alloc (by omega) _).grown hgrow (by simp; omega) (own_ge hown)
     have hE := Lm.sub_step (r := 0) (d := (a[k] - (q + 0))) hol.out HE.out (Lm.take_in a hla) (Lm.take_out b hlb) (by omega)
     have HE' := Lib.hid hE
     clear hE hown' hgrow hown
     go_wp2
     go_roundw
     case rel => exact ⟨k + 1, 0, out ++ [(a[k] - (q + 0))], by omega, by omega, by go_num, rfl, (by simp [hol.out] : (out ++ [(a[k] - (q + 0))]).length = k + 1), R, Lm.ok_append hok (Lm.ok_one (by show _ < 4294967296; omega)), HE'.out, hb1⟩
     case measure => simp [intOf]; omega
  ·obtain rfl : k = n := by omega
   have hout := hol.out
   obtain ⟨A1, c1, rfl, hc1⟩ := own_form hown
   have hS : Sl wr A1 k c1 out := Sl.of_own hown hc1 hok
   have htl := trim_len out
   have E : Hid (Lm.lv out = Lm.lv a - Lm.lv b) := by
    have h1 := HE.out
    rw [Lm.lv_take_ge a k (by rw [HL.out.1]; omega), Lm.lv_take_ge b k (by rw [HL.out.2]; omega)] at h1
    have h2 := Lm.lv_lt hok
    rw [hout] at h2
    have h3 := HLE.out
    have hq0 : q = 0 := by
     rcases Nat.eq_zero_or_pos q with h | h
     ·exact h
     ·have : q = 1 := by omega
      subst this; omega
    subst hq0
    show Lm.lv out = Lm.lv a - Lm.lv b
    omega
   clear hout
   go_wp2_with (go_at_call 344; refine (ref_trim_any _ _ _ _ _ hS (by omega)).mono ?_; rintro e w' ⟨rfl, rfl⟩)
   go_ret
   exact ⟨A1, _, c1, Lm.trim out, rfl, hS.trim, ⟨by rw [Lm.trim_lv]; exact E.out, Lm.trim_canon _, by have := hol.out; omega⟩, hnx⟩
end Go.Proofs.YtgekmbfmfiikkaaGreatDoor
/-! The references' whole numbers (polestarref01): limbs times limbs. -/
namespace Go.Proofs.YtgekmbfmfiikkaaGreatDoor
open Go.RowKit
theorem ref_mul_any (A A' : Option Addr) (n c n' c' : Nat) (a b : List Nat) (w : World) (ha : Sl w A n c a) (hb : Sl w A' n' c' b) (hn : n ≤ 1000000000) (hn' : n' ≤ 1000000000) :
  Calls Tryz.prog 349 #[.slice A n c, .slice A' n' c'] w (RetLimbs w fun l => Lm.lv l = Lm.lv a * Lm.lv b ∧ Lm.canon l ∧ l.length ≤ n + n') := by
 have la := ha.len
 have lb := hb.len
 obtain ⟨i0, hi, hz0, hz1, hz2⟩ := info_parts info_u32
 have HL : Hid (a.length = n ∧ b.length = n') := ⟨la, lb⟩
 clear la lb
 go_enter Tryz.func349, Tryz.ntmps349
 go_wp2_with (at_make; refine wpList_make_full _ rfl _ _ 22 rfl w.heap.size 164 i0 (.int .u32 0) 1 Tryz.underlying22 hi hz0 hz1 _ _ _ _ (n + n') rfl rfl (by omega) (by omega) ?c2 ?c3 ?c4 ?_)
 case c2 => rw [hz2]; omega
 case c3 => unfold maxLen; omega
 case c4 => exact Nat.le_refl _
 intro w1 hown1 hgrow1
 rw [made_u32] at hown1
 have hb1 : Below w.heap.size w w1 := (Below.refl _ _).grown hgrow1 (Nat.le_refl _) (fun k hk => by cases hk)
 have hs1 : w.heap.size < w1.heap.size := (hown1.lt _ rfl).2
 clear hgrow1
 go_wp2
 go_loopw [6] (fun i wr => ∃ (k : Nat) (out : List Nat), k ≤ n ∧ i = .int .i64 k ∧ Hid (out.length = n + n') ∧ wr.ownsRow w.heap.size 164 1 (.slice (some ⟨w.heap.size, 0, none⟩) (n + n') (n + n')) (n + n') (u32s out) ∧ Lm.ok out ∧
   Hid (Lm.lv (out.take (k + n')) = Lm.lv (a.take k) * Lm.lv b) ∧ Below w.heap.size w wr)
  (fun i _ => n - (intOf i).toNat)
 case atStart =>
  exact ⟨0, List.replicate (n + n') 0, Nat.zero_le _, rfl, (List.length_replicate : (List.replicate (n + n') 0).length = n + n'), hown1, Lm.ok_zeros _,
   (by rw [List.take_replicate, Lm.lv_zeros]; simp [Lm.lv] : Lm.lv ((List.replicate (n + n') 0).take (0 + n')) = Lm.lv (a.take 0) * Lm.lv b), hb1⟩
 case round =>
  obtain ⟨k, out, hk, rfl, hol, hown, hok, HE, hnx⟩ := hrel
  clear hown1 hb1 hs1
  have hsz := (hown.lt _ rfl).2
  by_cases h1 : k < n
  ·obtain ⟨ad, rfl, hba, hla, hca0, hxa⟩ := ha.at_ h1
   clear hca0
   obtain ⟨wo, rfl⟩ : ∃ wo : World, wo = wr := ⟨_, rfl⟩
   go_wp2
   go_loopw [7, 8] (fun cr i wr => ∃ (j q : Nat) (out : List Nat), j ≤ n' ∧ q < 4294967296 ∧ i = .int .i64 j ∧ cr = .int .u64 q ∧ Hid (out.length = n + n') ∧ wr.ownsRow w.heap.size 164 1 (.slice (some ⟨w.heap.size, 0, none⟩) (n + n') (n + n')) (n + n') (u32s out) ∧ Lm.ok out ∧
     Hid (Lm.lv (out.take (k + n')) + Lm.B ^ (k + j) * q = Lm.lv (a.take k) * Lm.lv b + Lm.B ^ k * (a[k] * Lm.lv (b.take j))) ∧ Below w.heap.size w wr)
    (fun _ i _ => n' - (intOf i).toNat)
   case atStart =>
    exact ⟨0, 0, out, Nat.zero_le _, by omega, rfl, rfl, hol, hown, hok, (by rw [HE.out]; simp [Lm.lv] : Lm.lv (out.take (k + n')) + Lm.B ^ (k + 0) * 0 = Lm.lv (a.take k) * Lm.lv b + Lm.B ^ k * (a[k] * Lm.lv (b.take 0))), hnx⟩
   case round =>
    clear hown hnx HE hol hok hsz out
    obtain ⟨j, q, out, hj, hq, rfl, rfl, hol, hown, hok, HE, hnx⟩ := hrel
    have hsz := (hown.lt _ rfl).2
    by_cases h2 : j < n'
    ·obtain ⟨ad1, e1, hba', _, hca, _⟩ := (ha.below hnx).at_ h1
     obtain rfl : ad = ad1 := by injection e1
     clear e1
     obtain ⟨ad', rfl, hbb, hlb, hcb, hxb⟩ := (hb.below hnx).at_ h2
     have hkj : k + j < out.length := by rw [hol.out]; omega
     have hco := own_at hown hkj
     have hxo := Lm.ok_get hok hkj
     have hmc := Lm.mul_carry hxa hxb hxo hq
     have hf := hown.frozenAt (k + j)
     have s1 : IntKind.i64.wrap ((k : Int) + j) = (k : Int) + j := IntWalk.i64_in _ (by omega)
     have s2 : ((k : Int) + j).toNat = k + j := by omega
     have s3 : IntKind.u64.wrap ((a[k] : Int) * b[j]) = (a[k] : Int) * b[j] := IntWalk.u64_in _ (by rw [← Int.natCast_mul]; omega)
     have s4 : IntKind.u64.wrap ((a[k] : Int) * b[j] + out[k + j]) = (a[k] : Int) * b[j] + out[k + j] := IntWalk.u64_in _ (by rw [← Int.natCast_mul]; omega)
     have s5 : IntKind.u64.wrap ((a[k] : Int) * b[j] + out[k + j] + q) = (a[k] : Int) * b[j] + out[k + j] + q := IntWalk.u64_in _ (by rw [← Int.natCast_mul]; omega)
     have s6 : (((a[k] : Int) * b[j] + out[k + j] + q) % 4294967296) = (((a[k] * b[j] + out[k + j] + q) % 4294967296 : Nat) : Int) := by rw [← Int.natCast_mul]; omega
     have s7 : (((a[k] : Int) * b[j] + out[k + j] + q) / 4294967296) = (((a[k] * b[j] + out[k + j] + q) / 4294967296 : Nat) : Int) := by rw [← Int.natCast_mul]; omega
     have S6 := Lib.hid s6
     have S7 := Lib.hid s7
     clear s6 s7
     go_wp2
     go_quiet (fail)
     clear s1 s2 s3 s4 s5
     have hp0 : 0 ≤ (a[k] : Int) * b[j] := by rw [← Int.natCast_mul]; omega
     have hp1 : (a[k] : Int) * b[j] + out[k + j] + q ≤ 18446744073709551615 := by rw [← Int.natCast_mul]; omega
     go_wp2
     go_roundw
     case rel =>
      refine ⟨j + 1, (a[k] * b[j] + out[k + j] + q) / 4294967296, out.set (k + j) ((a[k] * b[j] + out[k + j] + q) % 4294967296), by omega, by omega, by go_num, by rw [S7.out], (by rw [List.length_set]; exact hol.out : (out.set (k + j) ((a[k] * b[j] + out[k + j] + q) % 4294967296)).length = n + n'),
       own_store (w := wr.drewN _) hown _ S6.out, Lm.ok_set hok (Nat.mod_lt _ (by decide)), ?_, (below_drewN hnx _).setCell (p := ⟨w.heap.size, k + j, none⟩) (Nat.le_refl _) _⟩
      have h := Lm.mul_step (m := k + n') hkj (by omega) HE.out (x := a[k]) (y := b[j])
      show _ = _
      rw [h, Lm.take_in b hlb, Nat.mul_add, Nat.mul_add, Nat.add_assoc]
     case measure => simp [intOf]; omega
    ·obtain rfl : j = n' := by omega
     have hm : k + j < out.length := by rw [hol.out]; omega
     have hf := hown.frozenAt (k + j)
     have hco := own_at hown hm
     go_wp2
     go_roundw
     case rel =>
      refine ⟨k + 1, out.set (k + j) q, by omega, by go_num, (by rw [List.length_set]; exact hol.out : (out.set (k + j) q).length = n + j),
       own_store hown _ rfl, Lm.ok_set hok hq, ?_, hnx.setCell (p := ⟨w.heap.size, k + j, none⟩) (Nat.le_refl _) _⟩
      have h := Lm.mul_last hm HE.out
      show _ = _
      rw [show k + 1 + j = k + j + 1 by omega, h, Lm.take_in a hla, Nat.add_mul, Lm.lv_take_ge b j (by rw [HL.out.2]; omega), Nat.mul_assoc]
     case measure => simp [intOf]; omega
  ·obtain rfl : k = n := by omega
   have hS : Sl wr (some ⟨w.heap.size, 0, none⟩) (k + n') (k + n') out := Sl.of_own hown (Nat.le_refl _) hok
   have htl := trim_len out
   have E : Hid (Lm.lv out = Lm.lv a * Lm.lv b) := by
    have h := HE.out
    rw [Lm.lv_take_ge out (k + n') (by rw [hol.out]; omega), Lm.lv_take_ge a k (by rw [HL.out.1]; omega)] at h
    exact h
   go_wp2_with (go_at_call 344; refine (ref_trim_any _ _ _ _ _ hS (by omega)).mono ?_; rintro e w' ⟨rfl, rfl⟩)
   go_ret
   exact ⟨_, _, _, Lm.trim out, rfl, hS.trim, ⟨by rw [Lm.trim_lv]; exact E.out, Lm.trim_canon _, by have := hol.out; omega⟩, hnx⟩
end Go.Proofs.YtgekmbfmfiikkaaGreatDoor
/-! The references' whole numbers (polestarref01): limbs by one limb; times one limb. -/
namespace Go.Proofs.YtgekmbfmfiikkaaGreatDoor
open Go.RowKit
def RetShort (W : World) (P : List Nat → Nat → Prop) (e : Ending) (w' : World) : Prop :=
 ∃ A n c l r, e = .returned (.tuple #[.slice A n c, .int .u32 (r : Nat)]) ∧ Sl w' A n c l ∧ P l r ∧ Below W.heap.size W w'
theorem ref_short_any (A : Option Addr) (n c d : Nat) (a : List Nat) (w : World) (ha : Sl w A n c a) (hn : n ≤ 1000000000) (hd : 0 < d) (hdB : d < 4294967296) :
  Calls Tryz.prog 345 #[.slice A n c, .int .u32 d] w (RetShort w fun l r => Lm.lv a = d * Lm.lv l + r ∧ r < d ∧ Lm.canon l ∧ l.length ≤ n) := by
 have la := ha.len
 obtain ⟨i0, hi, hz0, hz1, hz2⟩ := info_parts info_u32
 have HL : Hid (a.length = n) := la
 clear la
 have hd1 : (1 : Int) ≤ (d : Int) := by omega
 go_enter Tryz.func345, Tryz.ntmps345
 go_wp2_with (at_make; refine wpList_make_full _ rfl _ _ 22 rfl w.heap.size 164 i0 (.int .u32 0) 1 Tryz.underlying22 hi hz0 hz1 _ _ _ _ n rfl rfl (by omega) (by omega) ?c2 ?c3 ?c4 ?_)
 case c2 => rw [hz2]; omega
 case c3 => unfold maxLen; omega
 case c4 => exact Nat.le_refl _
 intro w1 hown1 hgrow1
 rw [made_u32] at hown1
 have hb1 : Below w.heap.size w w1 := (Below.refl _ _).grown hgrow1 (Nat.le_refl _) (fun k hk => by cases hk)
 clear hgrow1
 go_wp2
 go_loopw [7, 8] (fun rest i wr => ∃ (k r : Nat) (out : List Nat), k ≤ n ∧ r < d ∧ i = .int .i64 ((k : Int) - 1) ∧ rest = .int .u64 r ∧ Hid (out.length = n) ∧ wr.ownsRow w.heap.size 164 1 (.slice (some ⟨w.heap.size, 0, none⟩) n n) n (u32s out) ∧ Lm.ok out ∧
   Hid (Lm.lv (a.drop k) = d * Lm.lv (out.drop k) + r) ∧ Below w.heap.size w wr)
  (fun _ i _ => (intOf i + 1).toNat)
 case atStart =>
  exact ⟨n, 0, List.replicate n 0, Nat.le_refl _, hd, rfl, rfl, (List.length_replicate : (List.replicate n 0).length = n), hown1, Lm.ok_zeros _,
   (by rw [List.drop_of_length_le (by rw [HL.out]; exact Nat.le_refl _), List.drop_of_length_le (by simp)]; simp [Lm.lv] : Lm.lv (a.drop n) = d * Lm.lv ((List.replicate n 0).drop n) + 0), hb1⟩
 case round =>
  obtain ⟨k, r, out, hk, hr, rfl, rfl, hol, hown, hok, HE, hnx⟩ := hrel
  clear hown1 hb1
  have hsz := (hown.lt _ rfl).2
  by_cases h0 : k = 0
  ·subst h0
   have hS : Sl wr (some ⟨w.heap.size, 0, none⟩) n n out := Sl.of_own hown (Nat.le_refl _) hok
   have htl := trim_len out
   go_wp2_with (go_at_call 344; refine (ref_trim_any _ _ _ _ _ hS (by omega)).mono ?_; rintro e w' ⟨rfl, rfl⟩)
   go_ret2
   exact ⟨_, _, _, Lm.trim out, r, rfl, hS.trim, ⟨by rw [Lm.trim_lv]; exact HE.out, hr, Lm.trim_canon _, by have := hol.out; omega⟩, hnx⟩
  ·obtain ⟨ad, rfl, hba, hla, hca, hxa⟩ := (ha.below hnx).at_ (k := k - 1) (by omega)
   have hko : k - 1 < out.length := by rw [hol.out]; omega
   have hf := hown.frozenAt (k - 1)
   have hco := own_at hown hko
   have hk1 : 1 ≤ k := by omega
   have hq := Lm.short_lt hd hr hxa
   have e1 : ((r : Int) * 4294967296 + a[k - 1]) / (d : Int) = (((r * 4294967296 + a[k - 1]) / d : Nat) : Int) := by rw [Int.natCast_ediv]; rfl
   have e2 : ((r : Int) * 4294967296 + a[k - 1]) % (d : Int) = (((r * 4294967296 + a[k - 1]) % d : Nat) : Int) := by rw [Int.natCast_emod]; rfl
   have q0 : 0 ≤ ((r : Int) * 4294967296 + a[k - 1]) / (d : Int) := by rw [e1]; exact Int.natCast_nonneg _
   have q1 : ((r : Int) * 4294967296 + a[k - 1]) / (d : Int) ≤ 4294967295 := by rw [e1]; exact Int.ofNat_le.2 (Nat.le_of_lt_succ hq)
   have E1 := Lib.hid e1
   have E2 := Lib.hid e2
   clear e1 e2 h0
   go_wp2
   go_roundw
   case rel =>
    have hm := Nat.mod_lt (r * 4294967296 + a[k - 1]) hd
    refine ⟨k - 1, (r * 4294967296 + a[k - 1]) % d, out.set (k - 1) ((r * 4294967296 + a[k - 1]) / d), by omega, hm, by go_num, by rw [E2.out], (by rw [List.length_set]; exact hol.out : (out.set (k - 1) ((r * 4294967296 + a[k - 1]) / d)).length = n),
     own_store hown _ E1.out, Lm.ok_set hok hq, ?_, hnx.setCell (p := ⟨w.heap.size, k - 1, none⟩) (Nat.le_refl _) _⟩
    have h := HE.out
    have ek : k = k - 1 + 1 := by omega
    have h' : Lm.lv (a.drop (k - 1 + 1)) = d * Lm.lv (out.drop (k - 1 + 1)) + r := by rw [← ek]; exact h
    exact Lm.short_step hla hko h'
   case measure => simp [intOf]; omega
theorem ref_times_any (A : Option Addr) (n c d : Nat) (a : List Nat) (w : World) (ha : Sl w A n c a) (hn : n ≤ 1000000000) (hdB : d < 4294967296) :
  Calls Tryz.prog 342 #[.slice A n c, .int .u32 d] w (RetLimbs w fun l => Lm.lv l = Lm.lv a * d ∧ Lm.canon l ∧ l.length ≤ n + 1) := by
 go_enter Tryz.func342, Tryz.ntmps342
 have htl := trim_len [d]
 have hl1 : ([d] : List Nat).length = 1 := rfl
 have ht := (sl_new1 w 164 d hdB).trim
 go_wp2_with (go_at_call 344; refine (ref_trim_any _ _ _ _ _ (sl_new1 _ _ _ hdB) (by omega)).mono ?_; rintro e w' ⟨rfl, rfl⟩)
 refine (ref_mul_any _ _ _ _ _ _ _ _ _ (ha.alloc _) ht hn (by omega)).mono ?_
 rintro e w' ⟨A1, n1, c1, l, rfl, hS, ⟨hv, hc, hln⟩, hb⟩
 have hv' : Lm.lv l = Lm.lv a * d := by rw [hv, Lm.trim_lv, Lm.lv_one]
 have HV := Lib.hid hv'
 clear hv hv'
 go_wp2_with fail
 go_ret
 exact ⟨A1, n1, c1, l, rfl, hS, ⟨HV.out, hc, by omega⟩, below_box hb⟩
end Go.Proofs.YtgekmbfmfiikkaaGreatDoor
/-! The references' whole numbers (polestarref01): sums, differences, products. -/
namespace Go.Proofs.YtgekmbfmfiikkaaGreatDoor
open Go.RowKit
theorem sgnd_add (s : Bool) (a b : Nat) : sgnd s (a + b) = sgnd s a + sgnd s b := by unfold sgnd; split <;> omega
theorem sgnd_sub (s : Bool) (a b : Nat) (h : b ≤ a) : sgnd s (a - b) = sgnd s a + sgnd (!s) b := by unfold sgnd; cases s <;> simp <;> omega
theorem sgnd_not (s : Bool) (a : Nat) : sgnd (!s) a = - sgnd s a := by unfold sgnd; cases s <;> simp
theorem sgnd_mul (s t : Bool) (a b : Nat) : sgnd (s != t) (a * b) = sgnd s a * sgnd t b := by
 unfold sgnd; cases s <;> cases t <;> simp [Int.neg_mul, Int.mul_neg]
theorem IsInt.alloc {w : World} {neg : Bool} {A : Option Addr} {n c : Nat} {z : Int} (h : IsInt w neg A n c z) (o : Obj) : IsInt (w.alloc o) neg A n c z := h.below ((Below.refl _ _).alloc (Nat.le_refl _) _)
theorem ref_plus_same (neg : Bool) (A A' : Option Addr) (n c n' c' : Nat) (a b : List Nat) (w : World) (ha : Sl w A n c a) (hb : Sl w A' n' c' b) (hn : n ≤ 1000000000) (hn' : n' ≤ 1000000000) :
  Calls Tryz.prog 289 #[.agg #[.bool neg, .slice A n c], .agg #[.bool neg, .slice A' n' c']] w (RetInt w (sgnd neg (Lm.lv a + Lm.lv b))) := by
 go_enter Tryz.func289, Tryz.ntmps289
 go_wp2
 have ha3 := (((ha.alloc (.cells #[.bool neg, .slice A n c] 24)).alloc (.cells #[.bool neg, .slice A' n' c'] 24)).alloc (.cells #[.bool false, .slice none 0 0] 24))
 have hb3 := (((hb.alloc (.cells #[.bool neg, .slice A n c] 24)).alloc (.cells #[.bool neg, .slice A' n' c'] 24)).alloc (.cells #[.bool false, .slice none 0 0] 24))
 have e0a : ¬ w.heap.size + 1 + 1 = w.heap.size := by omega
 have e0b : ¬ w.heap.size = w.heap.size + 1 + 1 := by omega
 have e1a : ¬ w.heap.size + 1 + 1 = w.heap.size + 1 := by omega
 have e1b : ¬ w.heap.size + 1 = w.heap.size + 1 + 1 := by omega
 go_region_held3 (fun w' => w'.cell? ⟨w.heap.size, 0, none⟩ = some (.bool neg) ∧ w'.cell? ⟨w.heap.size, 1, none⟩ = some (.slice A n c) ∧ w'.cell? ⟨w.heap.size + 1, 1, none⟩ = some (.slice A' n' c'))
  (go_keep)
  (first | (go_at_call 346; refine (ref_add_any _ _ _ _ _ _ _ _ _ (by exact ha3.drewN 1) (by exact hb3.drewN 1) hn hn').mono ?_; rintro e w1 ⟨A1, n1, c1, l1, rfl, hS1, ⟨hv1, hl1⟩, hb1⟩; obtain ⟨hc1, hf1⟩ := bcell hb1; have k1 := hc1 (w.heap.size) 0 (by simp <;> omega); have k2 := hc1 (w.heap.size) 1 (by simp <;> omega); have k3 := hc1 (w.heap.size + 1) 1 (by simp <;> omega); have r1 := hc1 (w.heap.size + 1 + 1) 0 (by simp <;> omega); have r2 := hc1 (w.heap.size + 1 + 1) 1 (by simp <;> omega); have r3 := hf1 (w.heap.size + 1 + 1) 0 (by simp <;> omega); have r4 := hf1 (w.heap.size + 1 + 1) 1 (by simp <;> omega); have hn1 := hS1.len; have hz1 : w.heap.size + 1 + 1 < w1.heap.size := (by have := hb1.size; simp at this; omega)) | (go_at_call 287; refine (ref_signed_any _ _ _ _ _ _ hS1 (by omega)).mono ?_; rintro e w2 ⟨neg2, A2, n2, c2, rfl, hI2, hb2⟩; obtain ⟨hc2, hf2⟩ := bcell hb2; have j1 := hc2 (w.heap.size) 0 (by omega); have j2 := hc2 (w.heap.size) 1 (by omega); have j3 := hc2 (w.heap.size + 1) 1 (by omega); have r5 := hc2 (w.heap.size + 1 + 1) 0 (by omega); have r6 := hc2 (w.heap.size + 1 + 1) 1 (by omega); have r7 := hf2 (w.heap.size + 1 + 1) 0 (by omega); have r8 := hf2 (w.heap.size + 1 + 1) 1 (by omega)))
 go_wp2
 have HV : sgnd neg (Lm.lv l1) = sgnd neg (Lm.lv a + Lm.lv b) := by rw [hv1]
 rw [HV] at hI2
 exact bodyPost_ret (v := .agg #[.bool neg2, .slice A2 n2 c2]) (by simp [results, Tryz.results289, go_sem, r1, r2, r5, r6]) rfl
  ⟨neg2, A2, n2, c2, rfl, isInt_result (b0 := false) (a0 := none) (n0 := 0) (c0 := 0) hI2 (r5.trans (r1.trans (by simp [go_sem]))) (r6.trans (r2.trans (by simp [go_sem]))) _ _, below_result (below_next (below_box (below_box (below_box (below_of_drew hb1)))) hb2) (by omega) _ _⟩
theorem ref_plus_ge (neg : Bool) (A A' : Option Addr) (n c n' c' : Nat) (a b : List Nat) (w : World) (ha : Sl w A n c a) (hb : Sl w A' n' c' b) (ca : Lm.canon a) (cb : Lm.canon b) (hle : Lm.lv b ≤ Lm.lv a) (hn : n ≤ 1000000000) (hn' : n' ≤ 1000000000) :
  Calls Tryz.prog 289 #[.agg #[.bool neg, .slice A n c], .agg #[.bool (!neg), .slice A' n' c']] w (RetInt w (sgnd neg (Lm.lv a - Lm.lv b))) := by
 have la := ha.len
 have lb := hb.len
 have hlen : n' ≤ n := by
  rcases Nat.lt_or_ge n n' with h | h
  ·have := Lm.len_of_lv ha.ok hb.ok cb (by omega); omega
  ·exact h
 have hcmp : ¬ (Lm.cmp a b < 0) := by unfold Lm.cmp; rw [if_neg (by omega)]; split <;> omega
 have HLE : Hid (Lm.lv b ≤ Lm.lv a) := hle
 clear hle la lb
 have hne : (neg == !neg) = false := by cases neg <;> rfl
 have ha3 := (((ha.alloc (.cells #[.bool neg, .slice A n c] 24)).alloc (.cells #[.bool (!neg), .slice A' n' c'] 24)).alloc (.cells #[.bool false, .slice none 0 0] 24))
 have hb3 := (((hb.alloc (.cells #[.bool neg, .slice A n c] 24)).alloc (.cells #[.bool (!neg), .slice A' n' c'] 24)).alloc (.cells #[.bool false, .slice none 0 0] 24))
 go_enter Tryz.func289, Tryz.ntmps289
 go_wp2_with (go_at_call 347; refine (ref_cmp_any _ _ _ _ _ _ _ _ _ (by exact ha3) (by exact hb3) ca cb hn hn').mono ?_; rintro e w' ⟨rfl, j, rfl⟩)
 have e0a : ¬ w.heap.size + 1 + 1 = w.heap.size := by omega
 have e0b : ¬ w.heap.size = w.heap.size + 1 + 1 := by omega
 have e1a : ¬ w.heap.size + 1 + 1 = w.heap.size + 1 := by omega
 have e1b : ¬ w.heap.size + 1 = w.heap.size + 1 + 1 := by omega
 go_region_held3 (fun w' => w'.cell? ⟨w.heap.size, 0, none⟩ = some (.bool neg) ∧ w'.cell? ⟨w.heap.size, 1, none⟩ = some (.slice A n c) ∧ w'.cell? ⟨w.heap.size + 1, 1, none⟩ = some (.slice A' n' c'))
  (go_keep)
  (first | (go_at_call 348; refine (ref_sub_any _ _ _ _ _ _ _ _ _ (by exact ha3) (by exact hb3) hn hlen HLE.out).mono ?_; rintro e w1 ⟨A1, n1, c1, l1, rfl, hS1, ⟨hv1, hcn1, hl1⟩, hb1⟩; obtain ⟨hc1, hf1⟩ := bcell hb1; have k1 := hc1 (w.heap.size) 0 (by simp <;> omega); have k2 := hc1 (w.heap.size) 1 (by simp <;> omega); have k3 := hc1 (w.heap.size + 1) 1 (by simp <;> omega); have r1 := hc1 (w.heap.size + 1 + 1) 0 (by simp <;> omega); have r2 := hc1 (w.heap.size + 1 + 1) 1 (by simp <;> omega); have r3 := hf1 (w.heap.size + 1 + 1) 0 (by simp <;> omega); have r4 := hf1 (w.heap.size + 1 + 1) 1 (by simp <;> omega); have hn1 := hS1.len; have hz1 : w.heap.size + 1 + 1 < w1.heap.size := (by have := hb1.size; simp at this; omega)) | (go_at_call 287; refine (ref_signed_any _ _ _ _ _ _ hS1 (by omega)).mono ?_; rintro e w2 ⟨neg2, A2, n2, c2, rfl, hI2, hb2⟩; obtain ⟨hc2, hf2⟩ := bcell hb2; have j1 := hc2 (w.heap.size) 0 (by omega); have j2 := hc2 (w.heap.size) 1 (by omega); have j3 := hc2 (w.heap.size + 1) 1 (by omega); have r5 := hc2 (w.heap.size + 1 + 1) 0 (by omega); have r6 := hc2 (w.heap.size + 1 + 1) 1 (by omega); have r7 := hf2 (w.heap.size + 1 + 1) 0 (by omega); have r8 := hf2 (w.heap.size + 1 + 1) 1 (by omega)))
 go_wp2
 have HV : sgnd neg (Lm.lv l1) = sgnd neg (Lm.lv a - Lm.lv b) := by rw [hv1]
 rw [HV] at hI2
 exact bodyPost_ret (v := .agg #[.bool neg2, .slice A2 n2 c2]) (by simp [results, Tryz.results289, go_sem, r1, r2, r5, r6]) rfl
  ⟨neg2, A2, n2, c2, rfl, isInt_result (b0 := false) (a0 := none) (n0 := 0) (c0 := 0) hI2 (r5.trans (r1.trans (by simp [go_sem]))) (r6.trans (r2.trans (by simp [go_sem]))) _ _, below_result (below_next (below_box (below_box (below_box (below_of_drewN hb1)))) hb2) (by omega) _ _⟩
theorem ref_plus_lt (neg : Bool) (A A' : Option Addr) (n c n' c' : Nat) (a b : List Nat) (w : World) (ha : Sl w A n c a) (hb : Sl w A' n' c' b) (ca : Lm.canon a) (cb : Lm.canon b) (hle : Lm.lv a < Lm.lv b) (hn : n ≤ 1000000000) (hn' : n' ≤ 1000000000) :
  Calls Tryz.prog 289 #[.agg #[.bool neg, .slice A n c], .agg #[.bool (!neg), .slice A' n' c']] w (RetInt w (sgnd (!neg) (Lm.lv b - Lm.lv a))) := by
 have la := ha.len
 have lb := hb.len
 have hlen : n ≤ n' := by
  rcases Nat.lt_or_ge n' n with h | h
  ·have := Lm.len_of_lv hb.ok ha.ok ca (by omega); omega
  ·exact h
 have hcmp : Lm.cmp a b < 0 := by rw [Lm.cmp_neg hle]; decide
 have HLE : Hid (Lm.lv a < Lm.lv b) := hle
 clear hle la lb
 have hne : (neg == !neg) = false := by cases neg <;> rfl
 have ha3 := (((ha.alloc (.cells #[.bool neg, .slice A n c] 24)).alloc (.cells #[.bool (!neg), .slice A' n' c'] 24)).alloc (.cells #[.bool false, .slice none 0 0] 24))
 have hb3 := (((hb.alloc (.cells #[.bool neg, .slice A n c] 24)).alloc (.cells #[.bool (!neg), .slice A' n' c'] 24)).alloc (.cells #[.bool false, .slice none 0 0] 24))
 go_enter Tryz.func289, Tryz.ntmps289
 go_wp2_with (go_at_call 347; refine (ref_cmp_any _ _ _ _ _ _ _ _ _ (by exact ha3) (by exact hb3) ca cb hn hn').mono ?_; rintro e w' ⟨rfl, j, rfl⟩)
 have e0a : ¬ w.heap.size + 1 + 1 = w.heap.size := by omega
 have e0b : ¬ w.heap.size = w.heap.size + 1 + 1 := by omega
 have e1a : ¬ w.heap.size + 1 + 1 = w.heap.size + 1 := by omega
 have e1b : ¬ w.heap.size + 1 = w.heap.size + 1 + 1 := by omega
 go_region_held3 (fun w' => w'.cell? ⟨w.heap.size + 1, 0, none⟩ = some (.bool (!neg)) ∧ w'.cell? ⟨w.heap.size + 1, 1, none⟩ = some (.slice A' n' c') ∧ w'.cell? ⟨w.heap.size, 1, none⟩ = some (.slice A n c))
  (go_keep)
  (first | (go_at_call 348; refine (ref_sub_any _ _ _ _ _ _ _ _ _ (by exact hb3) (by exact ha3) hn' hlen (Nat.le_of_lt HLE.out)).mono ?_; rintro e w1 ⟨A1, n1, c1, l1, rfl, hS1, ⟨hv1, hcn1, hl1⟩, hb1⟩; obtain ⟨hc1, hf1⟩ := bcell hb1; have k1 := hc1 (w.heap.size + 1) 0 (by simp <;> omega); have k2 := hc1 (w.heap.size + 1) 1 (by simp <;> omega); have k3 := hc1 (w.heap.size) 1 (by simp <;> omega); have r1 := hc1 (w.heap.size + 1 + 1) 0 (by simp <;> omega); have r2 := hc1 (w.heap.size + 1 + 1) 1 (by simp <;> omega); have r3 := hf1 (w.heap.size + 1 + 1) 0 (by simp <;> omega); have r4 := hf1 (w.heap.size + 1 + 1) 1 (by simp <;> omega); have hn1 := hS1.len; have hz1 : w.heap.size + 1 + 1 < w1.heap.size := (by have := hb1.size; simp at this; omega)) | (go_at_call 287; refine (ref_signed_any _ _ _ _ _ _ hS1 (by omega)).mono ?_; rintro e w2 ⟨neg2, A2, n2, c2, rfl, hI2, hb2⟩; obtain ⟨hc2, hf2⟩ := bcell hb2; have j1 := hc2 (w.heap.size + 1) 0 (by omega); have j2 := hc2 (w.heap.size + 1) 1 (by omega); have j3 := hc2 (w.heap.size) 1 (by omega); have r5 := hc2 (w.heap.size + 1 + 1) 0 (by omega); have r6 := hc2 (w.heap.size + 1 + 1) 1 (by omega); have r7 := hf2 (w.heap.size + 1 + 1) 0 (by omega); have r8 := hf2 (w.heap.size + 1 + 1) 1 (by omega)))
 go_wp2
 have HV : sgnd (!neg) (Lm.lv l1) = sgnd (!neg) (Lm.lv b - Lm.lv a) := by rw [hv1]
 rw [HV] at hI2
 exact bodyPost_ret (v := .agg #[.bool neg2, .slice A2 n2 c2]) (by simp [results, Tryz.results289, go_sem, r1, r2, r5, r6]) rfl
  ⟨neg2, A2, n2, c2, rfl, isInt_result (b0 := false) (a0 := none) (n0 := 0) (c0 := 0) hI2 (r5.trans (r1.trans (by simp [go_sem]))) (r6.trans (r2.trans (by simp [go_sem]))) _ _, below_result (below_next (below_box (below_box (below_box (below_of_drewN hb1)))) hb2) (by omega) _ _⟩
theorem ref_plus_any (neg neg' : Bool) (A A' : Option Addr) (n c n' c' : Nat) (x y : Int) (w : World) (hx : IsInt w neg A n c x) (hy : IsInt w neg' A' n' c' y) (hn : n ≤ 1000000000) (hn' : n' ≤ 1000000000) :
  Calls Tryz.prog 289 #[.agg #[.bool neg, .slice A n c], .agg #[.bool neg', .slice A' n' c']] w (RetInt w (x + y)) := by
 obtain ⟨a, ha, ca, _, rfl⟩ := hx
 obtain ⟨b, hb, cb, _, rfl⟩ := hy
 by_cases h : neg' = neg
 ·subst h
  rw [← sgnd_add]
  exact ref_plus_same _ _ _ _ _ _ _ _ _ _ ha hb hn hn'
 ·have h' : neg' = !neg := by cases neg <;> cases neg' <;> simp_all
  subst h'
  by_cases hle : Lm.lv b ≤ Lm.lv a
  ·rw [← sgnd_sub _ _ _ hle]
   exact ref_plus_ge _ _ _ _ _ _ _ _ _ _ ha hb ca cb hle hn hn'
  ·have e : sgnd neg (Lm.lv a) + sgnd (!neg) (Lm.lv b) = sgnd (!neg) (Lm.lv b - Lm.lv a) := by
    rw [sgnd_sub _ _ _ (by omega), Bool.not_not, Int.add_comm]
   rw [e]
   exact ref_plus_lt _ _ _ _ _ _ _ _ _ _ ha hb ca cb (by omega) hn hn'
end Go.Proofs.YtgekmbfmfiikkaaGreatDoor
/-! The references' whole numbers (polestarref01): signs, sizes, numbers of 64 bits. -/
namespace Go.Proofs.YtgekmbfmfiikkaaGreatDoor
open Go.RowKit
def RetV (W : World) (v : Value) (e : Ending) (w' : World) : Prop := e = .returned v ∧ Below W.heap.size W w'
theorem isInt_zero {w : World} {neg : Bool} {A : Option Addr} {n c : Nat} {z : Int} (h : IsInt w neg A n c z) : n = 0 ↔ z = 0 := by
 obtain ⟨l, h1, h2, h3, rfl⟩ := h
 have := h1.len
 have hz := Lm.lv_zero h2
 unfold sgnd
 constructor
 ·intro e
  have : l = [] := List.eq_nil_of_length_eq_zero (by omega)
  rw [hz.2 this]; split <;> rfl
 ·intro e
  have : Lm.lv l = 0 := by split at e <;> omega
  rw [hz.1 this] at h1
  exact h1.len.symm
theorem isInt_neg {w : World} {neg : Bool} {A : Option Addr} {n c : Nat} {z : Int} (h : IsInt w neg A n c z) : neg = decide (z < 0) := by
 obtain ⟨l, h1, h2, h3, rfl⟩ := h
 have hz := Lm.lv_zero h2
 unfold sgnd
 cases neg
 ·simp
 ·have : l ≠ [] := fun e => by have := h3 e; cases this
  have : Lm.lv l ≠ 0 := fun e => this (hz.1 e)
  simp; omega
theorem ref_sign_any (neg : Bool) (A : Option Addr) (n c : Nat) (z : Int) (w : World) (h : IsInt w neg A n c z) :
  Calls Tryz.prog 175 #[.agg #[.bool neg, .slice A n c]] w (RetV w (.int .i64 z.sign)) := by
 have hz := isInt_zero h
 have hn := isInt_neg h
 by_cases h0 : n = 0
 ·have E : Hid (z.sign = 0) := by rw [hz.1 h0]; exact rfl
  subst h0
  clear hz hn
  go_enter Tryz.func175, Tryz.ntmps175
  go_wp2
  go_ret
  exact ⟨by rw [E.out]; rfl, (Below.refl _ _).alloc (Nat.le_refl _) _⟩
 ·have hz' : z ≠ 0 := fun e => h0 (hz.2 e)
  have h1 : ((n : Int) == 0) = false := by rw [beq_eq_false_iff_ne]; omega
  cases neg
  ·have E : Hid (z.sign = 1) := Int.sign_eq_one_of_pos (by have := of_decide_eq_false hn.symm; omega)
   clear hz hn hz'
   go_enter Tryz.func175, Tryz.ntmps175
   go_wp2
   go_ret
   exact ⟨by rw [E.out]; rfl, (Below.refl _ _).alloc (Nat.le_refl _) _⟩
  ·have E : Hid (z.sign = -1) := Int.sign_eq_neg_one_of_neg (of_decide_eq_true hn.symm)
   clear hz hn hz'
   go_enter Tryz.func175, Tryz.ntmps175
   go_wp2
   go_ret
   exact ⟨by rw [E.out]; rfl, (Below.refl _ _).alloc (Nat.le_refl _) _⟩
theorem ref_turned_any (neg : Bool) (A : Option Addr) (n c : Nat) (z : Int) (w : World) (h : IsInt w neg A n c z) (hn : n ≤ 4000000000) :
  Calls Tryz.prog 365 #[.agg #[.bool neg, .slice A n c]] w (RetInt w (-z)) := by
 obtain ⟨l, hl, _, _, rfl⟩ := h
 have hl2 := (hl.alloc (.cells #[.bool neg, .slice A n c] 24)).alloc (.cells #[.bool false, .slice none 0 0] 24)
 go_enter Tryz.func365, Tryz.ntmps365
 go_wp2_with (go_at_call 287; refine (ref_signed_any _ _ _ _ _ _ (by exact hl2) hn).mono ?_; rintro e w2 ⟨neg2, A2, n2, c2, rfl, hI2, hb2⟩; obtain ⟨hc2, hf2⟩ := bcell hb2; have r5 := hc2 (w.heap.size + 1) 0 (by simp <;> omega); have r6 := hc2 (w.heap.size + 1) 1 (by simp <;> omega); have r7 := hf2 (w.heap.size + 1) 0 (by simp <;> omega); have r8 := hf2 (w.heap.size + 1) 1 (by simp <;> omega); have hz1 : w.heap.size + 1 < w2.heap.size := (by have := hb2.size; simp at this; omega))
 rw [sgnd_not] at hI2
 exact bodyPost_ret (v := .agg #[.bool neg2, .slice A2 n2 c2]) (by simp [results, Tryz.results365, go_sem, r5, r6]) rfl
  ⟨neg2, A2, n2, c2, rfl, isInt_result (b0 := false) (a0 := none) (n0 := 0) (c0 := 0) hI2 (r5.trans (by simp [go_sem])) (r6.trans (by simp [go_sem])) _ _, below_result (below_box (below_box hb2)) (by omega) _ _⟩
theorem sl_new2_box (w : World) (o : Obj) (t : TypeId) (d d' : Nat) (hd : d < 4294967296) (hd' : d' < 4294967296) :
  Sl ((w.alloc o).alloc (.cells #[.int .u32 (d : Int), .int .u32 (d' : Int)] t)) (some ⟨w.heap.size + 1, 0, none⟩) 2 2 [d, d'] := by
 have h := sl_new2 (w.alloc o) t d d' hd hd'
 have e : (w.alloc o).heap.size = w.heap.size + 1 := by simp
 rwa [e] at h
theorem of_limbs (m : Nat) : Lm.lv [m % 4294967296, m / 4294967296] = m := by
 have := Nat.div_add_mod m 4294967296
 show m % 4294967296 + Lm.B * (m / 4294967296 + Lm.B * 0) = m
 have : Lm.B = 4294967296 := rfl
 rw [this]; omega
theorem ref_of_pos (m : Nat) (w : World) (h : m ≤ 9223372036854775807) :
  Calls Tryz.prog 284 #[.int .i64 (m : Int)] w (RetInt w (m : Int)) := by
 have e1 : (m : Int) % 4294967296 = ((m % 4294967296 : Nat) : Int) := by omega
 have e2 : (m : Int) / 4294967296 = ((m / 4294967296 : Nat) : Int) := by omega
 have E1 := Lib.hid e1
 have E2 := Lib.hid e2
 clear e1 e2
 go_enter Tryz.func284, Tryz.ntmps284
 go_wp2_with fail
 rw [E1.out, E2.out]
 refine (ref_signed_any _ _ _ _ _ _ (sl_new2_box _ _ _ _ _ (by omega) (by omega)) (by omega)).mono ?_
 rintro e w2 ⟨neg2, A2, n2, c2, rfl, hI2, hb2⟩
 obtain ⟨hc2, hf2⟩ := bcell hb2
 have r5 := hc2 (w.heap.size) 0 (by simp <;> omega)
 have r6 := hc2 (w.heap.size) 1 (by simp <;> omega)
 have r7 := hf2 (w.heap.size) 0 (by simp <;> omega)
 have r8 := hf2 (w.heap.size) 1 (by simp <;> omega)
 have hz1 : w.heap.size < w2.heap.size := (by have := hb2.size; simp at this; omega)
 rw [of_limbs] at hI2
 go_wp2_with fail
 exact bodyPost_ret (v := .agg #[.bool neg2, .slice A2 n2 c2]) (by simp [results, Tryz.results284, go_sem, r5, r6]) rfl
  ⟨neg2, A2, n2, c2, rfl, isInt_result (b0 := false) (a0 := none) (n0 := 0) (c0 := 0) hI2 (r5.trans (by simp [go_sem])) (r6.trans (by simp [go_sem])) _ _, below_result (below_box (below_box hb2)) (by omega) _ _⟩
theorem ref_of_neg (m : Nat) (w : World) (h : m ≤ 9223372036854775808) (h0 : 0 < m) :
  Calls Tryz.prog 284 #[.int .i64 (-(m : Int))] w (RetInt w (-(m : Int))) := by
 have e1 : (m : Int) % 4294967296 = ((m % 4294967296 : Nat) : Int) := by omega
 have e2 : (m : Int) / 4294967296 = ((m / 4294967296 : Nat) : Int) := by omega
 have E1 := Lib.hid e1
 have E2 := Lib.hid e2
 clear e1 e2
 have ew : IntKind.u64.wrap (-IntKind.u64.wrap (-(m : Int))) = (m : Int) := by
  simp only [IntKind.wrap, IntKind.bits, IntKind.signed]; simp; omega
 have hneg : -(m : Int) < 0 := by omega
 have hb1 : (m : Int) ≤ 18446744073709551615 := by omega
 go_enter Tryz.func284, Tryz.ntmps284
 go_wp2_with fail
 rw [E1.out, E2.out]
 refine (ref_signed_any _ _ _ _ _ _ (sl_new2_box _ _ _ _ _ (by omega) (by omega)) (by omega)).mono ?_
 rintro e w2 ⟨neg2, A2, n2, c2, rfl, hI2, hb2⟩
 obtain ⟨hc2, hf2⟩ := bcell hb2
 have r5 := hc2 (w.heap.size) 0 (by simp <;> omega)
 have r6 := hc2 (w.heap.size) 1 (by simp <;> omega)
 have r7 := hf2 (w.heap.size) 0 (by simp <;> omega)
 have r8 := hf2 (w.heap.size) 1 (by simp <;> omega)
 have hz1 : w.heap.size < w2.heap.size := (by have := hb2.size; simp at this; omega)
 rw [of_limbs] at hI2
 go_wp2_with fail
 exact bodyPost_ret (v := .agg #[.bool neg2, .slice A2 n2 c2]) (by simp [results, Tryz.results284, go_sem, r5, r6]) rfl
  ⟨neg2, A2, n2, c2, rfl, isInt_result (b0 := false) (a0 := none) (n0 := 0) (c0 := 0) hI2 (r5.trans (by simp [go_sem])) (r6.trans (by simp [go_sem])) _ _, below_result (below_box (below_box hb2)) (by omega) _ _⟩
theorem ref_of_any (z : Int) (w : World) (h : -9223372036854775808 ≤ z ∧ z ≤ 9223372036854775807) :
  Calls Tryz.prog 284 #[.int .i64 z] w (RetInt w z) := by
 by_cases hz : z < 0
 ·have e : z = -(z.natAbs : Int) := by omega
  rw [e]
  exact ref_of_neg _ w (by omega) (by omega)
 ·have e : z = (z.natAbs : Int) := by omega
  rw [e]
  exact ref_of_pos _ w (by omega)
end Go.Proofs.YtgekmbfmfiikkaaGreatDoor
/-! The references' whole numbers (polestarref01): order. -/
namespace Go.Proofs.YtgekmbfmfiikkaaGreatDoor
open Go.RowKit
def icmp (x y : Int) : Int := if x < y then -1 else if y < x then 1 else 0
theorem cmp_bd (a b : List Nat) : -1 ≤ Lm.cmp a b ∧ Lm.cmp a b ≤ 1 := by unfold Lm.cmp; split <;> (try split) <;> omega
theorem ref_cmp_int (neg neg' : Bool) (A A' : Option Addr) (n c n' c' : Nat) (x y : Int) (w : World) (hx : IsInt w neg A n c x) (hy : IsInt w neg' A' n' c' y) (hn : n ≤ 1000000000) (hn' : n' ≤ 1000000000) :
  Calls Tryz.prog 290 #[.agg #[.bool neg, .slice A n c], .agg #[.bool neg', .slice A' n' c']] w (RetV w (.int .i64 (icmp x y))) := by
 have hx2 := (hx.alloc (.cells #[.bool neg, .slice A n c] 24)).alloc (.cells #[.bool neg', .slice A' n' c'] 24)
 have hy2 := (hy.alloc (.cells #[.bool neg, .slice A n c] 24)).alloc (.cells #[.bool neg', .slice A' n' c'] 24)
 go_enter Tryz.func290, Tryz.ntmps290
 go_wp2_with fail
 refine (ref_sign_any _ _ _ _ _ _ (by exact hx2)).mono ?_
 rintro e w1 ⟨rfl, hb1⟩
 obtain ⟨hc1, hf1⟩ := bcell hb1
 have hz1 : w.heap.size + 1 < w1.heap.size := by have := hb1.size; simp at this; omega
 have hx3 := hx2.below hb1
 have hy3 := hy2.below hb1
 have k1 := hc1 w.heap.size 1 (by simp <;> omega)
 have k2 := hc1 (w.heap.size + 1) 1 (by simp <;> omega)
 have k0 := hc1 w.heap.size 0 (by simp <;> omega)
 have k3 := hc1 (w.heap.size + 1) 0 (by simp <;> omega)
 go_wp2_with fail
 refine (ref_sign_any _ _ _ _ _ _ (by exact hy3)).mono ?_
 rintro e w2 ⟨rfl, hb2⟩
 obtain ⟨hc2, hf2⟩ := bcell hb2
 have j1 := hc2 w.heap.size 1 (by omega)
 have j2 := hc2 (w.heap.size + 1) 1 (by omega)
 have hx4 := hx3.below hb2
 have hy4 := hy3.below hb2
 have hbb := below_next (below_box (below_box hb1)) hb2
 by_cases hs : x.sign = y.sign
 ·obtain ⟨a, ha, ca, _, hxe⟩ := hx4
  obtain ⟨b, hb, cb, _, hye⟩ := hy4
  have h1 : (x.sign != y.sign) = false := by rw [hs]; simp
  have hcb := cmp_bd a b
  by_cases hx0 : x < 0
  ·have hy0 : y < 0 := by
    rw [Int.sign_eq_neg_one_of_neg hx0] at hs
    rcases Int.lt_trichotomy y 0 with h | h | h
    ·exact h
    ·rw [h] at hs; simp at hs
    ·rw [Int.sign_eq_one_of_pos h] at hs; omega
   have E : Hid (icmp x y = -(Lm.cmp a b)) := by
    have hn0 := isInt_neg hx
    have hn1 := isInt_neg hy
    rw [hn0, decide_eq_true hx0] at hxe
    rw [hn1, decide_eq_true hy0] at hye
    show icmp x y = -(Lm.cmp a b)
    rw [hxe, hye]
    unfold icmp Lm.cmp sgnd
    simp only [if_true]
    split <;> split <;> (try split) <;> omega
   have hH := Lib.hid hs
   clear hs hxe hye
   go_wp2_with (go_at_call 347; refine (ref_cmp_any _ _ _ _ _ _ _ _ _ (by exact ha) (by exact hb) ca cb hn hn').mono ?_; rintro e w' ⟨rfl, j, rfl⟩)
   go_ret
   refine ⟨by rw [E.out]; rfl, below_drewN hbb _⟩
  ·have hy0 : ¬ y < 0 := by
    intro h
    rw [Int.sign_eq_neg_one_of_neg h] at hs
    rcases Int.lt_trichotomy x 0 with h | h | h
    ·exact hx0 h
    ·rw [h] at hs; simp at hs
    ·rw [Int.sign_eq_one_of_pos h] at hs; omega
   have E : Hid (icmp x y = Lm.cmp a b) := by
    have hn0 := isInt_neg hx
    have hn1 := isInt_neg hy
    rw [hn0, decide_eq_false hx0] at hxe
    rw [hn1, decide_eq_false hy0] at hye
    show icmp x y = Lm.cmp a b
    rw [hxe, hye]
    unfold icmp Lm.cmp sgnd
    simp only [Bool.false_eq_true, if_false]
    split <;> split <;> (try split) <;> (try split) <;> omega
   have hH := Lib.hid hs
   clear hs hxe hye
   go_wp2_with (go_at_call 347; refine (ref_cmp_any _ _ _ _ _ _ _ _ _ (by exact ha) (by exact hb) ca cb hn hn').mono ?_; rintro e w' ⟨rfl, j, rfl⟩)
   go_ret
   refine ⟨by rw [E.out]; rfl, below_drewN hbb _⟩
 ·have h1 : (x.sign != y.sign) = true := by simpa using hs
  by_cases hl : x.sign < y.sign
  ·have E : Hid (icmp x y = -1) := by
    have : x < y := by
     rcases Int.lt_or_le x y with h | h
     ·exact h
     ·exfalso
      rcases Int.lt_trichotomy x 0 with hx0 | hx0 | hx0 <;> rcases Int.lt_trichotomy y 0 with hy0 | hy0 | hy0
      all_goals first | (rw [Int.sign_eq_neg_one_of_neg hx0] at hl) | (rw [Int.sign_eq_one_of_pos hx0] at hl) | (rw [hx0] at hl)
      all_goals first | (rw [Int.sign_eq_neg_one_of_neg hy0] at hl) | (rw [Int.sign_eq_one_of_pos hy0] at hl) | (rw [hy0] at hl)
      all_goals simp at hl
      all_goals omega
    show icmp x y = -1
    unfold icmp; rw [if_pos this]
   go_wp2
   go_ret
   exact ⟨by rw [E.out]; rfl, hbb⟩
  ·have E : Hid (icmp x y = 1) := by
    have hg : y.sign < x.sign := by omega
    have : y < x := by
     rcases Int.lt_or_le y x with h | h
     ·exact h
     ·exfalso
      rcases Int.lt_trichotomy x 0 with hx0 | hx0 | hx0 <;> rcases Int.lt_trichotomy y 0 with hy0 | hy0 | hy0
      all_goals first | (rw [Int.sign_eq_neg_one_of_neg hx0] at hg) | (rw [Int.sign_eq_one_of_pos hx0] at hg) | (rw [hx0] at hg)
      all_goals first | (rw [Int.sign_eq_neg_one_of_neg hy0] at hg) | (rw [Int.sign_eq_one_of_pos hy0] at hg) | (rw [hy0] at hg)
      all_goals simp at hg
      all_goals omega
    show icmp x y = 1
    unfold icmp; rw [if_neg (by omega), if_pos this]
   go_wp2
   go_ret
   exact ⟨by rw [E.out]; rfl, hbb⟩
end Go.Proofs.YtgekmbfmfiikkaaGreatDoor
