/-
  The references' whole numbers (polestarref01): limbs.
-/
import Derived.Test.YthddodhcpfponaaMem
namespace Go.Proofs.Ythddodhcpfponaa
open Go.RowKit

set_option maxHeartbeats 400000 in
theorem ref_trim_any (A : Option Addr) (n c : Nat) (l : List Nat) (w : World) (h : Sl w A n c l) (hn : n ≤ 4000000000) :
    Calls Try.prog 104 #[.slice A n c] w fun e w' => e = .returned (.slice A (Lm.trim l).length c) ∧ w = w' := by
  have hlen := h.len
  have hcap := h.cap
  go_enter Try.func104, Try.ntmps104
  go_wp2
  go_loop [0] (fun v => ∃ k : Nat, k ≤ n ∧ v = .slice A k c ∧ Hid (Lm.trim (l.take k) = Lm.trim l)) (fun v => lenOf v)
  case atStart => exact ⟨n, Nat.le_refl _, rfl, by rw [← hlen, List.take_length]; exact rfl⟩
  case round =>
    obtain ⟨k, hk, rfl, hrel⟩ := hrel
    by_cases h0 : k = 0
    · subst h0
      have e : Lm.trim l = [] := by rw [← hrel.out]; rfl
      have E : Hid (Lm.trim l = []) := e
      clear e
      go_wp2
      go_ret
      exact ⟨by rw [E.out]; rfl, rfl⟩
    · obtain ⟨ad, rfl, hb, hl, hc, hx⟩ := h.at_ (k := k - 1) (by omega)
      have hk1 : 1 ≤ k := by omega
      clear h0 
      have hd : decide ((0 : Int) < (k : Int)) = true := by simp; omega
      go_wp2
      · have hz : ((l[k - 1] : Nat) : Int) == 0 := by assumption
        have hz' : l[k - 1] = 0 := by have := beq_iff_eq.1 hz; omega
        refine ⟨⟨k - 1, by omega, rfl, ?_⟩, by simp [lenOf]; omega⟩
        have e : l.take k = l.take (k - 1) ++ [0] := by
          conv => lhs; rw [show k = k - 1 + 1 by omega]
          rw [List.take_succ_eq_append_getElem hl, hz']
        have e2 : Lm.trim (l.take (k - 1)) = Lm.trim l := by rw [← hrel.out, e, Lm.trim_snoc_zero]
        exact e2
      · have hz : (((l[k - 1] : Nat) : Int) == 0) = false := by assumption
        have hz' : l[k - 1] ≠ 0 := by intro e; rw [e] at hz; simp at hz
        have e : l.take k = l.take (k - 1) ++ [l[k - 1]] := by
          conv => lhs; rw [show k = k - 1 + 1 by omega]
          rw [List.take_succ_eq_append_getElem hl]
        have e2 : (Lm.trim l).length = k := by
          rw [← hrel.out, e, Lm.trim_snoc _ _ hz', ← e, List.length_take]; omega
        go_ret
        exact ⟨by rw [e2]; rfl, rfl⟩

/-- What 'signed' makes of limbs. -/
theorem isInt_signed {w : World} {neg : Bool} {A : Option Addr} {n c : Nat} {l : List Nat} (h : Sl w A n c l) (hne : Lm.trim l ≠ []) :
    IsInt w neg A (Lm.trim l).length c (sgnd neg (Lm.lv l)) :=
  ⟨Lm.trim l, h.trim, Lm.trim_canon l, fun e => absurd e hne, by rw [Lm.trim_lv]⟩
theorem isInt_nought {w : World} : IsInt w false none 0 0 0 := ⟨[], Sl.nil, Lm.canon_nil, fun _ => rfl, rfl⟩

set_option maxHeartbeats 400000 in
theorem ref_signed_any (neg : Bool) (A : Option Addr) (n c : Nat) (l : List Nat) (w : World) (h : Sl w A n c l) (hn : n ≤ 4000000000) :
    Calls Try.prog 77 #[.bool neg, .slice A n c] w (RetInt w (sgnd neg (Lm.lv l))) := by
  have hlen := h.len
  have hcap := h.cap
  have htl := trim_len l
  by_cases h0 : Lm.trim l = []
  · have hlv : Lm.lv l = 0 := by rw [← Lm.trim_lv, h0]; rfl
    have hl0 : ((Lm.trim l).length : Int) = 0 := by rw [h0]; rfl
    have H : Hid (Lm.lv l = 0) := hlv
    clear hlv h0
    go_enter Try.func77, Try.ntmps77
    go_wp2_with (go_at_call 104; refine (ref_trim_any _ _ _ _ _ (h.alloc _) hn).mono ?_; rintro e w' ⟨rfl, rfl⟩)
    exact bodyPost_ret (v := .agg #[.bool false, .slice none 0 0]) (by simp [results, Try.results77, go_sem]) rfl
      ⟨false, none, 0, 0, rfl, by rw [H.out, show sgnd neg 0 = 0 by unfold sgnd; split <;> rfl]; exact isInt_nought, (Below.refl _ _).alloc (Nat.le_refl _) _⟩
  · have h1 : (((Lm.trim l).length : Int) == 0) = false := by
      have : (Lm.trim l).length ≠ 0 := fun e => h0 (List.eq_nil_of_length_eq_zero e)
      rw [beq_eq_false_iff_ne]; omega
    go_enter Try.func77, Try.ntmps77
    go_wp2_with (go_at_call 104; refine (ref_trim_any _ _ _ _ _ (h.alloc _) hn).mono ?_; rintro e w' ⟨rfl, rfl⟩)
    exact bodyPost_ret (v := .agg #[.bool neg, .slice A (Lm.trim l).length c]) (by simp [results, Try.results77, go_sem]) rfl
      ⟨neg, A, (Lm.trim l).length, c, rfl, (isInt_signed h h0).below ((Below.refl _ _).alloc (Nat.le_refl _) _), (Below.refl _ _).alloc (Nat.le_refl _) _⟩

set_option maxHeartbeats 400000 in
theorem ref_cmp_any (A A' : Option Addr) (n c n' c' : Nat) (a b : List Nat) (w : World) (ha : Sl w A n c a) (hb : Sl w A' n' c' b) (ca : Lm.canon a) (cb : Lm.canon b) (hn : n ≤ 1000000000) (hn' : n' ≤ 1000000000) :
    Calls Try.prog 79 #[.slice A n c, .slice A' n' c'] w fun e w' => e = .returned (.int .i64 (Lm.cmp a b)) ∧ ∃ k, w' = w.drewN k := by
  have la := ha.len
  have lb := hb.len
  by_cases hlt : n < n'
  · have E : Hid (Lm.cmp a b = -1) := Lm.cmp_neg (Lm.len_of_lv ha.ok hb.ok cb (by omega))
    go_enter Try.func79, Try.ntmps79
    go_wp2
    go_ret
    exact ⟨by rw [E.out]; rfl, 0, rfl⟩
  · by_cases hgt : n' < n
    · have E : Hid (Lm.cmp a b = 1) := Lm.cmp_pos (Lm.len_of_lv hb.ok ha.ok ca (by omega))
      go_enter Try.func79, Try.ntmps79
      go_wp2
      go_ret
      exact ⟨by rw [E.out]; rfl, 0, rfl⟩
    · obtain rfl : n = n' := by omega
      go_enter Try.func79, Try.ntmps79
      go_wp2
      go_loopw [5] (fun i wr => ∃ k : Nat, k ≤ n ∧ i = .int .i64 ((k : Int) - 1) ∧ Hid (a.drop k = b.drop k) ∧ ∃ j, wr = w.drewN j) (fun i _ => (intOf i + 1).toNat)
      case atStart => exact ⟨n, Nat.le_refl _, rfl, (by rw [List.drop_of_length_le (by omega), List.drop_of_length_le (by omega)] : a.drop n = b.drop n), 0, rfl⟩
      case round =>
        obtain ⟨k, hk, rfl, HD, j, rfl⟩ := hrel
        by_cases h0 : k = 0
        · subst h0
          have E : Hid (Lm.cmp a b = 0) := Lm.cmp_zero (by have := HD.out; simp only [List.drop_zero] at this; rw [this])
          go_wp2
          go_ret
          exact ⟨by rw [E.out]; rfl, j, rfl⟩
        · obtain ⟨ad, rfl, hba, hla, hca, hxa⟩ := ha.at_ (k := k - 1) (by omega)
          obtain ⟨ad', rfl, hbb, hlb, hcb, hxb⟩ := hb.at_ (k := k - 1) (by omega)
          have hk1 : 1 ≤ k := by omega
          have HD' : Hid (a.drop (k - 1 + 1) = b.drop (k - 1 + 1)) := by rw [show k - 1 + 1 = k by omega]; exact HD
          go_wp2
          go_quiet (fail)
          all_goals go_wp2
          · have hl : a[k - 1] < b[k - 1] := by assumption
            have E : Lm.cmp a b = -1 := Lm.cmp_neg (Lm.lt_of_limb ha.ok hla hlb HD'.out hl)
            go_ret
            exact ⟨by rw [E]; rfl, _, drew2 _ _ _⟩
          · have hnl : ¬ a[k - 1] < b[k - 1] := by assumption
            go_quiet (fail)
            all_goals go_wp2
            · have hl : b[k - 1] < a[k - 1] := by assumption
              have E : Lm.cmp a b = 1 := Lm.cmp_pos (Lm.lt_of_limb hb.ok hlb hla HD'.out.symm hl)
              go_ret
              exact ⟨by rw [E]; rfl, _, drew3 _ _ _ _⟩
            · have hng : ¬ b[k - 1] < a[k - 1] := by assumption
              have he : a[k - 1] = b[k - 1] := by omega
              go_roundw
              case rel => exact ⟨k - 1, by omega, by go_num, (by rw [List.drop_eq_getElem_cons hla, List.drop_eq_getElem_cons hlb, he, HD'.out] : a.drop (k - 1) = b.drop (k - 1)), _, by first | exact drew3 _ _ _ _ | rfl⟩
              case measure => simp [intOf]; omega
end Go.Proofs.Ythddodhcpfponaa
