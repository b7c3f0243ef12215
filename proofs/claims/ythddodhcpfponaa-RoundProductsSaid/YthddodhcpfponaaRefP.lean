/-
  The references' whole numbers (polestarref01): limbs by limbs.
-/
import Derived.Test.YthddodhcpfponaaRefO
import Derived.Test.YthddodhcpfponaaApp
namespace Go.Proofs.Ythddodhcpfponaa
open Go.RowKit

/-- One limb more of a quotient. -/
theorem divide_step {a out : List Nat} {k D R q R' : Nat} (ha : k < a.length) (ho : k < out.length) (hE : Lm.lv (a.drop (k + 1)) = D * Lm.lv (out.drop (k + 1)) + R) (hR : a[k] + Lm.B * R = D * q + R') :
    Lm.lv (a.drop k) = D * Lm.lv ((out.set k q).drop k) + R' := by
  have e1 := Lm.lv_drop a ha
  have hl : k < (out.set k q).length := by rw [List.length_set]; exact ho
  have e2 := Lm.lv_drop (out.set k q) hl
  rw [List.getElem_set_self] at e2
  have e3 : (out.set k q).drop (k + 1) = out.drop (k + 1) := List.drop_set_of_lt (by omega)
  rw [e1, e2, e3, hE, Nat.mul_add, Nat.mul_add, Nat.mul_left_comm]
  generalize D * (Lm.B * Lm.lv (out.drop (k + 1))) = X
  omega
/-- A limb of the quotient that stays nought. -/
theorem divide_stay {a out : List Nat} {k D R : Nat} (ha : k < a.length) (ho : k < out.length) (h0 : out[k] = 0) (hE : Lm.lv (a.drop (k + 1)) = D * Lm.lv (out.drop (k + 1)) + R) :
    Lm.lv (a.drop k) = D * Lm.lv (out.drop k) + (a[k] + Lm.B * R) := by
  have := divide_step (q := 0) (R' := a[k] + Lm.B * R) ha ho hE (by omega)
  rwa [show out.set k 0 = out by rw [← h0]; exact List.set_getElem_self ho] at this

theorem only_of_below {a w : World} (h : Below a.heap.size a w) : a.grownBy w none := ⟨h.os, h.tape, h.output, h.size, fun i hi _ => h.block i hi⟩
theorem own_kept {w w' : World} {base : Nat} {e : TypeId} {g n c : Nat} {xs : List Value} (h : w.ownsRow base e 1 (.slice (some ⟨g, 0, none⟩) n c) n xs) (hb : Below w.heap.size w w') : w'.ownsRow base e 1 (.slice (some ⟨g, 0, none⟩) n c) n xs :=
  h.kept (only_of_below hb) (.inr (by simp [Value.ownBlock]))
theorem own_far {w : World} {base : Nat} {e : TypeId} {A : Option Addr} {n c : Nat} {xs : List Value} (h : w.ownsRow base e 1 (.slice A n c) n xs) : ∀ ad, A = some ad → base ≤ ad.block := by
  rintro ad rfl
  rcases h.2 with ⟨e, _⟩ | ⟨g, cap, cur, e, _, h1, _⟩
  · cases e
  · injection e with e1
    injection e1 with e2
    subst e2
    first | exact h1 | exact h1.1 | omega

set_option maxRecDepth 100000 in
set_option maxHeartbeats 1600000 in
theorem ref_divide_long (A A' : Option Addr) (n c n' c' : Nat) (a d : List Nat) (w : World) (ha : Sl w A n c a) (hd : Sl w A' n' c' d) (cd : Lm.canon d) (hn : n ≤ 1000000000) (hn' : n' ≤ 1000000) (h2 : 2 ≤ n') :
    Calls Try.prog 107 #[.slice A n c, .slice A' n' c'] w (RetTwo w (IsQuo a d)) := by
  obtain ⟨i0, hi, hz0, hz1, hz2⟩ := info_parts info_u32
  have HL := Lib.hid ha.len
  have HD := Lib.hid hd.len
  have h1 : ((n' : Int) == 1) = false := by rw [beq_eq_false_iff_ne]; omega
  have hDp : Hid (0 < Lm.lv d) := Lib.hid (by
    rcases Nat.eq_zero_or_pos (Lm.lv d) with h | h
    · have e := (Lm.lv_zero cd).1 h
      have e2 := HD.out
      rw [e] at e2
      have : 0 = n' := e2
      omega
    · exact h)
  go_enter Try.func107, Try.ntmps107
  go_wp2_with (at_make; refine wpList_make_full _ rfl _ _ 30 rfl w.heap.size 84 i0 (.int .u32 0) 1 Try.underlying30 hi hz0 hz1 _ _ _ _ n rfl rfl (by omega) (by omega) ?c2 ?c3 ?c4 ?_)
  case c2 => rw [hz2]; omega
  case c3 => unfold maxLen; omega
  case c4 => exact Nat.le_refl _
  intro w1 hown1 hgrow1
  rw [made_u32] at hown1
  have hb1 : Below w.heap.size w w1 := (Below.refl _ _).grown hgrow1 (Nat.le_refl _) (fun k hk => by cases hk)
  clear hgrow1 h1
  go_wp2
  go_loopw [9, 10] (fun rest i wr => ∃ (k : Nat) (A2 : Option Addr) (n2 c2 : Nat) (rl out : List Nat), k ≤ n ∧ i = .int .i64 ((k : Int) - 1) ∧ rest = .slice A2 n2 c2 ∧ Sl wr A2 n2 c2 rl ∧ n2 ≤ n' ∧
      Hid (Lm.canon rl ∧ Lm.lv rl < Lm.lv d ∧ Lm.lv (a.drop k) = Lm.lv d * Lm.lv (out.drop k) + Lm.lv rl) ∧ Hid (out.length = n ∧ ∀ j (h : j < out.length), j < k → out[j] = 0) ∧
      wr.ownsRow w.heap.size 84 1 (.slice (some ⟨w.heap.size, 0, none⟩) n n) n (u32s out) ∧ Lm.ok out ∧ Below w.heap.size w wr)
    (fun _ i _ => (intOf i + 1).toNat)
  case atStart =>
    refine ⟨n, none, 0, 0, [], List.replicate n 0, Nat.le_refl _, rfl, rfl, Sl.nil, by omega, Lib.hid ⟨Lm.canon_nil, hDp.out, ?_⟩, Lib.hid ⟨List.length_replicate, fun j h _ => by simp⟩, hown1, Lm.ok_zeros _, hb1⟩
    rw [List.drop_of_length_le (by rw [HL.out]; exact Nat.le_refl _), List.drop_of_length_le (by simp)]; simp [Lm.lv]
  case round =>
    obtain ⟨k, A2, n2, c2, rl, out, hk, rfl, rfl, hrl, hn2, HE, hol, hown, hok, hnx⟩ := hrel
    clear hown1 hb1
    have hsz := (hown.lt _ rfl).2
    by_cases h0 : k = 0
    · subst h0
      have hS : Sl wr (some ⟨w.heap.size, 0, none⟩) n n out := Sl.of_own hown (Nat.le_refl _) hok
      have htl := trim_len out
      go_wp2_with (go_at_call 104; refine (ref_trim_any _ _ _ _ _ hS (by omega)).mono ?_; rintro e w' ⟨rfl, rfl⟩)
      go_ret2
      refine ⟨_, _, _, Lm.trim out, _, _, _, rl, rfl, hS.trim, hrl, ⟨by rw [Lm.trim_lv]; exact HE.out.2.2, HE.out.2.1, by have := hol.out.1; have := HL.out; omega, by rw [hrl.len, HD.out]; exact hn2, Lm.trim_canon _, HE.out.1⟩, hnx⟩
    · obtain ⟨ad, rfl, hba, hla, hca, hxa⟩ := (ha.below hnx).at_ (k := k - 1) (by omega)
      have hk1 : 1 ≤ k := by omega
      clear h0
      go_wp2_with (at_builtin; refine wpList_append_own _ rfl _ _ 30 rfl (wr.heap.size + 1) 84 i0 (.int .u32 0) 1 4 Try.underlying30 hi hz0 hz1 hz2 rfl (by decide) (.slice none 0 0) 0 [] rfl (World.ownsRow_nil _ _ _ _) ⟨wr.heap.size, 0, none⟩ 1 1 [.int .u32 (a[k - 1] : Nat)] rfl ?d0 ?d1 ?d2 ?d3 ?d4 ?d5 ?_)
      case d2 => rfl
      case d3 => unfold maxLen; omega
      intro v3 w3 hown3 hgrow3 _
      have hb3 : Below wr.heap.size wr w3 := ((Below.refl _ _).alloc (Nat.le_refl _) _).grown hgrow3 (by simp) (fun k hk => by cases hk)
      have hrl3 := hrl.below hb3
      have hz3 : wr.heap.size + 1 ≤ w3.heap.size := by have := hgrow3.size; simp at this; omega
      have hown3' : w3.ownsRow (wr.heap.size + 1) 84 1 v3 1 (u32s [a[k - 1]]) := hown3
      clear hgrow3 hown3
      go_wp2_with (at_builtin; refine wpList_append_any _ rfl _ _ 30 rfl (wr.heap.size + 1) 84 i0 (.int .u32 0) 4 Try.underlying30 hi hz0 hz1 hz2 rfl v3 1 (u32s [a[k - 1]]) rfl hown3' w3.heap.size A2 n2 c2 (u32s rl) rfl hrl3.1 (u32s_one _) ?e1 ?e2 ?e3 ?_)
      case e1 => unfold maxLen; omega
      case e2 => omega
      case e3 => exact hz3
      intro v4 w4 hown4 hgrow4 _
      rw [← u32s_append] at hown4
      have hb4 : Below wr.heap.size wr w4 := hb3.grown hgrow4 hb3.size (fun k hk => by have := own_ge hown3' k hk; omega)
      obtain ⟨A4, c4, rfl, hc4⟩ := own_form hown4
      have hS4 : Sl w4 A4 (1 + n2) c4 (a[k - 1] :: rl) := Sl.of_own hown4 hc4 (Lm.ok_append (Lm.ok_one hxa) hrl.ok)
      have hfar := own_far hown4
      have hown5 := own_kept hown hb4
      have hd4 := (hd.below hnx).below hb4
      have hS5 := hS4.trim
      have hv5 : Hid (Lm.lv (Lm.trim (a[k - 1] :: rl)) = a[k - 1] + Lm.B * Lm.lv rl) := Lib.hid (by rw [Lm.trim_lv]; rfl)
      have hc5 := Lm.trim_canon (a[k - 1] :: rl)
      have htl := trim_len (a[k - 1] :: rl)
      have htl2 : (Lm.trim (a[k - 1] :: rl)).length ≤ 1 + n2 := by rw [List.length_cons, hrl.len] at htl; omega
      have hbw4 := below_next hnx hb4
      have hko : k - 1 < out.length := by rw [hol.out.1]; omega
      have hz4 : w.heap.size < w4.heap.size := by have := hb4.size; omega
      clear hown4 hgrow4 hown3' hrl3 hb3 htl hz3
      go_wp2_with (go_at_call 104; refine (ref_trim_any _ _ _ _ _ hS4 (by omega)).mono ?_; rintro e w' ⟨rfl, rfl⟩)
      generalize Lm.trim (a[k - 1] :: rl) = tl at *
      have hek : Hid (Lm.lv (a.drop (k - 1 + 1)) = Lm.lv d * Lm.lv (out.drop (k - 1 + 1)) + Lm.lv rl) := Lib.hid (by rw [show k - 1 + 1 = k by omega]; exact HE.out.2.2)
      have hrd : Hid (Lm.lv rl < Lm.lv d) := Lib.hid HE.out.2.1
      by_cases hlt : Lm.lv tl < Lm.lv d
      · have hcc : Lm.cmp tl d < 0 := by rw [Lm.cmp_neg hlt]; decide
        have HLT := Lib.hid hlt
        clear hlt
        refine (ref_cmp_any _ _ _ _ _ _ _ _ _ hS5 hd4 hc5 cd (by omega) (by omega)).mono ?_
        rintro e5 w5 ⟨rfl, j, rfl⟩
        go_wp2_with fail
        go_roundw
        case rel =>
          refine ⟨k - 1, A4, tl.length, c4, tl, out, by omega, by go_num, rfl, hS5.drewN j, ?_, Lib.hid ⟨hc5, HLT.out, ?_⟩, Lib.hid ⟨hol.out.1, fun j' h' hj => hol.out.2 j' h' (by omega)⟩, hown5, hok, below_drewN hbw4 j⟩
          · rcases Nat.lt_or_ge n' tl.length with h | h
            · have := Lm.len_of_lv hd.ok hS5.ok hc5 (by rw [HD.out]; exact h)
              have := HLT.out
              omega
            · exact h
          · rw [hv5.out]
            exact divide_stay hla hko (hol.out.2 _ hko (by omega)) hek.out
        case measure => simp [intOf]; omega
      · have hcc : 0 ≤ Lm.cmp tl d := by unfold Lm.cmp; rw [if_neg hlt]; split <;> omega
        have hfit : Lm.lv tl < 4294967296 * Lm.lv d := by
          have h1 := hv5.out
          have h2 := Nat.mul_le_mul_left Lm.B (Nat.succ_le_of_lt hrd.out)
          rw [Nat.mul_succ] at h2
          have h3 : Lm.B = 4294967296 := rfl
          rw [h3] at h1 h2
          omega
        have HLT := Lib.hid hlt
        have HFIT := Lib.hid hfit
        clear hlt hfit
        refine (ref_cmp_any _ _ _ _ _ _ _ _ _ hS5 hd4 hc5 cd (by omega) (by omega)).mono ?_
        rintro e5 w5 ⟨rfl, j, rfl⟩
        go_wp2_with fail
        refine (ref_fitting_any _ _ _ _ _ _ _ _ _ (hS5.drewN j) (hd4.drewN j) hc5 (by omega) (by omega) HFIT.out).mono ?_
        rintro e6 w6 ⟨q, rfl, ⟨hq1, hq2, hq3⟩, hb6⟩
        have HQ2 := Lib.hid hq2
        have HQ3 := Lib.hid hq3
        have hown6 := own_kept (w := w4.drewN j) hown5 hb6
        have hS6 := (hS5.drewN j).below hb6
        have hd6 := (hd4.drewN j).below hb6
        have hbw6 := below_next hbw4 (below_of_drewN hb6)
        have hco := own_at hown6 hko
        have hf := hown6.frozenAt (k - 1)
        have hS7 := hS6.store_far (p := ⟨w.heap.size, k - 1, none⟩) (.int .u32 (q : Int)) (fun ad' h' => by have := hfar ad' h'; show ad'.block ≠ w.heap.size; omega)
        have hz6 : w.heap.size < w6.heap.size := by have := hb6.size; simp at this; omega
        have hd7 : Sl (w6.setCell ⟨w.heap.size, k - 1, none⟩ (.int .u32 (q : Int))) A' n' c' d := (hd.below (hbw6.setCell (p := ⟨w.heap.size, k - 1, none⟩) (Nat.le_refl _) _))
        clear hq2 hq3 hown5 hS5 hd4 hb4 hbw4 hS4 hfar hco
        have hco := own_at hown6 hko
        go_wp2_with (go_at_call 81; refine (ref_times_any _ _ _ q _ _ hd7 (by omega) hq1).mono ?_; rintro e8 w8 ⟨A8, n8, c8, l8, rfl, hS8, ⟨hv8, hc8, hl8⟩, hb8⟩)
        have HV8 := Lib.hid hv8
        clear hv8
        have hS9 := hS7.below hb8
        have hle8 : Hid (Lm.lv l8 ≤ Lm.lv tl) := Lib.hid (by rw [HV8.out, Nat.mul_comm]; exact HQ2.out)
        have hn8 : n8 ≤ tl.length := by
          rcases Nat.lt_or_ge tl.length n8 with h | h
          · have := Lm.len_of_lv hS7.ok hS8.ok hc8 (by rw [hS8.len]; exact h)
            have := hle8.out
            omega
          · exact h
        refine (ref_sub_any _ _ _ _ _ _ _ _ _ hS9 hS8 (by omega) hn8 hle8.out).mono ?_
        rintro e9 w9 ⟨A9, n9, c9, l9, rfl, hS10, ⟨hv9, hc9, hl9⟩, hb9⟩
        have HV9 := Lib.hid hv9
        clear hv9
        have hl9d : Hid (Lm.lv l9 < Lm.lv d) := Lib.hid (by
          have h1 := HV9.out
          have h2 := HV8.out
          have h3 := HQ3.out
          have h4 := hle8.out
          rw [h2] at h1 h4
          rw [Nat.add_mul, Nat.one_mul, Nat.mul_comm] at h3
          omega)
        have hn9 : n9 ≤ n' := by
          rcases Nat.lt_or_ge n' n9 with h | h
          · have := Lm.len_of_lv hd.ok hS10.ok hc9 (by rw [HD.out, hS10.len]; exact h)
            have := hl9d.out
            omega
          · exact h
        go_wp2_with fail
        go_roundw
        case rel =>
          refine ⟨k - 1, A9, n9, c9, l9, out.set (k - 1) q, by omega, by go_num, rfl, hS10, hn9, Lib.hid ⟨hc9, hl9d.out, ?_⟩, Lib.hid ⟨by rw [List.length_set]; exact hol.out.1, fun j' h' hj => ?_⟩, ?_, Lm.ok_set hok hq1, ?_⟩
          · refine divide_step hla hko hek.out ?_
            have h1 := HV9.out
            have h2 := HV8.out
            have h3 := hv5.out
            have h4 := hle8.out
            generalize Lm.B * Lm.lv rl = X at h3 ⊢
            generalize Lm.lv d * q = Y at h2 ⊢
            omega
          · rw [List.getElem_set_ne (by omega)]
            exact hol.out.2 j' (by rw [List.length_set] at h'; exact h') (by omega)
          · exact own_kept (own_kept (own_store hown6 q rfl) hb8) hb9
          · exact below_next (below_next (hbw6.setCell (p := ⟨w.heap.size, k - 1, none⟩) (Nat.le_refl _) _) hb8) hb9
        case measure => simp [intOf]; omega
end Go.Proofs.Ythddodhcpfponaa
