/-
  Limbs in memory of their own: sums and differences of limbs (add, sub).
-/
import Derived.Test.YtgekmbfmfiikkaaGreatDoorOwn
import Derived.Test.YtgekmbfmfiikkaaGreatDoorEyB
set_option maxHeartbeats 3200000
set_option maxRecDepth 100000
namespace Go.Proofs.YtgekmbfmfiikkaaGreatDoor
open Go.RowKit
theorem ow_add_ge (A A' : Option Addr) (n c n' c' : Nat) (a b : List Nat) (w : World) (ha : Sl w A n c a) (hb : Sl w A' n' c' b) (hn : n ≤ 1000000000) (_hn' : n' ≤ 1000000000) (hge : n' ≤ n) :
  Calls Tryz.prog 277 #[.slice A n c, .slice A' n' c'] w (RetLimbsO w fun l => Lm.lv l = Lm.lv a + Lm.lv b ∧ l.length ≤ max n n' + 1) := by
 have la := ha.len
 have lb := hb.len
 obtain ⟨i0, hi, hz0, hz1, hz2⟩ := info_parts info_u32
 have HL : Hid (a.length = n ∧ b.length = n') := ⟨la, lb⟩
 have HE : Hid (((n : Nat) : Int) + 1 = ((n + 1 : Nat) : Int)) := Lib.hid (by omega)
 have hc : ¬ (n : Int) < (n' : Int) := by omega
 clear la lb
 go_enter Tryz.func277, Tryz.ntmps277
 go_wp2_with (at_make; refine wpList_make_full _ rfl _ _ 22 rfl w.heap.size 164 i0 (.int .u32 0) 1 Tryz.underlying22 hi hz0 hz1 _ _ _ _ (n + 1) rfl rfl (by first | exact HE.out | omega) (by first | exact HE.out | omega) ?c2 ?c3 (Nat.le_refl _) ?_)
 case c2 => first | omega | (rw [hz2]; omega)
 case c3 => unfold maxLen; omega
 intro w1 hown1 hgrow1
 rw [made_u32] at hown1
 have hb1 : Below w.heap.size w w1 := (Below.refl _ _).grown hgrow1 (Nat.le_refl _) (fun k hk => by cases hk)
 clear hgrow1
 go_wp2_with fail
 go_loopw [6, 22] (fun cr i wr => ∃ (k q : Nat) (out : List Nat), k ≤ n ∧ q ≤ 1 ∧ i = .int .i64 (k : Int) ∧ cr = .int .u32 (q : Int) ∧ Hid (out.length = n + 1) ∧ wr.ownsRow w.heap.size 164 1 (.slice (some ⟨w.heap.size, 0, none⟩) (n + 1) (n + 1)) (n + 1) (u32s out) ∧ Lm.ok out ∧
   Hid (Lm.lv (out.take k) + Lm.B ^ k * q = Lm.lv (a.take k) + Lm.lv (b.take k)) ∧ Below w.heap.size w wr)
  (fun _ i _ => n - (intOf i).toNat)
 case atStart =>
  exact ⟨0, 0, List.replicate (n + 1) 0, Nat.zero_le _, by omega, rfl, rfl, Lib.hid List.length_replicate, hown1, Lm.ok_zeros _, Lib.hid (by simp [Lm.lv]), hb1⟩
 case round =>
  clear hown1 hb1
  obtain ⟨k, q, out, hk, hq, rfl, rfl, hol, hown, hok, HEQ, hbw⟩ := hrel
  have hko : k < out.length := by rw [hol.out]; omega
  have hco := own_at hown hko
  have hf := hown.frozenAt k
  have hsz := (hown.lt _ rfl).2
  by_cases h1 : k < n
  ·obtain ⟨ad, rfl, hba, hla, hca, hxa⟩ := (ha.below hbw).at_ h1
   have hlt1 : (k : Int) < (n : Int) := by omega
   have hlt2 : k < n + 1 := by omega
   have hlt3 : (k : Int) < (n : Int) + 1 := by omega
   have hk0 : (0 : Int) ≤ (k : Int) := Int.natCast_nonneg _
   by_cases h2 : k < n'
   ·obtain ⟨ad', rfl, hbb, hlb, hcb, hxb⟩ := (hb.below hbw).at_ h2
    have hlt4 : (k : Int) < (n' : Int) := by omega
    have hE := Lm.add_step (take_len (by omega)) HEQ.out (Lm.take_in a hla) (Lm.take_in b hlb)
    rw [← take_set_snoc _ hko] at hE
    have HE' := Lib.hid hE
    clear hE
    go_wp2_with (go_at_call 339; refine (ey_add32 a[k] b[k] q _ hxa hxb hq).mono ?_; rintro e2 w2 ⟨rfl, rfl⟩)
    go_roundw
    case rel => exact ⟨k + 1, (q + a[k] + b[k]) / 4294967296, out.set k ((q + a[k] + b[k]) % 4294967296), h1, by omega, by go_num, rfl, Lib.hid (by rw [List.length_set]; exact hol.out), own_store hown _ rfl, Lm.ok_set hok (Nat.mod_lt _ (by decide)), HE', hbw.setCell (p := ⟨w.heap.size, k, none⟩) (Nat.le_refl _) _⟩
    case measure => simp [intOf]; omega
   ·have hlb : b.length ≤ k := by rw [HL.out.2]; omega
    have hlt4 : ¬ (k : Int) < (n' : Int) := by omega
    have hE := Lm.add_step (take_len (by omega)) HEQ.out (Lm.take_in a hla) (Lm.take_out b hlb)
    rw [← take_set_snoc _ hko] at hE
    have HE' := Lib.hid hE
    clear hE
    go_wp2_with (go_at_call 339; refine (ey_add32 a[k] 0 q _ hxa (by omega) hq).mono ?_; rintro e2 w2 ⟨rfl, rfl⟩)
    go_roundw
    case rel => exact ⟨k + 1, (q + a[k] + 0) / 4294967296, out.set k ((q + a[k] + 0) % 4294967296), h1, by omega, by go_num, rfl, Lib.hid (by rw [List.length_set]; exact hol.out), own_store hown _ rfl, Lm.ok_set hok (Nat.mod_lt _ (by decide)), HE', hbw.setCell (p := ⟨w.heap.size, k, none⟩) (Nat.le_refl _) _⟩
    case measure => simp [intOf]; omega
  ·obtain rfl : k = n := by omega
   have hqb : q < 4294967296 := by omega
   have hlt1 : ¬ (k : Int) < (k : Int) := by omega
   have hlt2 : (k : Int) < (k : Int) + 1 := by omega
   go_wp2_with fail
   go_ret
   have hst := own_store hown (j := k) (X := (q : Int)) q rfl
   refine ⟨some ⟨w.heap.size, 0, none⟩, k + 1, k + 1, out.set k q, rfl, Sl.of_own hst (Nat.le_refl _) (Lm.ok_set hok hqb), ⟨?_, by rw [List.length_set, hol.out]; omega⟩, Owns.one ⟨_, hst⟩, hbw.setCell (p := ⟨w.heap.size, k, none⟩) (Nat.le_refl _) _⟩
   have h1 := HEQ.out
   have h2 := Lm.lv_take_succ (out.set k q) k (by rw [List.length_set]; exact hko)
   rw [List.take_set_of_le (Nat.le_refl _), List.getElem_set_self, Lm.lv_take_ge _ (k + 1) (by rw [List.length_set, hol.out]; exact Nat.le_refl _)] at h2
   rw [h2, h1, Lm.lv_take_ge a k (by rw [HL.out.1]; exact Nat.le_refl _), Lm.lv_take_ge b k (by rw [HL.out.2]; omega)]
theorem ow_add_lt (A A' : Option Addr) (n c n' c' : Nat) (a b : List Nat) (w : World) (ha : Sl w A n c a) (hb : Sl w A' n' c' b) (_hn : n ≤ 1000000000) (hn' : n' ≤ 1000000000) (hlt : n < n') :
  Calls Tryz.prog 277 #[.slice A n c, .slice A' n' c'] w (RetLimbsO w fun l => Lm.lv l = Lm.lv a + Lm.lv b ∧ l.length ≤ max n n' + 1) := by
 have la := ha.len
 have lb := hb.len
 obtain ⟨i0, hi, hz0, hz1, hz2⟩ := info_parts info_u32
 have HL : Hid (a.length = n ∧ b.length = n') := ⟨la, lb⟩
 have HE : Hid (((n' : Nat) : Int) + 1 = ((n' + 1 : Nat) : Int)) := Lib.hid (by omega)
 have hc : (n : Int) < (n' : Int) := by omega
 clear la lb
 go_enter Tryz.func277, Tryz.ntmps277
 go_wp2_with (at_make; refine wpList_make_full _ rfl _ _ 22 rfl w.heap.size 164 i0 (.int .u32 0) 1 Tryz.underlying22 hi hz0 hz1 _ _ _ _ (n' + 1) rfl rfl (by first | exact HE.out | omega) (by first | exact HE.out | omega) ?c2 ?c3 (Nat.le_refl _) ?_)
 case c2 => first | omega | (rw [hz2]; omega)
 case c3 => unfold maxLen; omega
 intro w1 hown1 hgrow1
 rw [made_u32] at hown1
 have hb1 : Below w.heap.size w w1 := (Below.refl _ _).grown hgrow1 (Nat.le_refl _) (fun k hk => by cases hk)
 clear hgrow1
 go_wp2_with fail
 go_loopw [6, 22] (fun cr i wr => ∃ (k q : Nat) (out : List Nat), k ≤ n' ∧ q ≤ 1 ∧ i = .int .i64 (k : Int) ∧ cr = .int .u32 (q : Int) ∧ Hid (out.length = n' + 1) ∧ wr.ownsRow w.heap.size 164 1 (.slice (some ⟨w.heap.size, 0, none⟩) (n' + 1) (n' + 1)) (n' + 1) (u32s out) ∧ Lm.ok out ∧
   Hid (Lm.lv (out.take k) + Lm.B ^ k * q = Lm.lv (b.take k) + Lm.lv (a.take k)) ∧ Below w.heap.size w wr)
  (fun _ i _ => n' - (intOf i).toNat)
 case atStart =>
  exact ⟨0, 0, List.replicate (n' + 1) 0, Nat.zero_le _, by omega, rfl, rfl, Lib.hid List.length_replicate, hown1, Lm.ok_zeros _, Lib.hid (by simp [Lm.lv]), hb1⟩
 case round =>
  clear hown1 hb1
  obtain ⟨k, q, out, hk, hq, rfl, rfl, hol, hown, hok, HEQ, hbw⟩ := hrel
  have hko : k < out.length := by rw [hol.out]; omega
  have hco := own_at hown hko
  have hf := hown.frozenAt k
  have hsz := (hown.lt _ rfl).2
  by_cases h1 : k < n'
  ·obtain ⟨ad, rfl, hba, hla, hca, hxa⟩ := (hb.below hbw).at_ h1
   have hlt1 : (k : Int) < (n' : Int) := by omega
   have hlt2 : k < n' + 1 := by omega
   have hlt3 : (k : Int) < (n' : Int) + 1 := by omega
   have hk0 : (0 : Int) ≤ (k : Int) := Int.natCast_nonneg _
   by_cases h2 : k < n
   ·obtain ⟨ad', rfl, hbb, hlb, hcb, hxb⟩ := (ha.below hbw).at_ h2
    have hlt4 : (k : Int) < (n : Int) := by omega
    have hE := Lm.add_step (take_len (by omega)) HEQ.out (Lm.take_in b hla) (Lm.take_in a hlb)
    rw [← take_set_snoc _ hko] at hE
    have HE' := Lib.hid hE
    clear hE
    go_wp2_with (go_at_call 339; refine (ey_add32 b[k] a[k] q _ hxa hxb hq).mono ?_; rintro e2 w2 ⟨rfl, rfl⟩)
    go_roundw
    case rel => exact ⟨k + 1, (q + b[k] + a[k]) / 4294967296, out.set k ((q + b[k] + a[k]) % 4294967296), h1, by omega, by go_num, rfl, Lib.hid (by rw [List.length_set]; exact hol.out), own_store hown _ rfl, Lm.ok_set hok (Nat.mod_lt _ (by decide)), HE', hbw.setCell (p := ⟨w.heap.size, k, none⟩) (Nat.le_refl _) _⟩
    case measure => simp [intOf]; omega
   ·have hlb : a.length ≤ k := by rw [HL.out.1]; omega
    have hlt4 : ¬ (k : Int) < (n : Int) := by omega
    have hE := Lm.add_step (take_len (by omega)) HEQ.out (Lm.take_in b hla) (Lm.take_out a hlb)
    rw [← take_set_snoc _ hko] at hE
    have HE' := Lib.hid hE
    clear hE
    go_wp2_with (go_at_call 339; refine (ey_add32 b[k] 0 q _ hxa (by omega) hq).mono ?_; rintro e2 w2 ⟨rfl, rfl⟩)
    go_roundw
    case rel => exact ⟨k + 1, (q + b[k] + 0) / 4294967296, out.set k ((q + b[k] + 0) % 4294967296), h1, by omega, by go_num, rfl, Lib.hid (by rw [List.length_set]; exact hol.out), own_store hown _ rfl, Lm.ok_set hok (Nat.mod_lt _ (by decide)), HE', hbw.setCell (p := ⟨w.heap.size, k, none⟩) (Nat.le_refl _) _⟩
    case measure => simp [intOf]; omega
  ·obtain rfl : k = n' := by omega
   have hqb : q < 4294967296 := by omega
   have hlt1 : ¬ (k : Int) < (k : Int) := by omega
   have hlt2 : (k : Int) < (k : Int) + 1 := by omega
   go_wp2_with fail
   go_ret
   have hst := own_store hown (j := k) (X := (q : Int)) q rfl
   refine ⟨some ⟨w.heap.size, 0, none⟩, k + 1, k + 1, out.set k q, rfl, Sl.of_own hst (Nat.le_refl _) (Lm.ok_set hok hqb), ⟨?_, by rw [List.length_set, hol.out]; omega⟩, Owns.one ⟨_, hst⟩, hbw.setCell (p := ⟨w.heap.size, k, none⟩) (Nat.le_refl _) _⟩
   have h1 := HEQ.out
   have h2 := Lm.lv_take_succ (out.set k q) k (by rw [List.length_set]; exact hko)
   rw [List.take_set_of_le (Nat.le_refl _), List.getElem_set_self, Lm.lv_take_ge _ (k + 1) (by rw [List.length_set, hol.out]; exact Nat.le_refl _)] at h2
   rw [h2, h1, Lm.lv_take_ge b k (by rw [HL.out.2]; exact Nat.le_refl _), Lm.lv_take_ge a k (by rw [HL.out.1]; omega)]
   omega
theorem ow_add_any (A A' : Option Addr) (n c n' c' : Nat) (a b : List Nat) (w : World) (ha : Sl w A n c a) (hb : Sl w A' n' c' b) (hn : n ≤ 1000000000) (hn' : n' ≤ 1000000000) :
  Calls Tryz.prog 277 #[.slice A n c, .slice A' n' c'] w (RetLimbsO w fun l => Lm.lv l = Lm.lv a + Lm.lv b ∧ l.length ≤ max n n' + 1) := by
 rcases Nat.lt_or_ge n n' with h | h
 ·exact ow_add_lt A A' n c n' c' a b w ha hb hn hn' h
 ·exact ow_add_ge A A' n c n' c' a b w ha hb hn hn' h
theorem ow_sub_any (A A' : Option Addr) (n c n' c' : Nat) (a b : List Nat) (w : World) (ha : Sl w A n c a) (hb : Sl w A' n' c' b) (hn : n ≤ 1000000000) (hn' : n' ≤ n) (hle : Lm.lv b ≤ Lm.lv a) :
  Calls Tryz.prog 279 #[.slice A n c, .slice A' n' c'] w (RetLimbsO w fun l => Lm.lv l = Lm.lv a - Lm.lv b ∧ Lm.canon l ∧ l.length ≤ n) := by
 have la := ha.len
 have lb := hb.len
 obtain ⟨i0, hi, hz0, hz1, hz2⟩ := info_parts info_u32
 have HL : Hid (a.length = n ∧ b.length = n') := ⟨la, lb⟩
 have HLE : Hid (Lm.lv b ≤ Lm.lv a) := hle
 clear la lb hle
 go_enter Tryz.func279, Tryz.ntmps279
 go_wp2_with (at_make; refine wpList_make_full _ rfl _ _ 22 rfl w.heap.size 164 i0 (.int .u32 0) 1 Tryz.underlying22 hi hz0 hz1 _ _ _ _ n rfl rfl (by omega) (by omega) ?c2 ?c3 (Nat.le_refl _) ?_)
 case c2 => first | omega | (rw [hz2]; omega)
 case c3 => unfold maxLen; omega
 intro w1 hown1 hgrow1
 rw [made_u32] at hown1
 have hb1 : Below w.heap.size w w1 := (Below.refl _ _).grown hgrow1 (Nat.le_refl _) (fun k hk => by cases hk)
 clear hgrow1
 go_wp2_with fail
 go_loopw [6, 14] (fun cr i wr => ∃ (k q : Nat) (out : List Nat), k ≤ n ∧ q ≤ 1 ∧ i = .int .i64 (k : Int) ∧ cr = .int .u32 (q : Int) ∧ Hid (out.length = n) ∧ wr.ownsRow w.heap.size 164 1 (.slice (some ⟨w.heap.size, 0, none⟩) n n) n (u32s out) ∧ Lm.ok out ∧
   Hid (Lm.lv (out.take k) + Lm.lv (b.take k) = Lm.lv (a.take k) + Lm.B ^ k * q) ∧ Below w.heap.size w wr)
  (fun _ i _ => n - (intOf i).toNat)
 case atStart =>
  exact ⟨0, 0, List.replicate n 0, Nat.zero_le _, by omega, rfl, rfl, Lib.hid List.length_replicate, hown1, Lm.ok_zeros _, Lib.hid (by simp [Lm.lv]), hb1⟩
 case round =>
  clear hown1 hb1
  obtain ⟨k, q, out, hk, hq, rfl, rfl, hol, hown, hok, HEQ, hbw⟩ := hrel
  have hsz := (hown.lt _ rfl).2
  by_cases h1 : k < n
  ·have hko : k < out.length := by rw [hol.out]; omega
   have hco := own_at hown hko
   have hf := hown.frozenAt k
   obtain ⟨ad, rfl, hba, hla, hca, hxa⟩ := (ha.below hbw).at_ h1
   have hlt1 : (k : Int) < (n : Int) := by omega
   have hk0 : (0 : Int) ≤ (k : Int) := Int.natCast_nonneg _
   by_cases h2 : k < n'
   ·obtain ⟨ad', rfl, hbb, hlb, hcb, hxb⟩ := (hb.below hbw).at_ h2
    have hlt4 : (k : Int) < (n' : Int) := by omega
    obtain ⟨d, r, hd, hr1, hr, _⟩ := sub32_val a[k] b[k] q hxa hxb hq
    have hE := Lm.sub_step (r := r) (d := d) (take_len (by omega)) HEQ.out (Lm.take_in a hla) (Lm.take_in b hlb) hr
    rw [← take_set_snoc _ hko] at hE
    have HE' := Lib.hid hE
    clear hE
    go_wp2_with (go_at_call 341; refine (sub32_any a[k] b[k] q d r _ hxa hxb hq hd hr).mono ?_; rintro e2 w2 ⟨rfl, rfl⟩)
    go_roundw
    case rel => exact ⟨k + 1, r, out.set k d, h1, hr1, by go_num, rfl, Lib.hid (by rw [List.length_set]; exact hol.out), own_store hown _ rfl, Lm.ok_set hok hd, HE', hbw.setCell (p := ⟨w.heap.size, k, none⟩) (Nat.le_refl _) _⟩
    case measure => simp [intOf]; omega
   ·have hlb : b.length ≤ k := by rw [HL.out.2]; omega
    have hlt4 : ¬ (k : Int) < (n' : Int) := by omega
    obtain ⟨d, r, hd, hr1, hr, _⟩ := sub32_val a[k] 0 q hxa (by omega) hq
    have hE := Lm.sub_step (r := r) (d := d) (take_len (by omega)) HEQ.out (Lm.take_in a hla) (Lm.take_out b hlb) hr
    rw [← take_set_snoc _ hko] at hE
    have HE' := Lib.hid hE
    clear hE
    go_wp2_with (go_at_call 341; refine (sub32_any a[k] 0 q d r _ hxa (by omega) hq hd hr).mono ?_; rintro e2 w2 ⟨rfl, rfl⟩)
    go_roundw
    case rel => exact ⟨k + 1, r, out.set k d, h1, hr1, by go_num, rfl, Lib.hid (by rw [List.length_set]; exact hol.out), own_store hown _ rfl, Lm.ok_set hok hd, HE', hbw.setCell (p := ⟨w.heap.size, k, none⟩) (Nat.le_refl _) _⟩
    case measure => simp [intOf]; omega
  ·obtain rfl : k = n := by omega
   have hlt1 : ¬ (k : Int) < (k : Int) := by omega
   have hout := hol.out
   have hS : Sl wr (some ⟨w.heap.size, 0, none⟩) k k out := Sl.of_own hown (Nat.le_refl _) hok
   have htl := trim_len out
   have E : Hid (Lm.lv out = Lm.lv a - Lm.lv b) := by
    have h1 := HEQ.out
    rw [Lm.lv_take_ge out k (by omega), Lm.lv_take_ge a k (by rw [HL.out.1]; omega), Lm.lv_take_ge b k (by rw [HL.out.2]; omega)] at h1
    have h2 := Lm.lv_lt hok
    rw [hout] at h2
    have h3 := HLE.out
    have hq0 : q = 0 := by
     rcases Nat.eq_zero_or_pos q with h | h
     ·exact h
     ·have : q = 1 := by omega
      subst this; omega
    subst hq0
    show Lm.lv out = Lm.lv a - Lm.lv b
    omega
   clear hout
   have hO : OwnR w.heap.size wr (some ⟨w.heap.size, 0, none⟩, k, k) := ⟨_, hown⟩
   go_wp2_with (go_at_call 278; refine (ex_trim_any _ _ _ _ _ hS (by omega)).mono ?_; rintro e w' ⟨rfl, rfl⟩)
   go_ret
   exact ⟨some ⟨w.heap.size, 0, none⟩, _, k, Lm.trim out, rfl, hS.trim, ⟨by rw [Lm.trim_lv]; exact E.out, Lm.trim_canon _, by have := hol.out; omega⟩, Owns.one (hO.cut (.inr ⟨rfl, rfl, by have := hol.out; simp only; omega⟩)), hbw⟩
end Go.Proofs.YtgekmbfmfiikkaaGreatDoor
