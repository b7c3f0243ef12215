/-
  Limbs in memory of their own: sums and differences of limbs (add, sub).
  Whole numbers in memory of their own: sums and differences (Plus, Minus).
-/
import Derived.Test.YtgekmbfmfiikkaaGreatDoorExV
import Derived.Test.YtgekmbfmfiikkaaGreatDoorEyB
namespace Go.Proofs.YtgekmbfmfiikkaaGreatDoor
open Go.RowKit

set_option maxRecDepth 100000 in
set_option maxHeartbeats 3200000 in
theorem ow_add_ge (A A' : Option Addr) (n c n' c' : Nat) (a b : List Nat) (w : World) (ha : Sl w A n c a) (hb : Sl w A' n' c' b) (hn : n ≤ 1000000000) (_hn' : n' ≤ 1000000000) (hge : n' ≤ n) :
  Calls Tryz.prog 277 #[.slice A n c, .slice A' n' c'] w (RetLimbsO w fun l => Lm.lv l = Lm.lv a + Lm.lv b ∧ l.length ≤ max n n' + 1) := by
 have la := ha.len
 have lb := hb.len
 obtain ⟨i0, hi, hz0, hz1, hz2⟩ := info_parts info_u32
 have HL : Hid (a.length = n ∧ b.length = n') := ⟨la, lb⟩
 have HE : Hid (((n : Nat) : Int) + 1 = ((n + 1 : Nat) : Int)) := Lib.hid (by omega)
 have hc : ¬ (n : Int) < (n' : Int) := by omega
 clear la lb
 go_enter Tryz.func277, Tryz.ntmps277
 go_wp2_with (at_make; refine wpList_make_full _ rfl _ _ 22 rfl w.heap.size 164 i0 (.int .u32 0) 1 Tryz.underlying22 hi hz0 hz1 _ _ _ _ (n + 1) rfl rfl (by first | exact HE.out | omega) (by first | exact HE.out | omega) ?c2 ?c3 (Nat.le_refl _) ?_)
 case c2 => first | omega | (rw [hz2]; omega)
 case c3 => unfold maxLen; omega
 intro w1 hown1 hgrow1
 rw [made_u32] at hown1
 have hb1 : Below w.heap.size w w1 := (Below.refl _ _).grown hgrow1 (Nat.le_refl _) (fun k hk => by cases hk)
 clear hgrow1
 go_wp2_with fail
 go_loopw [6, 22] (fun cr i wr => ∃ (k q : Nat) (out : List Nat), k ≤ n ∧ q ≤ 1 ∧ i = .int .i64 (k : Int) ∧ cr = .int .u32 (q : Int) ∧ Hid (out.length = n + 1) ∧ wr.ownsRow w.heap.size 164 1 (.slice (some ⟨w.heap.size, 0, none⟩) (n + 1) (n + 1)) (n + 1) (u32s out) ∧ Lm.ok out ∧
   Hid (Lm.lv (out.take k) + Lm.B ^ k * q = Lm.lv (a.take k) + Lm.lv (b.take k)) ∧ Below w.heap.size w wr)
  (fun _ i _ => n - (intOf i).toNat)
 case atStart =>
  exact ⟨0, 0, List.replicate (n + 1) 0, Nat.zero_le _, by omega, rfl, rfl, Lib.hid List.length_replicate, hown1, Lm.ok_zeros _, Lib.hid (by simp [Lm.lv]), hb1⟩
 case round =>
  clear hown1 hb1
  obtain ⟨k, q, out, hk, hq, rfl, rfl, hol, hown, hok, HEQ, hbw⟩ := hrel
  have hko : k < out.length := by rw [hol.out]; omega
  have hco := own_at hown hko
  have hf := hown.frozenAt k
  have hsz := (hown.lt _ rfl).2
  by_cases h1 : k < n
  ·obtain ⟨ad, rfl, hba, hla, hca, hxa⟩ := (ha.below hbw).at_ h1
   have hlt1 : (k : Int) < (n : Int) := by omega
   have hlt2 : k < n + 1 := by omega
   have hlt3 : (k : Int) < (n : Int) + 1 := by omega
   have hk0 : (0 : Int) ≤ (k : Int) := Int.natCast_nonneg _

   by_cases h2 : k < n'
   ·obtain ⟨ad', rfl, hbb, hlb, hcb, hxb⟩ := (hb.below hbw).at_ h2
    have hlt4 : (k : Int) < (n' : Int) := by omega
    have hE := Lm.add_step (take_len (by omega)) HEQ.out (Lm.take_in a hla) (Lm.take_in b hlb)
    rw [← take_set_snoc _ hko] at hE
    have HE' := Lib.hid hE
    clear hE
    go_wp2_with (go_at_call 339; refine (ey_add32 a[k] b[k] q _ hxa hxb hq).mono ?_; rintro e2 w2 ⟨rfl, rfl⟩)
    go_roundw
    case rel => exact ⟨k + 1, (q + a[k] + b[k]) / 4294967296, out.set k ((q + a[k] + b[k]) % 4294967296), h1, by omega, by go_num, rfl, Lib.hid (by rw [List.length_set]; exact hol.out), own_store hown _ rfl, Lm.ok_set hok (Nat.mod_lt _ (by decide)), HE', hbw.setCell (p := ⟨w.heap.size, k, none⟩) (Nat.le_refl _) _⟩
    case measure => simp [intOf]; omega
   ·have hlb : b.length ≤ k := by rw [HL.out.2]; omega
    have hlt4 : ¬ (k : Int) < (n' : Int) := by omega
    have hE := Lm.add_step (take_len (by omega)) HEQ.out (Lm.take_in a hla) (Lm.take_out b hlb)
    rw [← take_set_snoc _ hko] at hE
    have HE' := Lib.hid hE
    clear hE
    go_wp2_with (go_at_call 339; refine (ey_add32 a[k] 0 q _ hxa (by omega) hq).mono ?_; rintro e2 w2 ⟨rfl, rfl⟩)
    go_roundw
    case rel => exact ⟨k + 1, (q + a[k] + 0) / 4294967296, out.set k ((q + a[k] + 0) % 4294967296), h1, by omega, by go_num, rfl, Lib.hid (by rw [List.length_set]; exact hol.out), own_store hown _ rfl, Lm.ok_set hok (Nat.mod_lt _ (by decide)), HE', hbw.setCell (p := ⟨w.heap.size, k, none⟩) (Nat.le_refl _) _⟩
    case measure => simp [intOf]; omega
  ·obtain rfl : k = n := by omega
   have hqb : q < 4294967296 := by omega
   have hlt1 : ¬ (k : Int) < (k : Int) := by omega
   have hlt2 : (k : Int) < (k : Int) + 1 := by omega
   go_wp2_with fail
   go_ret
   have hst := own_store hown (j := k) (X := (q : Int)) q rfl
   refine ⟨some ⟨w.heap.size, 0, none⟩, k + 1, k + 1, out.set k q, rfl, Sl.of_own hst (Nat.le_refl _) (Lm.ok_set hok hqb), ⟨?_, by rw [List.length_set, hol.out]; omega⟩, Owns.one ⟨_, hst⟩, hbw.setCell (p := ⟨w.heap.size, k, none⟩) (Nat.le_refl _) _⟩
   have h1 := HEQ.out
   have h2 := Lm.lv_take_succ (out.set k q) k (by rw [List.length_set]; exact hko)
   rw [List.take_set_of_le (Nat.le_refl _), List.getElem_set_self, Lm.lv_take_ge _ (k + 1) (by rw [List.length_set, hol.out]; exact Nat.le_refl _)] at h2
   rw [h2, h1, Lm.lv_take_ge a k (by rw [HL.out.1]; exact Nat.le_refl _), Lm.lv_take_ge b k (by rw [HL.out.2]; omega)]
set_option maxRecDepth 100000 in
set_option maxHeartbeats 3200000 in
theorem ow_add_lt (A A' : Option Addr) (n c n' c' : Nat) (a b : List Nat) (w : World) (ha : Sl w A n c a) (hb : Sl w A' n' c' b) (_hn : n ≤ 1000000000) (hn' : n' ≤ 1000000000) (hlt : n < n') :
  Calls Tryz.prog 277 #[.slice A n c, .slice A' n' c'] w (RetLimbsO w fun l => Lm.lv l = Lm.lv a + Lm.lv b ∧ l.length ≤ max n n' + 1) := by
 have la := ha.len
 have lb := hb.len
 obtain ⟨i0, hi, hz0, hz1, hz2⟩ := info_parts info_u32
 have HL : Hid (a.length = n ∧ b.length = n') := ⟨la, lb⟩
 have HE : Hid (((n' : Nat) : Int) + 1 = ((n' + 1 : Nat) : Int)) := Lib.hid (by omega)
 have hc : (n : Int) < (n' : Int) := by omega
 clear la lb
 go_enter Tryz.func277, Tryz.ntmps277
 go_wp2_with (at_make; refine wpList_make_full _ rfl _ _ 22 rfl w.heap.size 164 i0 (.int .u32 0) 1 Tryz.underlying22 hi hz0 hz1 _ _ _ _ (n' + 1) rfl rfl (by first | exact HE.out | omega) (by first | exact HE.out | omega) ?c2 ?c3 (Nat.le_refl _) ?_)
 case c2 => first | omega | (rw [hz2]; omega)
 case c3 => unfold maxLen; omega
 intro w1 hown1 hgrow1
 rw [made_u32] at hown1
 have hb1 : Below w.heap.size w w1 := (Below.refl _ _).grown hgrow1 (Nat.le_refl _) (fun k hk => by cases hk)
 clear hgrow1
 go_wp2_with fail
 go_loopw [6, 22] (fun cr i wr => ∃ (k q : Nat) (out : List Nat), k ≤ n' ∧ q ≤ 1 ∧ i = .int .i64 (k : Int) ∧ cr = .int .u32 (q : Int) ∧ Hid (out.length = n' + 1) ∧ wr.ownsRow w.heap.size 164 1 (.slice (some ⟨w.heap.size, 0, none⟩) (n' + 1) (n' + 1)) (n' + 1) (u32s out) ∧ Lm.ok out ∧
   Hid (Lm.lv (out.take k) + Lm.B ^ k * q = Lm.lv (b.take k) + Lm.lv (a.take k)) ∧ Below w.heap.size w wr)
  (fun _ i _ => n' - (intOf i).toNat)
 case atStart =>
  exact ⟨0, 0, List.replicate (n' + 1) 0, Nat.zero_le _, by omega, rfl, rfl, Lib.hid List.length_replicate, hown1, Lm.ok_zeros _, Lib.hid (by simp [Lm.lv]), hb1⟩
 case round =>
  clear hown1 hb1
  obtain ⟨k, q, out, hk, hq, rfl, rfl, hol, hown, hok, HEQ, hbw⟩ := hrel
  have hko : k < out.length := by rw [hol.out]; omega
  have hco := own_at hown hko
  have hf := hown.frozenAt k
  have hsz := (hown.lt _ rfl).2
  by_cases h1 : k < n'
  ·obtain ⟨ad, rfl, hba, hla, hca, hxa⟩ := (hb.below hbw).at_ h1
   have hlt1 : (k : Int) < (n' : Int) := by omega
   have hlt2 : k < n' + 1 := by omega
   have hlt3 : (k : Int) < (n' : Int) + 1 := by omega
   have hk0 : (0 : Int) ≤ (k : Int) := Int.natCast_nonneg _

   by_cases h2 : k < n
   ·obtain ⟨ad', rfl, hbb, hlb, hcb, hxb⟩ := (ha.below hbw).at_ h2
    have hlt4 : (k : Int) < (n : Int) := by omega
    have hE := Lm.add_step (take_len (by omega)) HEQ.out (Lm.take_in b hla) (Lm.take_in a hlb)
    rw [← take_set_snoc _ hko] at hE
    have HE' := Lib.hid hE
    clear hE
    go_wp2_with (go_at_call 339; refine (ey_add32 b[k] a[k] q _ hxa hxb hq).mono ?_; rintro e2 w2 ⟨rfl, rfl⟩)
    go_roundw
    case rel => exact ⟨k + 1, (q + b[k] + a[k]) / 4294967296, out.set k ((q + b[k] + a[k]) % 4294967296), h1, by omega, by go_num, rfl, Lib.hid (by rw [List.length_set]; exact hol.out), own_store hown _ rfl, Lm.ok_set hok (Nat.mod_lt _ (by decide)), HE', hbw.setCell (p := ⟨w.heap.size, k, none⟩) (Nat.le_refl _) _⟩
    case measure => simp [intOf]; omega
   ·have hlb : a.length ≤ k := by rw [HL.out.1]; omega
    have hlt4 : ¬ (k : Int) < (n : Int) := by omega
    have hE := Lm.add_step (take_len (by omega)) HEQ.out (Lm.take_in b hla) (Lm.take_out a hlb)
    rw [← take_set_snoc _ hko] at hE
    have HE' := Lib.hid hE
    clear hE
    go_wp2_with (go_at_call 339; refine (ey_add32 b[k] 0 q _ hxa (by omega) hq).mono ?_; rintro e2 w2 ⟨rfl, rfl⟩)
    go_roundw
    case rel => exact ⟨k + 1, (q + b[k] + 0) / 4294967296, out.set k ((q + b[k] + 0) % 4294967296), h1, by omega, by go_num, rfl, Lib.hid (by rw [List.length_set]; exact hol.out), own_store hown _ rfl, Lm.ok_set hok (Nat.mod_lt _ (by decide)), HE', hbw.setCell (p := ⟨w.heap.size, k, none⟩) (Nat.le_refl _) _⟩
    case measure => simp [intOf]; omega
  ·obtain rfl : k = n' := by omega
   have hqb : q < 4294967296 := by omega
   have hlt1 : ¬ (k : Int) < (k : Int) := by omega
   have hlt2 : (k : Int) < (k : Int) + 1 := by omega
   go_wp2_with fail
   go_ret
   have hst := own_store hown (j := k) (X := (q : Int)) q rfl
   refine ⟨some ⟨w.heap.size, 0, none⟩, k + 1, k + 1, out.set k q, rfl, Sl.of_own hst (Nat.le_refl _) (Lm.ok_set hok hqb), ⟨?_, by rw [List.length_set, hol.out]; omega⟩, Owns.one ⟨_, hst⟩, hbw.setCell (p := ⟨w.heap.size, k, none⟩) (Nat.le_refl _) _⟩
   have h1 := HEQ.out
   have h2 := Lm.lv_take_succ (out.set k q) k (by rw [List.length_set]; exact hko)
   rw [List.take_set_of_le (Nat.le_refl _), List.getElem_set_self, Lm.lv_take_ge _ (k + 1) (by rw [List.length_set, hol.out]; exact Nat.le_refl _)] at h2
   rw [h2, h1, Lm.lv_take_ge b k (by rw [HL.out.2]; exact Nat.le_refl _), Lm.lv_take_ge a k (by rw [HL.out.1]; omega)]
   omega
theorem ow_add_any (A A' : Option Addr) (n c n' c' : Nat) (a b : List Nat) (w : World) (ha : Sl w A n c a) (hb : Sl w A' n' c' b) (hn : n ≤ 1000000000) (hn' : n' ≤ 1000000000) :
  Calls Tryz.prog 277 #[.slice A n c, .slice A' n' c'] w (RetLimbsO w fun l => Lm.lv l = Lm.lv a + Lm.lv b ∧ l.length ≤ max n n' + 1) := by
 rcases Nat.lt_or_ge n n' with h | h
 ·exact ow_add_lt A A' n c n' c' a b w ha hb hn hn' h
 ·exact ow_add_ge A A' n c n' c' a b w ha hb hn hn' h
set_option maxRecDepth 100000 in
set_option maxHeartbeats 3200000 in
theorem ow_sub_any (A A' : Option Addr) (n c n' c' : Nat) (a b : List Nat) (w : World) (ha : Sl w A n c a) (hb : Sl w A' n' c' b) (hn : n ≤ 1000000000) (hn' : n' ≤ n) (hle : Lm.lv b ≤ Lm.lv a) :
  Calls Tryz.prog 279 #[.slice A n c, .slice A' n' c'] w (RetLimbsO w fun l => Lm.lv l = Lm.lv a - Lm.lv b ∧ Lm.canon l ∧ l.length ≤ n) := by
 have la := ha.len
 have lb := hb.len
 obtain ⟨i0, hi, hz0, hz1, hz2⟩ := info_parts info_u32
 have HL : Hid (a.length = n ∧ b.length = n') := ⟨la, lb⟩
 have HLE : Hid (Lm.lv b ≤ Lm.lv a) := hle
 clear la lb hle
 go_enter Tryz.func279, Tryz.ntmps279
 go_wp2_with (at_make; refine wpList_make_full _ rfl _ _ 22 rfl w.heap.size 164 i0 (.int .u32 0) 1 Tryz.underlying22 hi hz0 hz1 _ _ _ _ n rfl rfl (by omega) (by omega) ?c2 ?c3 (Nat.le_refl _) ?_)
 case c2 => first | omega | (rw [hz2]; omega)
 case c3 => unfold maxLen; omega
 intro w1 hown1 hgrow1
 rw [made_u32] at hown1
 have hb1 : Below w.heap.size w w1 := (Below.refl _ _).grown hgrow1 (Nat.le_refl _) (fun k hk => by cases hk)
 clear hgrow1
 go_wp2_with fail
 go_loopw [6, 14] (fun cr i wr => ∃ (k q : Nat) (out : List Nat), k ≤ n ∧ q ≤ 1 ∧ i = .int .i64 (k : Int) ∧ cr = .int .u32 (q : Int) ∧ Hid (out.length = n) ∧ wr.ownsRow w.heap.size 164 1 (.slice (some ⟨w.heap.size, 0, none⟩) n n) n (u32s out) ∧ Lm.ok out ∧
   Hid (Lm.lv (out.take k) + Lm.lv (b.take k) = Lm.lv (a.take k) + Lm.B ^ k * q) ∧ Below w.heap.size w wr)
  (fun _ i _ => n - (intOf i).toNat)
 case atStart =>
  exact ⟨0, 0, List.replicate n 0, Nat.zero_le _, by omega, rfl, rfl, Lib.hid List.length_replicate, hown1, Lm.ok_zeros _, Lib.hid (by simp [Lm.lv]), hb1⟩
 case round =>
  clear hown1 hb1
  obtain ⟨k, q, out, hk, hq, rfl, rfl, hol, hown, hok, HEQ, hbw⟩ := hrel
  have hsz := (hown.lt _ rfl).2
  by_cases h1 : k < n
  ·have hko : k < out.length := by rw [hol.out]; omega
   have hco := own_at hown hko
   have hf := hown.frozenAt k
   obtain ⟨ad, rfl, hba, hla, hca, hxa⟩ := (ha.below hbw).at_ h1
   have hlt1 : (k : Int) < (n : Int) := by omega
   have hk0 : (0 : Int) ≤ (k : Int) := Int.natCast_nonneg _

   by_cases h2 : k < n'
   ·obtain ⟨ad', rfl, hbb, hlb, hcb, hxb⟩ := (hb.below hbw).at_ h2
    have hlt4 : (k : Int) < (n' : Int) := by omega
    obtain ⟨d, r, hd, hr1, hr, _⟩ := sub32_val a[k] b[k] q hxa hxb hq
    have hE := Lm.sub_step (r := r) (d := d) (take_len (by omega)) HEQ.out (Lm.take_in a hla) (Lm.take_in b hlb) hr
    rw [← take_set_snoc _ hko] at hE
    have HE' := Lib.hid hE
    clear hE
    go_wp2_with (go_at_call 341; refine (sub32_any a[k] b[k] q d r _ hxa hxb hq hd hr).mono ?_; rintro e2 w2 ⟨rfl, rfl⟩)
    go_roundw
    case rel => exact ⟨k + 1, r, out.set k d, h1, hr1, by go_num, rfl, Lib.hid (by rw [List.length_set]; exact hol.out), own_store hown _ rfl, Lm.ok_set hok hd, HE', hbw.setCell (p := ⟨w.heap.size, k, none⟩) (Nat.le_refl _) _⟩
    case measure => simp [intOf]; omega
   ·have hlb : b.length ≤ k := by rw [HL.out.2]; omega
    have hlt4 : ¬ (k : Int) < (n' : Int) := by omega
    obtain ⟨d, r, hd, hr1, hr, _⟩ := sub32_val a[k] 0 q hxa (by omega) hq
    have hE := Lm.sub_step (r := r) (d := d) (take_len (by omega)) HEQ.out (Lm.take_in a hla) (Lm.take_out b hlb) hr
    rw [← take_set_snoc _ hko] at hE
    have HE' := Lib.hid hE
    clear hE
    go_wp2_with (go_at_call 341; refine (sub32_any a[k] 0 q d r _ hxa (by omega) hq hd hr).mono ?_; rintro e2 w2 ⟨rfl, rfl⟩)
    go_roundw
    case rel => exact ⟨k + 1, r, out.set k d, h1, hr1, by go_num, rfl, Lib.hid (by rw [List.length_set]; exact hol.out), own_store hown _ rfl, Lm.ok_set hok hd, HE', hbw.setCell (p := ⟨w.heap.size, k, none⟩) (Nat.le_refl _) _⟩
    case measure => simp [intOf]; omega
  ·obtain rfl : k = n := by omega
   have hlt1 : ¬ (k : Int) < (k : Int) := by omega
   have hout := hol.out
   have hS : Sl wr (some ⟨w.heap.size, 0, none⟩) k k out := Sl.of_own hown (Nat.le_refl _) hok
   have htl := trim_len out
   have E : Hid (Lm.lv out = Lm.lv a - Lm.lv b) := by
    have h1 := HEQ.out
    rw [Lm.lv_take_ge out k (by omega), Lm.lv_take_ge a k (by rw [HL.out.1]; omega), Lm.lv_take_ge b k (by rw [HL.out.2]; omega)] at h1
    have h2 := Lm.lv_lt hok
    rw [hout] at h2
    have h3 := HLE.out
    have hq0 : q = 0 := by
     rcases Nat.eq_zero_or_pos q with h | h
     ·exact h
     ·have : q = 1 := by omega
      subst this; omega
    subst hq0
    show Lm.lv out = Lm.lv a - Lm.lv b
    omega
   clear hout
   have hO : OwnR w.heap.size wr (some ⟨w.heap.size, 0, none⟩, k, k) := ⟨_, hown⟩
   go_wp2_with (go_at_call 278; refine (ex_trim_any _ _ _ _ _ hS (by omega)).mono ?_; rintro e w' ⟨rfl, rfl⟩)
   go_ret
   exact ⟨some ⟨w.heap.size, 0, none⟩, _, k, Lm.trim out, rfl, hS.trim, ⟨by rw [Lm.trim_lv]; exact E.out, Lm.trim_canon _, by have := hol.out; omega⟩, Owns.one (hO.cut (.inr ⟨rfl, rfl, by have := hol.out; simp only; omega⟩)), hbw⟩
end Go.Proofs.YtgekmbfmfiikkaaGreatDoor

namespace Go.Proofs.YtgekmbfmfiikkaaGreatDoor
open Go.RowKit

theorem len_le_lv {w w' : World} {A A' : Option Addr} {n c n' c' : Nat} {a b : List Nat} (ha : Sl w A n c a) (hb : Sl w' A' n' c' b) (cb : Lm.canon b) (h : Lm.lv b ≤ Lm.lv a) : n' ≤ n := by
 by_cases hb0 : b = []
 ·subst hb0
  have := hb.len
  simp at this
  omega
 ·have h1 := Lm.lv_lt ha.ok
  have h2 : IsInt w' false A' n' c' (Lm.lv b : Int) := ⟨b, hb, cb, fun e => absurd e hb0, rfl⟩
  refine isInt_len_le h2 ?_
  rw [Int.natAbs_natCast, ← ha.len]
  omega
theorem isInt_flip {w : World} {neg : Bool} {A : Option Addr} {n c : Nat} {z : Int} (h : IsInt w neg A n c z) : IsInt w (!neg && decide (0 < n)) A n c (-z) := by
 obtain ⟨l, h1, h2, h3, rfl⟩ := h
 refine ⟨l, h1, h2, fun e => ?_, ?_⟩
 ·subst e
  have := h1.len
  simp at this
  subst this
  simp
 ·have hl := h1.len
  by_cases h0 : n = 0
  ·subst h0
   have : l = [] := List.eq_nil_of_length_eq_zero hl
   subst this
   unfold sgnd
   cases neg <;> simp [Lm.lv]
  ·have h0' : 0 < n := by omega
   rw [decide_eq_true h0', Bool.and_true]
   unfold sgnd
   cases neg <;> simp
set_option maxRecDepth 100000 in
set_option maxHeartbeats 3200000 in
theorem ow_plus_same (neg neg' : Bool) (A A' : Option Addr) (n c n' c' : Nat) (a b : List Nat) (z : Int) (w : World) (ha : Sl w A n c a) (hb : Sl w A' n' c' b) (_ca : Lm.canon a) (_cb : Lm.canon b) (hn : n ≤ 1000000000) (hn' : n' ≤ 1000000000) (hs : neg = neg') (HZ : Hid (sgnd neg (Lm.lv a + Lm.lv b) = z)) :
    Calls Tryz.prog 219 #[.agg #[.bool neg, .slice A n c], .agg #[.bool neg', .slice A' n' c']] w (RetIntO w z) := by
  have K0 := (((Mo.nil w).var (g := w.heap.size) rfl [.bool neg, .slice A n c] 24).var (g := w.heap.size + 1) (by simp) [.bool neg', .slice A' n' c'] 24).var (g := w.heap.size + 1 + 1) (by simp) [.bool false, .slice none 0 0] 24
  have ha0 := ha.below K0.1
  have hb0 := hb.below K0.1
  clear ha hb
  have hne : (neg == neg') = true := by rw [hs]; simp
  clear hs
  have f1 : ¬ w.heap.size + 1 + 1 = w.heap.size := by omega
  have f2 : ¬ w.heap.size = w.heap.size + 1 + 1 := by omega
  go_enter Tryz.func219, Tryz.ntmps219
  go_wp2_with fail
  generalize ((w.alloc (.cells #[.bool neg, .slice A n c] 24)).alloc (.cells #[.bool neg', .slice A' n' c'] 24)).alloc (.cells #[.bool false, .slice none 0 0] 24) = w0 at K0 ha0 hb0 ⊢
  obtain ⟨_, _, _, _, _⟩ := (K0.blk (g := w.heap.size) (by repeat constructor)).two
  obtain ⟨_, _, _, _, _⟩ := (K0.blk (g := w.heap.size + 1) (by repeat constructor)).two
  go_wp2_with fail
  go_region_held3 (fun w' => w'.cell? ⟨w.heap.size, 0, none⟩ = some (.bool neg) ∧ w'.cell? ⟨w.heap.size, 1, none⟩ = some (.slice A n c) ∧ w'.cell? ⟨w.heap.size + 1, 0, none⟩ = some (.bool neg') ∧ w'.cell? ⟨w.heap.size + 1, 1, none⟩ = some (.slice A' n' c'))
    (go_keep)
    (first
      | (go_at_call 277; apply Calls.withMo (w0 := w); (case K => with_reducible repeat (first | exact K0 | apply Mo.drew | apply Mo.drewN)); intro KX; (with_reducible refine (ow_add_any A A' n c n' c' a b _ ?_ ?_ hn hn').mono ?_); (exact ha0); (exact hb0); rintro e1 w1 ⟨A1, n1, c1, l1, rfl, S1, hP1, O1, hb1⟩; (with_reducible have K1 := KX.call1 hb1 O1); have hl1 := S1.len; have HP1 := Lib.hid hP1; clear hP1; obtain ⟨_, _, _, _, _⟩ := (K1.blk (g := w.heap.size) (by repeat constructor)).two; obtain ⟨_, _, _, _, _⟩ := (K1.blk (g := w.heap.size + 1) (by repeat constructor)).two; clear KX hb1 O1)
      | (go_at_call 267; apply Calls.withMo (w0 := w); (case K => with_reducible repeat (first | exact K1 | apply Mo.drew | apply Mo.drewN)); intro KX; (with_reducible refine (ow_signed_any neg A1 n1 c1 l1 _ S1 (by have := HP1.out.2; omega)).mono ?_); rintro e2 w2 ⟨neg2, A2, n2, c2, rfl, I2, C2, hb2⟩; (with_reducible have K2 := ((KX.next hb2).cut C2).int I2); obtain ⟨_, _, _, _, _⟩ := (K2.blk (g := w.heap.size) (by repeat constructor)).two; obtain ⟨_, _, _, _, _⟩ := (K2.blk (g := w.heap.size + 1) (by repeat constructor)).two; obtain ⟨sa2, sb2, sc2, sd2, se2⟩ := (K2.blk (g := w.heap.size + 1 + 1) (by repeat constructor)).two; clear KX I2 C2 hb2))
  all_goals
   go_wp2_with fail
   rw [show sgnd neg (Lm.lv l1) = z by rw [HP1.out.1]; exact HZ.out] at K2
   have KE := (K2.pick (L' := [(w.heap.size + 1 + 1, [.bool false, .slice none 0 0])]) (l' := [(neg2, A2, n2, c2, z)]) (by simp) (by simp)).set2 (by simp <;> omega) neg2 A2 n2 c2
   exact bodyPost_ret (v := .agg #[.bool neg2, .slice A2 n2 c2]) (by simp [results, Tryz.results219, go_sem, sa2, sb2]) rfl ⟨neg2, A2, n2, c2, rfl, KE.at_ (by simp), KE.own1 0 rfl, KE.1⟩
set_option maxRecDepth 100000 in
set_option maxHeartbeats 3200000 in
theorem ow_plus_ge (neg neg' : Bool) (A A' : Option Addr) (n c n' c' : Nat) (a b : List Nat) (z : Int) (w : World) (ha : Sl w A n c a) (hb : Sl w A' n' c' b) (ca : Lm.canon a) (cb : Lm.canon b) (hn : n ≤ 1000000000) (hn' : n' ≤ 1000000000) (hs : neg ≠ neg') (hle : Lm.lv b ≤ Lm.lv a) (HZ : Hid (sgnd neg (Lm.lv a - Lm.lv b) = z)) :
    Calls Tryz.prog 219 #[.agg #[.bool neg, .slice A n c], .agg #[.bool neg', .slice A' n' c']] w (RetIntO w z) := by
  have K0 := (((Mo.nil w).var (g := w.heap.size) rfl [.bool neg, .slice A n c] 24).var (g := w.heap.size + 1) (by simp) [.bool neg', .slice A' n' c'] 24).var (g := w.heap.size + 1 + 1) (by simp) [.bool false, .slice none 0 0] 24
  have ha0 := ha.below K0.1
  have hb0 := hb.below K0.1
  clear ha hb
  have hne : (neg == neg') = false := by rw [beq_eq_false_iff_ne]; exact hs
  clear hs
  have hlen := len_le_lv ha0 hb0 cb hle
  have f1 : ¬ w.heap.size + 1 + 1 = w.heap.size := by omega
  have f2 : ¬ w.heap.size = w.heap.size + 1 + 1 := by omega
  go_enter Tryz.func219, Tryz.ntmps219
  go_wp2_with fail
  generalize ((w.alloc (.cells #[.bool neg, .slice A n c] 24)).alloc (.cells #[.bool neg', .slice A' n' c'] 24)).alloc (.cells #[.bool false, .slice none 0 0] 24) = w0 at K0 ha0 hb0 ⊢
  obtain ⟨qa0, qb0, _, _, qe0⟩ := (K0.blk (g := w.heap.size) (by repeat constructor)).two
  obtain ⟨ra0, rb0, _, _, re0⟩ := (K0.blk (g := w.heap.size + 1) (by repeat constructor)).two
  go_wp2_with fail
  refine (ex_size_any A A' n c n' c' a b _ ha0 hb0 ca cb hn hn').mono ?_
  rintro e3 w3 ⟨v, rfl, hv1, hv2, hv3, hv4, k3, rfl⟩
  have ha1 : Sl (w0.drewN k3) A n c a := ha0
  have hb1 : Sl (w0.drewN k3) A' n' c' b := hb0
  have K1 := K0.drewN k3
  clear ha0 hb0 K0 qa0 qb0 qe0 ra0 rb0 re0
  generalize w0.drewN k3 = w1 at K1 ha1 hb1 ⊢
  have K0 := K1
  have ha0 := ha1
  have hb0 := hb1
  clear K1 ha1 hb1
  obtain ⟨qa0, qb0, _, _, qe0⟩ := (K0.blk (g := w.heap.size) (by repeat constructor)).two
  obtain ⟨ra0, rb0, _, _, re0⟩ := (K0.blk (g := w.heap.size + 1) (by repeat constructor)).two
  have hv0 : ¬ v < 0 := by omega
  have hv00 : 0 ≤ v := by omega
  clear hv1 hv2
  go_wp2_with fail
  go_region_held3 (fun w' => w'.cell? ⟨w.heap.size, 0, none⟩ = some (.bool neg) ∧ w'.cell? ⟨w.heap.size, 1, none⟩ = some (.slice A n c) ∧ w'.cell? ⟨w.heap.size + 1, 0, none⟩ = some (.bool neg') ∧ w'.cell? ⟨w.heap.size + 1, 1, none⟩ = some (.slice A' n' c'))
    (go_keep)
    (first
      | (go_at_call 279; apply Calls.withMo (w0 := w); (case K => with_reducible repeat (first | exact K0 | apply Mo.drew | apply Mo.drewN)); intro KX; (with_reducible refine (ow_sub_any A A' n c n' c' a b _ ?_ ?_ hn hlen hle).mono ?_); (exact ha0); (exact hb0); rintro e1 w1 ⟨A1, n1, c1, l1, rfl, S1, hP1, O1, hb1⟩; (with_reducible have K1 := KX.call1 hb1 O1); have hl1 := S1.len; have HP1 := Lib.hid hP1; clear hP1; obtain ⟨_, _, _, _, _⟩ := (K1.blk (g := w.heap.size) (by repeat constructor)).two; obtain ⟨_, _, _, _, _⟩ := (K1.blk (g := w.heap.size + 1) (by repeat constructor)).two; clear KX hb1 O1)
      | (go_at_call 267; apply Calls.withMo (w0 := w); (case K => with_reducible repeat (first | exact K1 | apply Mo.drew | apply Mo.drewN)); intro KX; (with_reducible refine (ow_signed_any neg A1 n1 c1 l1 _ S1 (by have := HP1.out.2.2; omega)).mono ?_); rintro e2 w2 ⟨neg2, A2, n2, c2, rfl, I2, C2, hb2⟩; (with_reducible have K2 := ((KX.next hb2).cut C2).int I2); obtain ⟨_, _, _, _, _⟩ := (K2.blk (g := w.heap.size) (by repeat constructor)).two; obtain ⟨_, _, _, _, _⟩ := (K2.blk (g := w.heap.size + 1) (by repeat constructor)).two; obtain ⟨sa2, sb2, sc2, sd2, se2⟩ := (K2.blk (g := w.heap.size + 1 + 1) (by repeat constructor)).two; clear KX I2 C2 hb2))
  all_goals
   go_wp2_with fail
   rw [show sgnd neg (Lm.lv l1) = z by rw [HP1.out.1]; exact HZ.out] at K2
   have KE := (K2.pick (L' := [(w.heap.size + 1 + 1, [.bool false, .slice none 0 0])]) (l' := [(neg2, A2, n2, c2, z)]) (by simp) (by simp)).set2 (by simp <;> omega) neg2 A2 n2 c2
   exact bodyPost_ret (v := .agg #[.bool neg2, .slice A2 n2 c2]) (by simp [results, Tryz.results219, go_sem, sa2, sb2]) rfl ⟨neg2, A2, n2, c2, rfl, KE.at_ (by simp), KE.own1 0 rfl, KE.1⟩
set_option maxRecDepth 100000 in
set_option maxHeartbeats 3200000 in
theorem ow_plus_lt (neg neg' : Bool) (A A' : Option Addr) (n c n' c' : Nat) (a b : List Nat) (z : Int) (w : World) (ha : Sl w A n c a) (hb : Sl w A' n' c' b) (ca : Lm.canon a) (cb : Lm.canon b) (hn : n ≤ 1000000000) (hn' : n' ≤ 1000000000) (hs : neg ≠ neg') (hle : Lm.lv a < Lm.lv b) (HZ : Hid (sgnd neg' (Lm.lv b - Lm.lv a) = z)) :
    Calls Tryz.prog 219 #[.agg #[.bool neg, .slice A n c], .agg #[.bool neg', .slice A' n' c']] w (RetIntO w z) := by
  have K0 := (((Mo.nil w).var (g := w.heap.size) rfl [.bool neg, .slice A n c] 24).var (g := w.heap.size + 1) (by simp) [.bool neg', .slice A' n' c'] 24).var (g := w.heap.size + 1 + 1) (by simp) [.bool false, .slice none 0 0] 24
  have ha0 := ha.below K0.1
  have hb0 := hb.below K0.1
  clear ha hb
  have hne : (neg == neg') = false := by rw [beq_eq_false_iff_ne]; exact hs
  clear hs
  have hlen := len_le_lv hb0 ha0 ca (Nat.le_of_lt hle)
  have f1 : ¬ w.heap.size + 1 + 1 = w.heap.size := by omega
  have f2 : ¬ w.heap.size = w.heap.size + 1 + 1 := by omega
  go_enter Tryz.func219, Tryz.ntmps219
  go_wp2_with fail
  generalize ((w.alloc (.cells #[.bool neg, .slice A n c] 24)).alloc (.cells #[.bool neg', .slice A' n' c'] 24)).alloc (.cells #[.bool false, .slice none 0 0] 24) = w0 at K0 ha0 hb0 ⊢
  obtain ⟨qa0, qb0, _, _, qe0⟩ := (K0.blk (g := w.heap.size) (by repeat constructor)).two
  obtain ⟨ra0, rb0, _, _, re0⟩ := (K0.blk (g := w.heap.size + 1) (by repeat constructor)).two
  go_wp2_with fail
  refine (ex_size_any A A' n c n' c' a b _ ha0 hb0 ca cb hn hn').mono ?_
  rintro e3 w3 ⟨v, rfl, hv1, hv2, hv3, hv4, k3, rfl⟩
  have ha1 : Sl (w0.drewN k3) A n c a := ha0
  have hb1 : Sl (w0.drewN k3) A' n' c' b := hb0
  have K1 := K0.drewN k3
  clear ha0 hb0 K0 qa0 qb0 qe0 ra0 rb0 re0
  generalize w0.drewN k3 = w1 at K1 ha1 hb1 ⊢
  have K0 := K1
  have ha0 := ha1
  have hb0 := hb1
  clear K1 ha1 hb1
  obtain ⟨qa0, qb0, _, _, qe0⟩ := (K0.blk (g := w.heap.size) (by repeat constructor)).two
  obtain ⟨ra0, rb0, _, _, re0⟩ := (K0.blk (g := w.heap.size + 1) (by repeat constructor)).two
  have hv0 : v < 0 := by omega
  have hv00 : ¬ 0 ≤ v := by omega
  clear hv1 hv2
  go_wp2_with fail
  go_region_held3 (fun w' => w'.cell? ⟨w.heap.size, 0, none⟩ = some (.bool neg) ∧ w'.cell? ⟨w.heap.size, 1, none⟩ = some (.slice A n c) ∧ w'.cell? ⟨w.heap.size + 1, 0, none⟩ = some (.bool neg') ∧ w'.cell? ⟨w.heap.size + 1, 1, none⟩ = some (.slice A' n' c'))
    (go_keep)
    (first
      | (go_at_call 279; apply Calls.withMo (w0 := w); (case K => with_reducible repeat (first | exact K0 | apply Mo.drew | apply Mo.drewN)); intro KX; (with_reducible refine (ow_sub_any A' A n' c' n c b a _ ?_ ?_ hn' hlen (Nat.le_of_lt hle)).mono ?_); (exact hb0); (exact ha0); rintro e1 w1 ⟨A1, n1, c1, l1, rfl, S1, hP1, O1, hb1⟩; (with_reducible have K1 := KX.call1 hb1 O1); have hl1 := S1.len; have HP1 := Lib.hid hP1; clear hP1; obtain ⟨_, _, _, _, _⟩ := (K1.blk (g := w.heap.size) (by repeat constructor)).two; obtain ⟨_, _, _, _, _⟩ := (K1.blk (g := w.heap.size + 1) (by repeat constructor)).two; clear KX hb1 O1)
      | (go_at_call 267; apply Calls.withMo (w0 := w); (case K => with_reducible repeat (first | exact K1 | apply Mo.drew | apply Mo.drewN)); intro KX; (with_reducible refine (ow_signed_any neg' A1 n1 c1 l1 _ S1 (by have := HP1.out.2.2; omega)).mono ?_); rintro e2 w2 ⟨neg2, A2, n2, c2, rfl, I2, C2, hb2⟩; (with_reducible have K2 := ((KX.next hb2).cut C2).int I2); obtain ⟨_, _, _, _, _⟩ := (K2.blk (g := w.heap.size) (by repeat constructor)).two; obtain ⟨_, _, _, _, _⟩ := (K2.blk (g := w.heap.size + 1) (by repeat constructor)).two; obtain ⟨sa2, sb2, sc2, sd2, se2⟩ := (K2.blk (g := w.heap.size + 1 + 1) (by repeat constructor)).two; clear KX I2 C2 hb2))
  all_goals
   go_wp2_with fail
   rw [show sgnd neg' (Lm.lv l1) = z by rw [HP1.out.1]; exact HZ.out] at K2
   have KE := (K2.pick (L' := [(w.heap.size + 1 + 1, [.bool false, .slice none 0 0])]) (l' := [(neg2, A2, n2, c2, z)]) (by simp) (by simp)).set2 (by simp <;> omega) neg2 A2 n2 c2
   exact bodyPost_ret (v := .agg #[.bool neg2, .slice A2 n2 c2]) (by simp [results, Tryz.results219, go_sem, sa2, sb2]) rfl ⟨neg2, A2, n2, c2, rfl, KE.at_ (by simp), KE.own1 0 rfl, KE.1⟩
theorem ow_plus_any (neg neg' : Bool) (A A' : Option Addr) (n c n' c' : Nat) (x y : Int) (w : World) (hx : IsInt w neg A n c x) (hy : IsInt w neg' A' n' c' y) (hn : n ≤ 1000000000) (hn' : n' ≤ 1000000000) :
  Calls Tryz.prog 219 #[.agg #[.bool neg, .slice A n c], .agg #[.bool neg', .slice A' n' c']] w (RetIntO w (x + y)) := by
 obtain ⟨a, ha, ca, _, rfl⟩ := hx
 obtain ⟨b, hb, cb, _, rfl⟩ := hy
 by_cases hs : neg = neg'
 ·exact ow_plus_same neg neg' A A' n c n' c' a b _ w ha hb ca cb hn hn' hs (Lib.hid (by subst hs; unfold sgnd; cases neg <;> simp <;> omega))
 ·rcases Nat.lt_or_ge (Lm.lv a) (Lm.lv b) with h | h
  ·exact ow_plus_lt neg neg' A A' n c n' c' a b _ w ha hb ca cb hn hn' hs h (Lib.hid (by unfold sgnd; cases neg <;> cases neg' <;> simp at hs ⊢ <;> omega))
  ·exact ow_plus_ge neg neg' A A' n c n' c' a b _ w ha hb ca cb hn hn' hs h (Lib.hid (by unfold sgnd; cases neg <;> cases neg' <;> simp at hs ⊢ <;> omega))
set_option maxRecDepth 100000 in
set_option maxHeartbeats 3200000 in
theorem ow_minus_any (neg neg' : Bool) (A A' : Option Addr) (n c n' c' : Nat) (x y : Int) (w : World) (hx : IsInt w neg A n c x) (hy : IsInt w neg' A' n' c' y) (hn : n ≤ 1000000000) (hn' : n' ≤ 1000000000) :
  Calls Tryz.prog 251 #[.agg #[.bool neg, .slice A n c], .agg #[.bool neg', .slice A' n' c']] w (RetIntO w (x - y)) := by
 have K0 := ((((Mo.nil w).int hx).int (isInt_flip hy)).var (g := w.heap.size) rfl [.bool neg, .slice A n c] 24).var (g := w.heap.size + 1) (by simp) [.bool neg', .slice A' n' c'] 24 |>.var (g := w.heap.size + 1 + 1) (by simp) [.bool false, .slice none 0 0] 24
 have HS : Hid (x + -y = x - y) := Lib.hid (by omega)
 obtain ⟨sg, hsg⟩ : ∃ sg, (!neg' && decide (0 < n')) = sg := ⟨_, rfl⟩
 rw [hsg] at K0
 clear hx hy
 cases neg' with
 | true =>
  have hs : sg = false := by rw [← hsg]; rfl
  subst hs
  clear hsg
  go_enter Tryz.func251, Tryz.ntmps251
  go_wp2_with (go_at_call 219; (with_reducible refine (ow_plus_any neg false A A' n c n' c' x (-y) _ (K0.at_ (by simp)) (K0.at_ (by simp)) hn hn').mono ?_); rintro e1 w1 ⟨neg1, A1, n1, c1, rfl, I1, O1, hb1⟩; have K1 := (K0.call1 hb1 O1).int I1; obtain ⟨sa1, sb1, sc1, sd1, se1⟩ := (K1.blk (g := w.heap.size + 1 + 1) (by repeat constructor)).two)
  rw [HS.out] at K1
  have KE := (K1.pick (L' := [(w.heap.size + 1 + 1, [.bool false, .slice none 0 0])]) (l' := [(neg1, A1, n1, c1, x - y)]) (by simp) (by simp)).set2 (by simp <;> omega) neg1 A1 n1 c1
  exact bodyPost_ret (v := .agg #[.bool neg1, .slice A1 n1 c1]) (by simp [results, Tryz.results251, go_sem, sa1, sb1]) rfl ⟨neg1, A1, n1, c1, rfl, KE.at_ (by simp), KE.own1 0 rfl, KE.1⟩
 | false =>
  by_cases h0 : n' = 0
  ·have hs : sg = false := by rw [← hsg, h0]; rfl
   subst hs
   subst h0
   clear hsg
   go_enter Tryz.func251, Tryz.ntmps251
   go_wp2_with (go_at_call 219; (with_reducible refine (ow_plus_any neg false A A' n c 0 c' x (-y) _ (K0.at_ (by simp)) (K0.at_ (by simp)) hn hn').mono ?_); rintro e1 w1 ⟨neg1, A1, n1, c1, rfl, I1, O1, hb1⟩; have K1 := (K0.call1 hb1 O1).int I1; obtain ⟨sa1, sb1, sc1, sd1, se1⟩ := (K1.blk (g := w.heap.size + 1 + 1) (by repeat constructor)).two)
   rw [HS.out] at K1
   have KE := (K1.pick (L' := [(w.heap.size + 1 + 1, [.bool false, .slice none 0 0])]) (l' := [(neg1, A1, n1, c1, x - y)]) (by simp) (by simp)).set2 (by simp <;> omega) neg1 A1 n1 c1
   exact bodyPost_ret (v := .agg #[.bool neg1, .slice A1 n1 c1]) (by simp [results, Tryz.results251, go_sem, sa1, sb1]) rfl ⟨neg1, A1, n1, c1, rfl, KE.at_ (by simp), KE.own1 0 rfl, KE.1⟩
  ·have h0' : 0 < n' := by omega
   have hs : sg = true := by rw [← hsg, decide_eq_true h0']; rfl
   have h1 : (0 : Int) < (n' : Int) := by omega
   subst hs
   clear hsg
   go_enter Tryz.func251, Tryz.ntmps251
   go_wp2_with (go_at_call 219; (with_reducible refine (ow_plus_any neg true A A' n c n' c' x (-y) _ (K0.at_ (by simp)) (K0.at_ (by simp)) hn hn').mono ?_); rintro e1 w1 ⟨neg1, A1, n1, c1, rfl, I1, O1, hb1⟩; have K1 := (K0.call1 hb1 O1).int I1; obtain ⟨sa1, sb1, sc1, sd1, se1⟩ := (K1.blk (g := w.heap.size + 1 + 1) (by repeat constructor)).two)
   rw [HS.out] at K1
   have KE := (K1.pick (L' := [(w.heap.size + 1 + 1, [.bool false, .slice none 0 0])]) (l' := [(neg1, A1, n1, c1, x - y)]) (by simp) (by simp)).set2 (by simp <;> omega) neg1 A1 n1 c1
   exact bodyPost_ret (v := .agg #[.bool neg1, .slice A1 n1 c1]) (by simp [results, Tryz.results251, go_sem, sa1, sb1]) rfl ⟨neg1, A1, n1, c1, rfl, KE.at_ (by simp), KE.own1 0 rfl, KE.1⟩
end Go.Proofs.YtgekmbfmfiikkaaGreatDoor
