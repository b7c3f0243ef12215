/-
  Whole numbers in memory of their own: products (Times).
  Whole numbers in memory of their own: of 64 bits (Of), copies (own).
  The program's whole numbers (package exact): limbs times a power of two (up, Double).
  The program's whole numbers (package exact): times a power of two (Double).
  The program's whole numbers (package exact): limbs by one limb, in place (bits.Div32, short).
  The quotient of limbs by limbs, plainly: how far a limb that is guessed by two limbs of the divisor may be off; taking away; adding back.
  The program's whole numbers (package exact): limbs less so many times others, in place (less).
-/
import Derived.Test.YtgekmbfmfiikkaaGreatDoorExV
import Derived.Test.YtgekmbfmfiikkaaGreatDoorEyB
import Derived.BigQuiet
import Derived.Deep.OwnRows
import Derived.Test.YtgekmbfmfiikkaaGreatDoorZero
namespace Go.Proofs.YtgekmbfmfiikkaaGreatDoor
open Go.RowKit

set_option maxRecDepth 100000 in
set_option maxHeartbeats 3200000 in
theorem ow_times_sl (neg neg' : Bool) (A A' : Option Addr) (n c n' c' : Nat) (a b : List Nat) (w : World) (ha : Sl w A n c a) (hb : Sl w A' n' c' b) (hn : n ≤ 1000000000) (hn' : n' ≤ 1000000000) :
  Calls Tryz.prog 221 #[.agg #[.bool neg, .slice A n c], .agg #[.bool neg', .slice A' n' c']] w (RetIntO w (sgnd (neg != neg') (Lm.lv a * Lm.lv b))) := by
 have la := ha.len
 have lb := hb.len
 obtain ⟨i0, hi, hz0, hz1, hz2⟩ := info_parts info_u32
 have HL : Hid (a.length = n ∧ b.length = n') := ⟨la, lb⟩
 have HM : Hid (IntKind.i64.wrap ((n : Int) + (n' : Int)) = ((n + n' : Nat) : Int)) := Lib.hid (by rw [IntWalk.i64_in _ (by omega)]; omega)
 have HM2 : Hid ((n : Int) + (n' : Int) = ((n + n' : Nat) : Int)) := Lib.hid (by omega)
 clear la lb
 have K0 := (((Mo.nil w).var (g := w.heap.size) rfl [.bool neg, .slice A n c] 24).var (g := w.heap.size + 1) (by simp) [.bool neg', .slice A' n' c'] 24).var (g := w.heap.size + 1 + 1) (by simp) [.bool false, .slice none 0 0] 24
 have ha0 := ha.below K0.1
 have hb0 := hb.below K0.1
 clear ha hb
 go_enter Tryz.func221, Tryz.ntmps221
 go_wp2_with fail
 generalize ((w.alloc (.cells #[.bool neg, .slice A n c] 24)).alloc (.cells #[.bool neg', .slice A' n' c'] 24)).alloc (.cells #[.bool false, .slice none 0 0] 24) = w0 at K0 ha0 hb0 ⊢
 obtain ⟨qa0, qb0, _, _, qe0⟩ := (K0.blk (g := w.heap.size) (by repeat constructor)).two
 obtain ⟨ra0, rb0, _, _, re0⟩ := (K0.blk (g := w.heap.size + 1) (by repeat constructor)).two
 go_quiet (fail)
 have ha1 : Sl (w0.drewN nq) A n c a := ha0
 have hb1 : Sl (w0.drewN nq) A' n' c' b := hb0
 have K1 := K0.drewN nq
 clear ha0 hb0 K0 qa0 qb0 qe0 ra0 rb0 re0
 generalize w0.drewN nq = w1 at K1 ha1 hb1 ⊢
 go_wp2_with (at_make; refine wpList_make_full _ rfl _ _ 22 rfl w1.heap.size 164 i0 (.int .u32 0) 1 Tryz.underlying22 hi hz0 hz1 _ _ _ _ (n + n') rfl rfl (by first | exact HM.out | exact HM2.out | omega) (by first | exact HM.out | exact HM2.out | omega) ?c2 ?c3 (Nat.le_refl _) ?_)
 case c2 => rw [hz2]; omega
 case c3 => unfold maxLen; omega
 intro w2 hown2 hgrow2
 rw [made_u32] at hown2
 have hb2 : Below w1.heap.size w1 w2 := (Below.refl _ _).grown hgrow2 (Nat.le_refl _) (fun k hk => by cases hk)
 clear hgrow2
 go_wp2
 go_loopw [25] (fun i wr => ∃ (k : Nat) (out : List Nat), k ≤ n ∧ i = .int .i64 k ∧ Hid (out.length = n + n') ∧ wr.ownsRow w1.heap.size 164 1 (.slice (some ⟨w1.heap.size, 0, none⟩) (n + n') (n + n')) (n + n') (u32s out) ∧ Lm.ok out ∧
   Hid (Lm.lv (out.take (k + n')) = Lm.lv (a.take k) * Lm.lv b) ∧ Below w1.heap.size w1 wr)
  (fun i _ => n - (intOf i).toNat)
 case atStart =>
  exact ⟨0, List.replicate (n + n') 0, Nat.zero_le _, rfl, (List.length_replicate : (List.replicate (n + n') 0).length = n + n'), hown2, Lm.ok_zeros _,
   (by rw [List.take_replicate, Lm.lv_zeros]; simp [Lm.lv] : Lm.lv ((List.replicate (n + n') 0).take (0 + n')) = Lm.lv (a.take 0) * Lm.lv b), hb2⟩
 case round =>
  obtain ⟨k, out, hk, rfl, hol, hown, hok, HE, hnx⟩ := hrel
  clear hown2 hb2
  have hsz := (hown.lt _ rfl).2
  by_cases h1 : k < n
  ·obtain ⟨ad, rfl, hba, hla, hca0, hxa⟩ := (ha1.below hnx).at_ h1
   have hk0 : (0 : Int) ≤ (k : Int) := Int.natCast_nonneg _
   have hlt1 : (k : Int) < (n : Int) := by omega
   obtain ⟨x, hx⟩ : ∃ x, a[k] = x := ⟨_, rfl⟩
   rw [hx] at hca0 hxa
   have HX := Lib.hid hx
   clear hx
   go_wp2
   go_loopw [10, 32] (fun cr i wr => ∃ (j q : Nat) (out : List Nat), j ≤ n' ∧ q < 4294967296 ∧ i = .int .i64 j ∧ cr = .int .u64 q ∧ Hid (out.length = n + n') ∧ wr.ownsRow w1.heap.size 164 1 (.slice (some ⟨w1.heap.size, 0, none⟩) (n + n') (n + n')) (n + n') (u32s out) ∧ Lm.ok out ∧
     Hid (Lm.lv (out.take (k + n')) + Lm.B ^ (k + j) * q = Lm.lv (a.take k) * Lm.lv b + Lm.B ^ k * (x * Lm.lv (b.take j))) ∧ Below w1.heap.size w1 wr)
    (fun _ i _ => n' - (intOf i).toNat)
   case atStart =>
    exact ⟨0, 0, out, Nat.zero_le _, by omega, rfl, rfl, hol, hown, hok, (by rw [HE.out]; simp [Lm.lv] : Lm.lv (out.take (k + n')) + Lm.B ^ (k + 0) * 0 = Lm.lv (a.take k) * Lm.lv b + Lm.B ^ k * (x * Lm.lv (b.take 0))), hnx⟩
   case round =>
    clear hown hnx HE hol hok hsz out
    obtain ⟨j, q, out, hj, hq, rfl, rfl, hol, hown, hok, HE, hnx⟩ := hrel
    have hsz := (hown.lt _ rfl).2
    by_cases h2 : j < n'
    ·obtain ⟨ad', rfl, hbb, hlb, hcb, hxb⟩ := (hb1.below hnx).at_ h2
     have hkj : k + j < out.length := by rw [hol.out]; omega
     have hco := own_at hown hkj
     have hxo := Lm.ok_get hok hkj
     have hmc := Lm.mul_carry hxa hxb hxo hq
     have hf := hown.frozenAt (k + j)
     have hj0 : (0 : Int) ≤ (j : Int) := Int.natCast_nonneg _
     have hlt2 : (j : Int) < (n' : Int) := by omega
     have s1 : IntKind.i64.wrap ((k : Int) + j) = (k : Int) + j := IntWalk.i64_in _ (by omega)
     have s2 : ((k : Int) + j).toNat = k + j := by omega
     have s3 : IntKind.u64.wrap ((x : Int) * b[j]) = (x : Int) * b[j] := IntWalk.u64_in _ (by rw [← Int.natCast_mul]; omega)
     have s4 : IntKind.u64.wrap ((x : Int) * b[j] + out[k + j]) = (x : Int) * b[j] + out[k + j] := IntWalk.u64_in _ (by rw [← Int.natCast_mul]; omega)
     have s5 : IntKind.u64.wrap ((q : Int) + ((x : Int) * b[j] + out[k + j])) = (q : Int) + ((x : Int) * b[j] + out[k + j]) := IntWalk.u64_in _ (by rw [← Int.natCast_mul]; omega)
     have s6 : (((q : Int) + ((x : Int) * b[j] + out[k + j])) % 4294967296) = (((x * b[j] + out[k + j] + q) % 4294967296 : Nat) : Int) := by rw [← Int.natCast_mul]; omega
     have s7 : (((q : Int) + ((x : Int) * b[j] + out[k + j])) / 4294967296) = (((x * b[j] + out[k + j] + q) / 4294967296 : Nat) : Int) := by rw [← Int.natCast_mul]; omega
     have S6 := Lib.hid s6
     have S7 := Lib.hid s7
     clear s6 s7
     have hp0 : 0 ≤ (x : Int) * b[j] := by rw [← Int.natCast_mul]; omega
     have hp1 : (q : Int) + ((x : Int) * b[j] + out[k + j]) ≤ 18446744073709551615 := by rw [← Int.natCast_mul]; omega
     go_wp2
     go_roundw
     case rel =>
      refine ⟨j + 1, (x * b[j] + out[k + j] + q) / 4294967296, out.set (k + j) ((x * b[j] + out[k + j] + q) % 4294967296), by omega, by omega, by go_num, by rw [S7.out], (by rw [List.length_set]; exact hol.out : (out.set (k + j) ((x * b[j] + out[k + j] + q) % 4294967296)).length = n + n'),
       own_store hown _ S6.out, Lm.ok_set hok (Nat.mod_lt _ (by decide)), ?_, hnx.setCell (p := ⟨w1.heap.size, k + j, none⟩) (Nat.le_refl _) _⟩
      have h := Lm.mul_step (m := k + n') hkj (by omega) HE.out (x := x) (y := b[j])
      show _ = _
      rw [h, Lm.take_in b hlb, Nat.mul_add, Nat.mul_add, Nat.add_assoc]
     case measure => simp [intOf]; omega
    ·obtain rfl : j = n' := by omega
     have hm : k + j < out.length := by rw [hol.out]; omega
     have hf := hown.frozenAt (k + j)
     have hco := own_at hown hm
     have hnl : ¬ (j : Int) < (j : Int) := by omega
     have s1 : IntKind.i64.wrap ((k : Int) + j) = (k : Int) + j := IntWalk.i64_in _ (by omega)
     have s2 : ((k : Int) + j).toNat = k + j := by omega
     go_wp2
     go_roundw
     case rel =>
      refine ⟨k + 1, out.set (k + j) q, by omega, by go_num, (by rw [List.length_set]; exact hol.out : (out.set (k + j) q).length = n + j),
       own_store hown _ rfl, Lm.ok_set hok hq, ?_, hnx.setCell (p := ⟨w1.heap.size, k + j, none⟩) (Nat.le_refl _) _⟩
      have h := Lm.mul_last hm HE.out
      have hla' := Lm.take_in a hla
      rw [HX.out] at hla'
      show _ = _
      rw [show k + 1 + j = k + j + 1 by omega, h, hla', Nat.add_mul, Lm.lv_take_ge b j (by rw [HL.out.2]; omega), Nat.mul_assoc]
     case measure => simp [intOf]; omega
  ·obtain rfl : k = n := by omega
   have hS : Sl wr (some ⟨w1.heap.size, 0, none⟩) (k + n') (k + n') out := Sl.of_own hown (Nat.le_refl _) hok
   have E : Hid (Lm.lv out = Lm.lv a * Lm.lv b) := by
    have h := HE.out
    rw [Lm.lv_take_ge out (k + n') (by rw [hol.out]; omega), Lm.lv_take_ge a k (by rw [HL.out.1]; omega)] at h
    exact h
   have K2 := K1.call1 hnx (Owns.one (q := (some ⟨w1.heap.size, 0, none⟩, k + n', k + n')) ⟨_, hown⟩)
   obtain ⟨_, _, _, _, _⟩ := (K2.blk (g := w.heap.size) (by repeat constructor)).two
   obtain ⟨_, _, _, _, _⟩ := (K2.blk (g := w.heap.size + 1) (by repeat constructor)).two
   have hnl : ¬ (k : Int) < (k : Int) := by omega
   clear K1 ha1 hb1 hown hnx
   go_wp2_with (go_at_call 267; refine (ow_signed_any (neg != neg') (some ⟨w1.heap.size, 0, none⟩) (k + n') (k + n') out _ hS (by omega)).mono ?_; rintro e3 w3 ⟨neg3, A3, n3, c3, rfl, I3, C3, hb3⟩; have K3 := ((K2.next hb3).cut C3).int I3; obtain ⟨sa3, sb3, sc3, sd3, se3⟩ := (K3.blk (g := w.heap.size + 1 + 1) (by repeat constructor)).two)
   rw [E.out] at K3
   have KE := (K3.pick (L' := [(w.heap.size + 1 + 1, [.bool false, .slice none 0 0])]) (l' := [(neg3, A3, n3, c3, sgnd (neg != neg') (Lm.lv a * Lm.lv b))]) (by simp) (by simp)).set2 (by simp <;> omega) neg3 A3 n3 c3
   exact bodyPost_ret (v := .agg #[.bool neg3, .slice A3 n3 c3]) (by simp [results, Tryz.results221, go_sem, sa3, sb3]) rfl ⟨neg3, A3, n3, c3, rfl, KE.at_ (by simp), KE.own1 0 rfl, KE.1⟩
theorem ow_times_any (neg neg' : Bool) (A A' : Option Addr) (n c n' c' : Nat) (x y : Int) (w : World) (hx : IsInt w neg A n c x) (hy : IsInt w neg' A' n' c' y) (hn : n ≤ 1000000000) (hn' : n' ≤ 1000000000) :
  Calls Tryz.prog 221 #[.agg #[.bool neg, .slice A n c], .agg #[.bool neg', .slice A' n' c']] w (RetIntO w (x * y)) := by
 obtain ⟨a, ha, _, _, rfl⟩ := hx
 obtain ⟨b, hb, _, _, rfl⟩ := hy
 rw [← sgnd_mul]
 exact ow_times_sl neg neg' A A' n c n' c' a b w ha hb hn hn'
end Go.Proofs.YtgekmbfmfiikkaaGreatDoor

namespace Go.Proofs.YtgekmbfmfiikkaaGreatDoor
open Go.RowKit

/-- Two limbs in a block of their own behind a box. -/
theorem own_lit2 (w : World) (o : Obj) (x y : Value) : OwnR w.heap.size ((w.alloc o).alloc (.cells #[x, y] 164)) (some ⟨w.heap.size + 1, 0, none⟩, 2, 2) := by
 have h := World.ownsRow_lit (base := w.heap.size) (size := 1) (e := 164) (w.alloc o) #[x, y] 2 (by simp) (by decide) rfl
 have e : (w.alloc o).heap.size = w.heap.size + 1 := by simp
 rw [e] at h
 exact ⟨_, h⟩
set_option maxRecDepth 100000 in
set_option maxHeartbeats 800000 in
theorem ow_of_pos (m : Nat) (w : World) (h : m ≤ 9223372036854775807) :
  Calls Tryz.prog 215 #[.int .i64 (m : Int)] w (RetIntO w (m : Int)) := by
 have e1 : (m : Int) % 4294967296 = ((m % 4294967296 : Nat) : Int) := by omega
 have e2 : (m : Int) / 4294967296 = ((m / 4294967296 : Nat) : Int) := by omega
 have E1 := Lib.hid e1
 have E2 := Lib.hid e2
 clear e1 e2
 go_enter Tryz.func215, Tryz.ntmps215
 go_wp2_with fail
 rw [E1.out, E2.out]
 refine (ow_signed_any _ _ _ _ _ _ (sl_new2_box _ _ _ _ _ (by omega) (by omega)) (by omega)).mono ?_
 rintro e w2 ⟨neg2, A2, n2, c2, rfl, hI2, hC2, hb2⟩
 have hO2 := ((own_lit2 w _ _ _).below hb2).cut hC2
 have hne2 : (OwnAt.v (A2, n2, c2)).ownBlock ≠ some w.heap.size := fun e => by have := hC2.blk e; simp [Value.ownBlock] at this
 clear hC2
 obtain ⟨hc2, hf2⟩ := bcell hb2
 have r5 := hc2 (w.heap.size) 0 (by simp <;> omega)
 have r6 := hc2 (w.heap.size) 1 (by simp <;> omega)
 have r7 := hf2 (w.heap.size) 0 (by simp <;> omega)
 have r8 := hf2 (w.heap.size) 1 (by simp <;> omega)
 have hz1 : w.heap.size < w2.heap.size := (by have := hb2.size; simp at this; omega)
 rw [of_limbs] at hI2
 go_wp2_with fail
 exact bodyPost_ret (v := .agg #[.bool neg2, .slice A2 n2 c2]) (by simp [results, Tryz.results215, go_sem, r5, r6]) rfl
  ⟨neg2, A2, n2, c2, rfl, isInt_result (b0 := false) (a0 := none) (n0 := 0) (c0 := 0) hI2 (r5.trans (by simp [go_sem])) (r6.trans (by simp [go_sem])) _ _, Owns.one ((hO2.set (p := ⟨w.heap.size, 0, none⟩) hne2 _).set (p := ⟨w.heap.size, 1, none⟩) hne2 _), below_result (below_box (below_box hb2)) (by omega) _ _⟩
set_option maxRecDepth 100000 in
set_option maxHeartbeats 800000 in
theorem ow_of_neg (m : Nat) (w : World) (h : m ≤ 9223372036854775808) (h0 : 0 < m) :
  Calls Tryz.prog 215 #[.int .i64 (-(m : Int))] w (RetIntO w (-(m : Int))) := by
 have e1 : (m : Int) % 4294967296 = ((m % 4294967296 : Nat) : Int) := by omega
 have e2 : (m : Int) / 4294967296 = ((m / 4294967296 : Nat) : Int) := by omega
 have E1 := Lib.hid e1
 have E2 := Lib.hid e2
 clear e1 e2
 have ew : IntKind.u64.wrap (-IntKind.u64.wrap (-(m : Int))) = (m : Int) := by
  simp only [IntKind.wrap, IntKind.bits, IntKind.signed]; simp; omega
 have hneg : -(m : Int) < 0 := by omega
 have hb1 : (m : Int) ≤ 18446744073709551615 := by omega
 go_enter Tryz.func215, Tryz.ntmps215
 go_wp2_with fail
 rw [E1.out, E2.out]
 refine (ow_signed_any _ _ _ _ _ _ (sl_new2_box _ _ _ _ _ (by omega) (by omega)) (by omega)).mono ?_
 rintro e w2 ⟨neg2, A2, n2, c2, rfl, hI2, hC2, hb2⟩
 have hO2 := ((own_lit2 w _ _ _).below hb2).cut hC2
 have hne2 : (OwnAt.v (A2, n2, c2)).ownBlock ≠ some w.heap.size := fun e => by have := hC2.blk e; simp [Value.ownBlock] at this
 clear hC2
 obtain ⟨hc2, hf2⟩ := bcell hb2
 have r5 := hc2 (w.heap.size) 0 (by simp <;> omega)
 have r6 := hc2 (w.heap.size) 1 (by simp <;> omega)
 have r7 := hf2 (w.heap.size) 0 (by simp <;> omega)
 have r8 := hf2 (w.heap.size) 1 (by simp <;> omega)
 have hz1 : w.heap.size < w2.heap.size := (by have := hb2.size; simp at this; omega)
 rw [of_limbs] at hI2
 go_wp2_with fail
 exact bodyPost_ret (v := .agg #[.bool neg2, .slice A2 n2 c2]) (by simp [results, Tryz.results215, go_sem, r5, r6]) rfl
  ⟨neg2, A2, n2, c2, rfl, isInt_result (b0 := false) (a0 := none) (n0 := 0) (c0 := 0) hI2 (r5.trans (by simp [go_sem])) (r6.trans (by simp [go_sem])) _ _, Owns.one ((hO2.set (p := ⟨w.heap.size, 0, none⟩) hne2 _).set (p := ⟨w.heap.size, 1, none⟩) hne2 _), below_result (below_box (below_box hb2)) (by omega) _ _⟩
theorem ow_of_any (z : Int) (w : World) (h : -9223372036854775808 ≤ z ∧ z ≤ 9223372036854775807) :
  Calls Tryz.prog 215 #[.int .i64 z] w (RetIntO w z) := by
 by_cases hz : z < 0
 ·have e : z = -(z.natAbs : Int) := by omega
  rw [e]
  exact ow_of_neg _ w (by omega) (by omega)
 ·have e : z = (z.natAbs : Int) := by omega
  rw [e]
  exact ow_of_pos _ w (by omega)
set_option maxRecDepth 100000 in
set_option maxHeartbeats 800000 in
theorem ow_own_any (neg : Bool) (A : Option Addr) (n c : Nat) (l : List Nat) (w : World) (h : Sl w A n c l) (hn : n ≤ 1000000000) :
  Calls Tryz.prog 271 #[.bool neg, .slice A n c] w (RetIntO w (sgnd neg (Lm.lv l))) := by
 have h1 := h.alloc (.cells #[.bool false, .slice none 0 0] 24)
 go_enter Tryz.func271, Tryz.ntmps271
 go_wp2_with fail
 refine (ex_clone_any A n c l _ h1 hn).mono ?_
 rintro e1 w1 ⟨A1, n1, c1, rfl, hown, hc1, hb1⟩
 have hs1 : Sl w1 A1 n1 c1 l := Sl.of_own hown hc1 h.ok
 have hn1 : n1 ≤ 1000000000 := by have := hs1.len; have := h.len; omega
 obtain ⟨bc1, bf1⟩ := bcell hb1
 have hz1 : w.heap.size < w1.heap.size := by have := hb1.size; simp at this; omega
 have hO1 : OwnR w.heap.size w1 (A1, n1, c1) := OwnR.base ⟨_, hown⟩ (fun g hg => by have := (hown.lt g hg).1; simp at this; omega)
 have hne1 : (OwnAt.v (A1, n1, c1)).ownBlock ≠ some w.heap.size := fun e => by have := (hown.lt _ e).1; simp at this; omega
 clear hown
 go_wp2_with fail
 refine (ow_signed_any neg A1 n1 c1 l _ hs1 (by omega)).mono ?_
 rintro e2 w2 ⟨neg2, A2, n2, c2, rfl, hI2, hC2, hb2⟩
 have hO2 := (hO1.below hb2).cut hC2
 have hne2 : (OwnAt.v (A2, n2, c2)).ownBlock ≠ some w.heap.size := fun e => hne1 (hC2.blk e)
 obtain ⟨bc2, bf2⟩ := bcell hb2
 have r1 := (bc2 w.heap.size 0 hz1).trans (bc1 w.heap.size 0 (by simp))
 have r2 := (bc2 w.heap.size 1 hz1).trans (bc1 w.heap.size 1 (by simp))
 have r3 := (bf2 w.heap.size 0 hz1).trans (bf1 w.heap.size 0 (by simp))
 have r4 := (bf2 w.heap.size 1 hz1).trans (bf1 w.heap.size 1 (by simp))
 clear bc1 bf1 bc2 bf2
 go_wp2_with fail
 exact bodyPost_ret (v := .agg #[.bool neg2, .slice A2 n2 c2]) (by simp [results, Tryz.results271, go_sem, r1, r2]) rfl
  ⟨neg2, A2, n2, c2, rfl, isInt_result (b0 := false) (a0 := none) (n0 := 0) (c0 := 0) hI2 (r1.trans (by simp [go_sem])) (r2.trans (by simp [go_sem])) _ _, Owns.one ((hO2.set (p := ⟨w.heap.size, 0, none⟩) hne2 _).set (p := ⟨w.heap.size, 1, none⟩) hne2 _), below_result (below_next (below_box hb1) hb2) (Nat.le_refl _) _ _⟩
end Go.Proofs.YtgekmbfmfiikkaaGreatDoor

namespace Go.Proofs.YtgekmbfmfiikkaaGreatDoor
open Go.RowKit

theorem ofInt_u32 (a : Nat) (h : a < 4294967296) : (BitVec.ofInt 32 (a : Int)).toNat = a := by
 rw [BitVec.toNat_ofInt]
 omega
theorem u32_or_nat (a b : Nat) (ha : a < 4294967296) (hb : b < 4294967296) : bits .or .u32 (a : Int) (b : Int) = ((a ||| b : Nat) : Int) := by
 have hx : a ||| b < 2 ^ 32 := Nat.or_lt_two_pow (by omega) (by omega)
 show IntKind.u32.wrap ((BitVec.ofInt 32 (a : Int) ||| BitVec.ofInt 32 (b : Int)).toNat : Int) = _
 rw [BitVec.toNat_or, ofInt_u32 a ha, ofInt_u32 b hb]
 simp only [IntKind.wrap, IntKind.bits, IntKind.signed]
 simp
 omega
/-- A limb shifted, and what came up from the one below. -/
theorem shift_limb {x q s : Nat} (hs : s < 32) (hx : x < 4294967296) (hq : q < pw s) :
  bits .or .u32 ((x : Int) * 2 ^ s % 4294967296) (q : Int) = (((x * pw s + q) % 4294967296 : Nat) : Int) ∧ IntKind.u64.wrap ((x : Int) * 2 ^ s) / 4294967296 % 4294967296 = (((x * pw s + q) / 4294967296 : Nat) : Int) ∧ (x * pw s + q) / 4294967296 < pw s := by
 have hP := pw_lt s hs
 have hpp : pw s * pw (32 - s) = 4294967296 := by unfold pw; rw [← Nat.pow_add, show s + (32 - s) = 32 by omega]
 have hpow : (2 : Int) ^ s = ((pw s : Nat) : Int) := by unfold pw; rw [Int.natCast_pow]; rfl
 have hp2 : 0 < pw (32 - s) := Nat.two_pow_pos _
 -- the low part is a multiple of the power
 have hlo : x * pw s % 4294967296 = pw s * (x % pw (32 - s)) := by
  rw [← hpp, Nat.mul_comm x, Nat.mul_mod_mul_left]
 have hm := Nat.mod_lt x hp2
 have hmul : pw s * (x % pw (32 - s)) + pw s ≤ 4294967296 := by
  rw [← hpp, ← Nat.mul_succ]
  exact Nat.mul_le_mul_left _ hm
 have hxp : x * pw s < 4294967296 * pw s := Nat.mul_lt_mul_of_pos_right hx (Nat.two_pow_pos _)
 have hdm := Nat.div_add_mod (x * pw s) 4294967296
 obtain ⟨y, hy⟩ : ∃ y, x * pw s = y := ⟨_, rfl⟩
 have hyi : (x : Int) * 2 ^ s = (y : Int) := by rw [hpow, ← Int.natCast_mul, hy]
 rw [hyi, hy]
 rw [hy] at hlo hxp hdm
 refine ⟨?_, ?_, ?_⟩
 ·rw [show (y : Int) % 4294967296 = ((y % 4294967296 : Nat) : Int) by omega, u32_or_nat _ _ (Nat.mod_lt _ (by decide)) (by omega)]
  congr 1
  have hor := Nat.two_pow_add_eq_or_of_lt (i := s) (b := q) hq (x % pw (32 - s))
  rw [hlo]
  have e : pw s * (x % pw (32 - s)) = 2 ^ s * (x % pw (32 - s)) := rfl
  rw [e, ← hor, ← e]
  omega
 ·have hb : y < 18446744073709551616 := Nat.lt_trans hxp (by omega)
  rw [show IntKind.u64.wrap (y : Int) = (y : Int) from IntWalk.u64_in _ (by omega)]
  omega
 ·omega
/-- A row of limbs of the call's own, at the head of its block. -/
def RetRow (W : World) (P : List Nat → Prop) (m : Nat) (e : Ending) (w' : World) : Prop :=
 ∃ g l, e = .returned (.slice (some ⟨g, 0, none⟩) m m) ∧ w'.ownsRow W.heap.size 164 1 (.slice (some ⟨g, 0, none⟩) m m) m (u32s l) ∧ Lm.ok l ∧ l.length = m ∧ P l ∧ Below W.heap.size W w'
set_option maxRecDepth 100000 in
set_option maxHeartbeats 1600000 in
theorem ex_up_any (A : Option Addr) (n c s : Nat) (a : List Nat) (w : World) (ha : Sl w A n c a) (hn : n ≤ 1000000000) (hs : s < 32) :
  Calls Tryz.prog 268 #[.slice A n c, .int .u64 (s : Int)] w (RetRow w (fun l => Lm.lv l = Lm.lv a * pw s) (n + 1)) := by
 obtain ⟨i0, hi, hz0, hz1, hz2⟩ := info_parts info_u32
 have hP := pw_lt s hs
 have HL := Lib.hid ha.len
 have e1 : ((n : Int) + 1) = ((n + 1 : Nat) : Int) := by omega
 have HE := Lib.hid e1
 clear e1
 go_enter Tryz.func268, Tryz.ntmps268
 go_wp2_with (at_make; refine wpList_make_full _ rfl _ _ 22 rfl w.heap.size 164 i0 (.int .u32 0) 1 Tryz.underlying22 hi hz0 hz1 _ _ _ _ (n + 1) rfl rfl ?c0 ?c1 ?c2 ?c3 ?c4 ?_)
 case c0 => exact HE.out
 case c1 => exact HE.out
 case c2 => rw [hz2]; omega
 case c3 => unfold maxLen; omega
 case c4 => exact Nat.le_refl _
 intro w1 hown1 hgrow1
 rw [made_u32] at hown1
 have hb1 : Below w.heap.size w w1 := (Below.refl _ _).grown hgrow1 (Nat.le_refl _) (fun k hk => by cases hk)
 clear hgrow1
 go_wp2_with fail
 go_loopw [6, 15] (fun cr i wr => ∃ (k q : Nat) (out : List Nat), k ≤ n ∧ q < pw s ∧ i = .int .i64 (k : Int) ∧ cr = .int .u32 (q : Int) ∧ Hid (out.length = n + 1) ∧ wr.ownsRow w.heap.size 164 1 (.slice (some ⟨w.heap.size, 0, none⟩) (n + 1) (n + 1)) (n + 1) (u32s out) ∧ Lm.ok out ∧
   Hid (Lm.lv (out.take k) + Lm.B ^ k * q = Lm.lv (a.take k) * pw s) ∧ Below w.heap.size w wr)
  (fun _ i _ => n - (intOf i).toNat)
 case atStart =>
  exact ⟨0, 0, List.replicate (n + 1) 0, Nat.zero_le _, Nat.two_pow_pos _, rfl, rfl, Lib.hid List.length_replicate, hown1, Lm.ok_zeros _, Lib.hid (by simp [Lm.lv]), hb1⟩
 case round =>
  clear hown1 hb1
  obtain ⟨k, q, out, hk, hq, rfl, rfl, hol, hown, hok, HEQ, hb⟩ := hrel
  by_cases hlt : k < n
  ·obtain ⟨ad, rfl, hba, hla, hca, hxa⟩ := (ha.below hb).at_ hlt
   have hko : k < out.length := by rw [hol.out]; omega
   have hco := own_at hown hko
   have hf := hown.frozenAt k
   have hsz := (hown.lt _ rfl).2
   obtain ⟨x, hx⟩ : ∃ x, a[k] = x := ⟨_, rfl⟩
   rw [hx] at hca hxa
   have HX := Lib.hid hx
   clear hx
   have hlt' : (k : Int) < (n : Int) := by omega
   have hk0 : (0 : Int) ≤ (k : Int) := Int.natCast_nonneg _
   have hs0 : (0 : Int) ≤ (s : Int) := Int.natCast_nonneg _
   obtain ⟨s1, s2, s3⟩ := shift_limb hs hxa hq
   have S1 := Lib.hid s1
   have S2 := Lib.hid s2
   have HQ : Hid (Lm.lv ((out.set k ((x * pw s + q) % 4294967296)).take (k + 1)) + Lm.B ^ (k + 1) * ((x * pw s + q) / 4294967296) = Lm.lv (a.take (k + 1)) * pw s) := Lib.hid (by
    have h1 := HEQ.out
    have h2 := Lm.lv_take_succ (out.set k ((x * pw s + q) % 4294967296)) k (by rw [List.length_set]; exact hko)
    rw [List.take_set_of_le (Nat.le_refl _), List.getElem_set_self] at h2
    have h3 := Lm.lv_take_succ a k hla
    rw [HX.out] at h3
    have hdm := Nat.div_add_mod (x * pw s + q) 4294967296
    rw [h2, h3, Nat.add_mul, ← h1, Nat.pow_succ, Nat.mul_assoc, show Lm.B * ((x * pw s + q) / 4294967296) = 4294967296 * ((x * pw s + q) / 4294967296) from rfl, Nat.add_assoc, ← Nat.mul_add]
    have e : (x * pw s + q) % 4294967296 + 4294967296 * ((x * pw s + q) / 4294967296) = q + x * pw s := by omega
    rw [e, Nat.mul_add, Nat.mul_assoc, Nat.add_assoc])
   clear s1 s2
   go_wp2_with fail
   rw [S1.out, S2.out]
   refine ⟨⟨k + 1, (x * pw s + q) / 4294967296, out.set k ((x * pw s + q) % 4294967296), hlt, s3, congrArg (Value.int .i64) (by omega), rfl, Lib.hid (by rw [List.length_set]; exact hol.out), own_store hown _ rfl, Lm.ok_set hok (Nat.mod_lt _ (by decide)), HQ, hb.setCell (p := ⟨w.heap.size, k, none⟩) (Nat.le_refl _) _⟩, ?_⟩
   simp [intOf]
   omega
  ·obtain rfl : k = n := by omega
   have hko : k < out.length := by rw [hol.out]; omega
   have hco := own_at hown hko
   have hf := hown.frozenAt k
   have hsz := (hown.lt _ rfl).2
   have hqb : q < 4294967296 := by omega
   go_wp2_with fail
   go_ret
   have hst := own_store hown (j := k) (X := (q : Int)) q rfl
   refine ⟨w.heap.size, out.set k q, rfl, hst, Lm.ok_set hok hqb, by rw [List.length_set]; exact hol.out, ?_, hb.setCell (p := ⟨w.heap.size, k, none⟩) (Nat.le_refl _) _⟩
   have h1 := HEQ.out
   have h2 := Lm.lv_take_succ (out.set k q) k (by rw [List.length_set]; exact hko)
   rw [List.take_set_of_le (Nat.le_refl _), List.getElem_set_self, Lm.lv_take_ge _ (k + 1) (by rw [List.length_set, hol.out]; exact Nat.le_refl _)] at h2
   show Lm.lv (out.set k q) = Lm.lv a * pw s
   rw [h2, h1, Lm.lv_take_ge a k (by rw [HL.out]; exact Nat.le_refl _)]
end Go.Proofs.YtgekmbfmfiikkaaGreatDoor

namespace Go.Proofs.YtgekmbfmfiikkaaGreatDoor
open Go.RowKit

/-- append onto a row of the call's own, at a step of a region that draws. -/
theorem step_append_row {P : Program} (w : World) {ops : Array Oper} {o : Oper} {a : Act} {K : Act → World → Prop} {Q : Exit → Act → World → Prop} {E : Prop} (hgd : o.guard = none) (s x : Operand) (t : TypeId)
  (ho : o.op = .call { callee := .builtin .append, args := #[s, x], argTypes := #[t, t] })
  (base : Nat) (e : TypeId) (i : TypeInfo) (z : Value) (bytes : Nat) (ht : P.underlying t = some (.slice e)) (hi : P.info? e = some i) (hz : i.zero = some z)
  (hsize : i.size = 1) (hby : i.bytes = bytes) (hzs : z.cells.size = 1)
  (v : Value) (n : Nat) (xs : List Value) (hs : a.eval s = v) (hown : w.ownsRow base e 1 v n xs)
  (B : Nat) (A : Option Addr) (m c : Nat) (news : List Value) (hx : a.eval x = .slice A m c) (hr : Reads w B A m news) (h1 : ∀ u ∈ news, u.oneCell' = true)
  (h63 : n + m ≤ maxLen) (hbytes : (n + m) * bytes ≤ 140737488355328) (hbase : base ≤ w.heap.size)
  (h : ∀ v' w', w'.ownsRow base e 1 v' (n + m) (xs ++ news) → w.grownBy w' v.ownBlock → (v'.ownBlock = v.ownBlock ∨ v'.ownBlock = some w.heap.size) → K (a.put o.dst v') w') :
  if Region.wanted o (yielded ops a.tmps) = true then Oper.wp P o a w K Q else E := by
 have hw : Region.wanted o (yielded ops a.tmps) = true := by simp [Region.wanted, hgd]
 rw [if_pos hw]
 exact wp_append_any w s x t ho base e i z bytes ht hi hz hsize hby hzs v n xs hs hown B A m c news hx hr h1 h63 hbytes hbase h
theorem ex_up_of (A : Option Addr) (n c s : Nat) (a : List Nat) (z : Int) (w : World) (ha : Sl w A n c a) (hn : n ≤ 1000000000) (hs : s < 32) (hz : z = (s : Int)) :
  Calls Tryz.prog 268 #[.slice A n c, .int .u64 z] w (RetRow w (fun l => Lm.lv l = Lm.lv a * pw s) (n + 1)) := by
 subst hz
 exact ex_up_any A n c s a w ha hn hs
theorem dbl_lv {l a : List Nat} {s : Nat} (h : Lm.lv l = Lm.lv a * pw (s % 32)) : Lm.lv (List.replicate (s / 32) 0 ++ l) = Lm.lv a * 2 ^ s := by
 have h1 := double_lv a s
 rw [Lm.lv_append, Lm.lv_zeros, List.length_replicate, Nat.zero_add] at h1 ⊢
 rw [h, ← h1, Nat.mul_assoc]
 rfl
theorem shift_rest {s : Nat} : IntKind.u64.wrap ((s : Int).tmod 32) = ((s % 32 : Nat) : Int) := by
 rw [show (32 : Int) = ((32 : Nat) : Int) from rfl, ← Int.ofNat_tmod]
 exact IntWalk.u64_in _ (by omega)
theorem Sl.drew {w : World} {n c : Nat} {A : Option Addr} {l : List Nat} (h : Sl w A n c l) : Sl w.drew A n c l := h
theorem made_own (w : World) (k : Nat) (hk : k ≤ 1000000000) : (w.alloc (.cells (madeCells #[.int .u32 0] k) 164)).ownsRow w.heap.size 164 1 (.slice (some ⟨w.heap.size, 0, none⟩) k k) k (u32s (List.replicate k 0)) := by
 have h := World.ownsRow_lit (e := 164) (size := 1) w (madeCells #[.int .u32 0] k) k (Nat.le_refl _) (by unfold maxLen; omega) (by simp [size_madeCells])
 rwa [made_u32] at h
theorem sl_of_row {w : World} {B g m : Nat} {l : List Nat} (h : w.ownsRow B 164 1 (.slice (some ⟨g, 0, none⟩) m m) m (u32s l)) (hok : Lm.ok l) : Sl w (some ⟨g, 0, none⟩) m m l := Sl.of_own h (Nat.le_refl _) hok
end Go.Proofs.YtgekmbfmfiikkaaGreatDoor

namespace Go.Proofs.YtgekmbfmfiikkaaGreatDoor
open Go.RowKit

theorem or_hi {h l : Nat} (hh : h < 4294967296) (hl : l < 4294967296) : bits .or .u64 ((h : Int) * 4294967296) (l : Int) = ((h * 4294967296 + l : Nat) : Int) := by
 have e := u64_or_nat (h * 4294967296) l (by omega) (by omega)
 have hor := Nat.two_pow_add_eq_or_of_lt (i := 32) (b := l) (by omega) h
 rw [show (h : Int) * 4294967296 = ((h * 4294967296 : Nat) : Int) by omega, e]
 congr 1
 rw [show h * 4294967296 = 2 ^ 32 * h by omega, ← hor]
set_option maxRecDepth 100000 in
set_option maxHeartbeats 800000 in
theorem div32_any (h l y : Nat) (hh : h < y) (hl : l < 4294967296) (hy : y < 4294967296) (w : World) :
  Calls Tryz.prog 336 #[.int .u32 (h : Int), .int .u32 (l : Int), .int .u32 (y : Int)] w
   fun e w' => e = .returned (.tuple #[.int .u32 (((h * 4294967296 + l) / y : Nat) : Int), .int .u32 (((h * 4294967296 + l) % y : Nat) : Int)]) ∧ ∃ k, w' = w.drewN k := by
 have hy1 : ((y : Int) != 0) = true := by rw [bne_iff_ne]; omega
 have hy2 : decide ((y : Int) ≤ (h : Int)) = false := decide_eq_false (by omega)
 have hy3 : ¬ (y : Int) = 0 := by omega
 go_enter Tryz.func336, Tryz.ntmps336
 have hd : (h * 4294967296 + l) / y < 4294967296 := Lm.short_lt (by omega) hh hl
 have hm : (h * 4294967296 + l) % y < y := Nat.mod_lt _ (by omega)
 have HO := Lib.hid (or_hi (show h < 4294967296 by omega) hl)
 obtain ⟨N, hN⟩ : ∃ N, h * 4294967296 + l = N := ⟨_, rfl⟩
 rw [hN] at hd hm HO ⊢
 have hNb : N < 18446744073709551616 := by omega
 have hq : (N : Int) / (y : Int) = ((N / y : Nat) : Int) := (Int.natCast_ediv _ _).symm
 have hr : (N : Int) % (y : Int) = ((N % y : Nat) : Int) := (Int.natCast_emod _ _).symm
 have HQ := Lib.hid hq
 have HR := Lib.hid hr
 have hq1 : (N : Int) / (y : Int) ≤ 4294967295 := by rw [hq]; omega
 have hq0 : 0 ≤ (N : Int) / (y : Int) := by rw [hq]; exact Int.natCast_nonneg _
 have hr1 : (N : Int) % (y : Int) ≤ 4294967295 := by rw [hr]; omega
 have hr0 : 0 ≤ (N : Int) % (y : Int) := by rw [hr]; exact Int.natCast_nonneg _
 clear hN hq hr
 go_wp2_with fail
 rw [HO.out]
 go_quiet (fail)
 go_wp2_with fail
 go_ret2
 exact ⟨by show Ending.returned (.tuple #[.int .u32 ((N : Int) / (y : Int)), .int .u32 ((N : Int) % (y : Int))]) = _; rw [HQ.out, HR.out], _, rfl⟩

/-- What 'short' leaves: the row in block g holds the quotient; what is left is told. -/
def RetShortIn (W : World) (B g n c : Nat) (a : List Nat) (d : Nat) (e : Ending) (w' : World) : Prop :=
 ∃ (l : List Nat) (r : Nat), e = .returned (.int .u32 (r : Int)) ∧ w'.ownsRow B 164 1 (.slice (some ⟨g, 0, none⟩) n c) n (u32s l) ∧ Lm.ok l ∧ l.length = n ∧ Lm.lv a = d * Lm.lv l + r ∧ r < d ∧ W.grownBy w' (some g)
theorem grown_set {W w : World} {g : Nat} (h : W.grownBy w (some g)) (j : Nat) (v : Value) : W.grownBy (w.setCell ⟨g, j, none⟩ v) (some g) :=
 ⟨h.os, h.tape, h.output, by simpa [World.setCell] using h.size, fun i hi hne => by
  have e : (w.setCell ⟨g, j, none⟩ v).heap[i]? = w.heap[i]? := by
   unfold World.setCell
   simp only [Array.getElem?_modify]
   rw [if_neg (by rintro rfl; exact hne rfl)]
  rw [e]
  exact h.block i hi hne⟩
theorem grown_drewN {W w : World} {row : Option Nat} (h : W.grownBy w row) (k : Nat) : W.grownBy (w.drewN k) row := ⟨h.os, h.tape, h.output, h.size, h.block⟩
set_option maxRecDepth 100000 in
set_option maxHeartbeats 1600000 in
theorem ex_short_any (B g n c d : Nat) (a : List Nat) (w : World) (ha : w.ownsRow B 164 1 (.slice (some ⟨g, 0, none⟩) n c) n (u32s a)) (hok0 : Lm.ok a) (hn : n ≤ 1000000000) (hd : 0 < d) (hdB : d < 4294967296) :
  Calls Tryz.prog 273 #[.slice (some ⟨g, 0, none⟩) n c, .int .u32 (d : Int)] w (RetShortIn w B g n c a d) := by
 have hlen : a.length = n := by have := ha.1; rw [u32s_len] at this; omega
 have HL := Lib.hid hlen
 clear hlen
 go_enter Tryz.func273, Tryz.ntmps273
 go_wp2_with fail
 go_loopw [5, 6] (fun rest i wr => ∃ (k r : Nat) (out : List Nat), k ≤ n ∧ r < d ∧ i = .int .i64 ((k : Int) - 1) ∧ rest = .int .u32 (r : Int) ∧ Hid (out.length = n) ∧ wr.ownsRow B 164 1 (.slice (some ⟨g, 0, none⟩) n c) n (u32s out) ∧ Lm.ok out ∧
   Hid (Lm.lv (a.drop k) = d * Lm.lv (out.drop k) + r) ∧ Hid (out.take k = a.take k) ∧ w.grownBy wr (some g))
  (fun _ i _ => (intOf i + 1).toNat)
 case atStart =>
  exact ⟨n, 0, a, Nat.le_refl _, hd, rfl, rfl, HL, ha, hok0, Lib.hid (by rw [List.drop_of_length_le (by rw [HL.out]; exact Nat.le_refl _)]; simp [Lm.lv]), Lib.hid rfl, World.grownBy.refl w _⟩
 case round =>
  obtain ⟨k, r, out, hk, hr, rfl, rfl, hol, hown, hok, HE, HT, hg⟩ := hrel
  have hsz := (hown.lt _ rfl).2
  by_cases h0 : k = 0
  ·subst h0
   go_wp2_with fail
   go_ret
   exact ⟨out, r, rfl, hown, hok, hol.out, by have := HE.out; simpa using this, hr, hg⟩
  ·have hko : k - 1 < out.length := by rw [hol.out]; omega
   have hka : k - 1 < a.length := by rw [HL.out]; omega
   have hf := hown.frozenAt (k - 1)
   have hco := own_at hown hko
   have hk1 : 1 ≤ k := by omega
   have hxo : out[k - 1] = a[k - 1] := by
    have h1 := congrArg (fun t : List Nat => t[k - 1]?) HT.out
    simp only [List.getElem?_take] at h1
    rw [if_pos (by omega), if_pos (by omega), List.getElem?_eq_getElem hko, List.getElem?_eq_getElem hka] at h1
    injection h1
   have hxb : a[k - 1] < 4294967296 := Lm.ok_get hok0 hka
   rw [hxo] at hco
   obtain ⟨x, hx⟩ : ∃ x, a[k - 1] = x := ⟨_, rfl⟩
   rw [hx] at hco hxb
   have HX := Lib.hid hx
   clear hx hxo h0
   go_wp2_with fail
   refine (div32_any r x d hr hxb hdB _).mono ?_
   rintro e1 w1 ⟨rfl, k1, rfl⟩
   have hst := Lm.short_step (k := k - 1) (d := d) (r := r) hka hko (by rw [show k - 1 + 1 = k by omega]; exact HE.out)
   rw [HX.out] at hst
   obtain ⟨q, hq⟩ : ∃ q, (r * 4294967296 + x) / d = q := ⟨_, rfl⟩
   obtain ⟨r2, hr2⟩ : ∃ r2, (r * 4294967296 + x) % d = r2 := ⟨_, rfl⟩
   have hqb : q < 4294967296 := by rw [← hq]; exact Lm.short_lt hd hr hxb
   have hrb : r2 < d := by rw [← hr2]; exact Nat.mod_lt _ hd
   rw [hq, hr2] at hst ⊢
   have HST := Lib.hid hst
   clear hq hr2 hst
   go_wp2_with fail
   refine ⟨⟨k - 1, r2, out.set (k - 1) q, by omega, hrb, congrArg (Value.int .i64) (by omega), rfl, Lib.hid (by rw [List.length_set]; exact hol.out), own_store (w := wr.drewN k1) hown _ rfl, Lm.ok_set hok hqb, HST, Lib.hid ?_, grown_set (grown_drewN hg k1) _ _⟩, ?_⟩
   ·rw [List.take_set_of_le (Nat.le_refl _)]
    have h1 := congrArg (List.take (k - 1)) HT.out
    rw [List.take_take, List.take_take, Nat.min_eq_left (by omega)] at h1
    exact h1
   ·simp [intOf]
    omega
end Go.Proofs.YtgekmbfmfiikkaaGreatDoor

namespace Go.Proofs.YtgekmbfmfiikkaaGreatDoor

/-- What is not more than the quotient is not refused by the test on three limbs. -/
theorem guess_low {q D P D2 T3 K D0 P0 : Nat} (h : q * D ≤ P) (hD : D = D2 * K + D0) (hP : P = T3 * K + P0) (hP0 : P0 < K) : q * D2 ≤ T3 := by
 rcases Nat.lt_or_ge T3 (q * D2) with hlt | hge
 ·exfalso
  have h1 : (T3 + 1) * K ≤ q * D2 * K := Nat.mul_le_mul_right K hlt
  have h2 : q * (D2 * K) ≤ q * D := Nat.mul_le_mul_left q (by omega)
  rw [← Nat.mul_assoc] at h2
  rw [Nat.add_mul, Nat.one_mul] at h1
  omega
 ·exact hge
/-- A guess that the test lets is too great by one at the most. -/
theorem guess_high {g D P D2 T3 K D0 P0 : Nat} (h : g * D2 ≤ T3) (hD : D = D2 * K + D0) (hD0 : D0 < K) (hP : P = T3 * K + P0) (hg : g * K ≤ D) : g * D ≤ P + D := by
 have h1 : g * D2 * K ≤ T3 * K := Nat.mul_le_mul_right K h
 have h2 : g * D = g * D2 * K + g * D0 := by rw [hD, Nat.mul_add, Nat.mul_assoc]
 have h3 : g * D0 ≤ g * K := Nat.mul_le_mul_left g (Nat.le_of_lt hD0)
 omega
/-- One limb of taking q times d away: v the divisor's limb, b what is borrowed, x the limb. -/
theorem less_limb {q v b x : Nat} (hq : q < 4294967296) (hv : v < 4294967296) (hb : b < 4294967296) (hx : x < 4294967296) :
  b + q * v < 18446744073709551616 ∧
  (∀ y c, (y, c) = (if x < (b + q * v) % 4294967296 then (x + 4294967296 - (b + q * v) % 4294967296, (b + q * v) / 4294967296 + 1) else (x - (b + q * v) % 4294967296, (b + q * v) / 4294967296)) →
   y < 4294967296 ∧ c < 4294967296 ∧ y + b + q * v = x + 4294967296 * c) := by
 have h1 : q * v ≤ 4294967295 * 4294967295 := Nat.mul_le_mul (by omega) (by omega)
 obtain ⟨p, hp⟩ : ∃ p, q * v = p := ⟨_, rfl⟩
 rw [hp] at h1 ⊢
 refine ⟨by omega, fun y c h => ?_⟩
 split at h
 ·injection h with h2 h3
  omega
 ·injection h with h2 h3
  omega
end Go.Proofs.YtgekmbfmfiikkaaGreatDoor

namespace Go.Proofs.YtgekmbfmfiikkaaGreatDoor
open Go.RowKit

/-- What 'less' leaves in the row L: from place i on q times D is taken away. -/
def RetLess (W : World) (B g N i m q : Nat) (L D : List Nat) (e : Ending) (w' : World) : Prop :=
 ∃ (L' : List Nat) (t : Bool), e = .returned (.bool t) ∧ w'.ownsRow B 164 1 (.slice (some ⟨g, 0, none⟩) N N) N (u32s L') ∧ Lm.ok L' ∧ L'.length = N ∧ L'.drop (i + m + 1) = L.drop (i + m + 1) ∧ L'.take i = L.take i ∧
  Lm.lv ((L'.drop i).take (m + 1)) + q * Lm.lv D = Lm.lv ((L.drop i).take (m + 1)) + Lm.B ^ (m + 1) * (if t then 1 else 0) ∧ W.grownBy w' (some g)
theorem sl_grown {w w' : World} {g : Nat} {A : Option Addr} {n c : Nat} {l : List Nat} (h : Sl w A n c l) (hg : w.grownBy w' (some g)) (hne : ∀ ad, A = some ad → ad.block ≠ g) : Sl w' A n c l := by
 refine ⟨⟨h.1.1, fun h0 => ?_⟩, h.2⟩
 obtain ⟨ad, rfl, hb, hc⟩ := h.1.2 h0
 refine ⟨ad, rfl, Nat.lt_of_lt_of_le hb hg.size, fun j u hu => ?_⟩
 have hbl := hg.block ad.block hb (fun e => hne ad rfl (by simpa using e))
 exact (World.cell?_of_block (w := w) (w' := w') (a := ad.add j) (by rw [block_of_add]; exact hbl)).trans (hc j u hu)
theorem u64_mod (z : Int) : IntKind.u64.wrap z = z % 18446744073709551616 := by
 simp [IntKind.wrap, IntKind.bits, IntKind.signed]
/-- One limb of 'less', as the walk spells it. -/
theorem less_walk {b p x : Nat} (hx : x < 4294967296) (hp : b + p < 18446744073709551616) {y c : Nat}
  (h : (y, c) = (if x < (b + p) % 4294967296 then (x + 4294967296 - (b + p) % 4294967296, (b + p) / 4294967296 + 1) else (x - (b + p) % 4294967296, (b + p) / 4294967296))) :
  IntKind.u64.wrap (IntKind.u64.wrap (x : Int) - ((b : Int) + (p : Int)) % 4294967296) % 4294967296 = (y : Int) ∧
  IntKind.u64.wrap (((b : Int) + (p : Int)) / 4294967296 + IntKind.u64.wrap (IntKind.u64.wrap (x : Int) - ((b : Int) + (p : Int)) % 4294967296) / 9223372036854775808) = (c : Int) := by
 simp only [u64_mod]
 have e1 : ((b : Int) + (p : Int)) % 4294967296 = (((b + p) % 4294967296 : Nat) : Int) := by omega
 have e2 : ((b : Int) + (p : Int)) / 4294967296 = (((b + p) / 4294967296 : Nat) : Int) := by omega
 rw [e1, e2]
 have hl : (b + p) % 4294967296 < 4294967296 := Nat.mod_lt _ (by decide)
 have hh : (b + p) / 4294967296 < 4294967296 := by omega
 obtain ⟨lo, hlo⟩ : ∃ lo, (b + p) % 4294967296 = lo := ⟨_, rfl⟩
 obtain ⟨hi, hhi⟩ : ∃ hi, (b + p) / 4294967296 = hi := ⟨_, rfl⟩
 rw [hlo] at hl h ⊢
 rw [hhi] at hh h ⊢
 clear hlo hhi e1 e2
 split at h
 ·injection h with h1 h2
  omega
 ·injection h with h1 h2
  omega
theorem less_top {b x : Nat} (hb : b < 4294967296) (hx : x < 4294967296) :
  ∃ y, y < 4294967296 ∧ y + b = x + 4294967296 * (if decide (x < b) then 1 else 0) ∧ IntKind.u64.wrap (IntKind.u64.wrap (x : Int) - (b : Int)) % 4294967296 = (y : Int) ∧ (IntKind.u64.wrap (IntKind.u64.wrap (x : Int) - (b : Int)) / 9223372036854775808 == 1) = decide (x < b) := by
 simp only [u64_mod]
 by_cases h : x < b
 ·refine ⟨x + 4294967296 - b, by omega, by rw [decide_eq_true h, if_pos rfl]; omega, by omega, ?_⟩
  rw [decide_eq_true h, beq_iff_eq]
  omega
 ·refine ⟨x - b, by omega, by rw [decide_eq_false h, if_neg (by simp)]; omega, by omega, ?_⟩
  rw [decide_eq_false h, beq_eq_false_iff_ne]
  omega
/-- A row with one limb turned, from place i on. -/
theorem row_set {out L D : List Nat} {i k q b c x v y : Nat} (hio : i + k < out.length) (hl : out.length = L.length) (hkD : k < D.length) (h1 : out.drop (i + k) = L.drop (i + k)) (h2 : out.take i = L.take i)
  (h3 : Lm.lv ((out.drop i).take k) + q * Lm.lv (D.take k) = Lm.lv ((L.drop i).take k) + Lm.B ^ k * b) (hx : out[i + k] = x) (hv : D[k] = v) (hy : y + b + q * v = x + 4294967296 * c) :
  (out.set (i + k) y).drop (i + (k + 1)) = L.drop (i + (k + 1)) ∧ (out.set (i + k) y).take i = L.take i ∧
  Lm.lv (((out.set (i + k) y).drop i).take (k + 1)) + q * Lm.lv (D.take (k + 1)) = Lm.lv ((L.drop i).take (k + 1)) + Lm.B ^ (k + 1) * c := by
 have hLx : (L.drop i)[k]'(by rw [List.length_drop]; omega) = x := by
  have e := congrArg (fun t : List Nat => t[0]?) h1
  simp only [List.getElem?_drop, Nat.add_zero] at e
  rw [List.getElem?_eq_getElem hio, List.getElem?_eq_getElem (by omega)] at e
  injection e with e
  rw [List.getElem_drop, ← e, hx]
 refine ⟨?_, ?_, ?_⟩
 ·rw [List.drop_set, if_pos (by omega), ← Nat.add_assoc, ← List.drop_drop, h1, List.drop_drop]
 ·rw [List.take_set_of_le (by omega), h2]
 ·have e0 : (out.set (i + k) y).drop i = (out.drop i).set k y := by
   rw [List.drop_set, if_neg (by omega), show i + k - i = k by omega]
  have hkl : k < (out.drop i).length := by rw [List.length_drop]; omega
  have e1 := Lm.lv_take_succ ((out.drop i).set k y) k (by rw [List.length_set]; exact hkl)
  rw [List.take_set_of_le (Nat.le_refl _), List.getElem_set_self] at e1
  have e2 := Lm.lv_take_succ (L.drop i) k (by rw [List.length_drop]; omega)
  rw [hLx] at e2
  have e3 := Lm.lv_take_succ D k hkD
  rw [hv] at e3
  rw [e0, e1, e2, e3, Nat.pow_succ]
  have hB : Lm.B = 4294967296 := rfl
  generalize Lm.B ^ k = M at *
  have e4 : M * y + M * b + M * (q * v) = M * x + M * (4294967296 * c) := by rw [← Nat.mul_add, ← Nat.mul_add, hy, Nat.mul_add]
  have e5 : q * (M * v) = M * (q * v) := Nat.mul_left_comm ..
  have e6 : M * Lm.B * c = M * (4294967296 * c) := by rw [hB, Nat.mul_assoc]
  rw [Nat.mul_add, e5, e6]
  omega
set_option maxRecDepth 100000 in
set_option maxHeartbeats 3200000 in
theorem ex_less_any (B g N i m cc q : Nat) (A : Option Addr) (cd : Nat) (L D : List Nat) (w : World) (hL : w.ownsRow B 164 1 (.slice (some ⟨g, 0, none⟩) N N) N (u32s L)) (hok0 : Lm.ok L) (hD : Sl w A m cd D) (hne : ∀ ad, A = some ad → ad.block ≠ g)
  (hi : i + m + 1 ≤ N) (hN : N ≤ 1000000000) (hq : q < 4294967296) :
  Calls Tryz.prog 338 #[.slice (some ⟨g, i, none⟩) (m + 1) cc, .slice A m cd, .int .u64 (q : Int)] w (RetLess w B g N i m q L D) := by
 have hlen : L.length = N := by have := hL.1; rw [u32s_len] at this; omega
 have HL := Lib.hid hlen
 have HDL := Lib.hid hD.len
 clear hlen
 go_enter Tryz.func338, Tryz.ntmps338
 go_wp2_with fail
 go_loopw [7, 14] (fun bo ix wr => ∃ (k b : Nat) (out : List Nat), k ≤ m ∧ b < 4294967296 ∧ ix = .int .i64 (k : Int) ∧ bo = .int .u64 (b : Int) ∧ Hid (out.length = N) ∧ wr.ownsRow B 164 1 (.slice (some ⟨g, 0, none⟩) N N) N (u32s out) ∧ Lm.ok out ∧
   Hid (out.drop (i + k) = L.drop (i + k) ∧ out.take i = L.take i ∧ Lm.lv ((out.drop i).take k) + q * Lm.lv (D.take k) = Lm.lv ((L.drop i).take k) + Lm.B ^ k * b) ∧ w.grownBy wr (some g))
  (fun _ ix _ => m - (intOf ix).toNat)
 case atStart =>
  exact ⟨0, 0, L, Nat.zero_le _, by decide, rfl, rfl, HL, hL, hok0, Lib.hid ⟨rfl, rfl, by simp [Lm.lv]⟩, World.grownBy.refl w _⟩
 case round =>
  obtain ⟨k, b, out, hk, hb, rfl, rfl, hol, hown, hok, HE, hg⟩ := hrel
  have hsz := (hown.lt _ rfl).2
  by_cases hlt : k < m
  ·obtain ⟨ad, rfl, hba, hld, hcd, hxd⟩ := (sl_grown hD hg hne).at_ hlt
   have hio : i + k < out.length := by rw [hol.out]; omega
   have hco := own_at hown hio
   have hf := hown.frozenAt (i + k)
   have hxo := Lm.ok_get hok hio
   obtain ⟨x, hx⟩ : ∃ x, out[i + k] = x := ⟨_, rfl⟩
   obtain ⟨v, hv⟩ : ∃ v, D[k] = v := ⟨_, rfl⟩
   rw [hx] at hco hxo
   rw [hv] at hcd hxd
   have HX := Lib.hid hx
   have HV := Lib.hid hv
   have hlt' : (k : Int) < (m : Int) := by omega
   have hlt2 : (k : Int) < (m : Int) + 1 := by omega
   have hk0 : (0 : Int) ≤ (k : Int) := Int.natCast_nonneg _
   obtain ⟨hs1, hs2⟩ := less_limb hq hxd hb hxo
   obtain ⟨p, hp⟩ : ∃ p, q * v = p := ⟨_, rfl⟩
   rw [hp] at hs1 hs2
   have e1 : IntKind.u64.wrap ((q : Int) * (v : Int)) = (p : Int) := by
    rw [← Int.natCast_mul, hp]
    exact IntWalk.u64_in _ (by omega)
   have hpb : (b : Int) + (p : Int) ≤ 18446744073709551615 := by omega
   have HPP := Lib.hid hp
   clear hx hv hp
   obtain ⟨⟨y, c⟩, hyc⟩ : ∃ z : Nat × Nat, z = (if x < (b + p) % 4294967296 then (x + 4294967296 - (b + p) % 4294967296, (b + p) / 4294967296 + 1) else (x - (b + p) % 4294967296, (b + p) / 4294967296)) := ⟨_, rfl⟩
   obtain ⟨w1, w2⟩ := less_walk hxo hs1 hyc
   obtain ⟨y1, c1, y2⟩ := hs2 y c hyc
   have W1 := Lib.hid w1
   have W2 := Lib.hid w2
   have HY := Lib.hid y2
   clear hs2 hyc w1 w2 y2
   go_wp2_with fail
   rw [W1.out, W2.out]
   refine ⟨⟨k + 1, c, out.set (i + k) y, hlt, c1, congrArg (Value.int .i64) (by omega), rfl, Lib.hid (by rw [List.length_set]; exact hol.out), own_store hown _ rfl, Lm.ok_set hok y1, Lib.hid ?_, grown_set hg _ _⟩, ?_⟩
   ·exact row_set hio (by rw [hol.out, HL.out]) (by rw [HDL.out]; exact hlt) HE.out.1 HE.out.2.1 HE.out.2.2 HX.out HV.out (by rw [HPP.out]; exact HY.out)
   ·simp [intOf]
    omega
  ·obtain rfl : k = m := by omega
   have hio : i + k < out.length := by rw [hol.out]; omega
   have hco := own_at hown hio
   have hf := hown.frozenAt (i + k)
   have hxo := Lm.ok_get hok hio
   obtain ⟨x, hx⟩ : ∃ x, out[i + k] = x := ⟨_, rfl⟩
   rw [hx] at hco hxo
   have HX := Lib.hid hx
   clear hx
   have hlt2 : (k : Int) < (k : Int) + 1 := by omega
   have hk0 : (0 : Int) ≤ (k : Int) := Int.natCast_nonneg _
   obtain ⟨y, y1, y2, w1, w2⟩ := less_top hb hxo
   have W1 := Lib.hid w1
   have W2 := Lib.hid w2
   have HY := Lib.hid y2
   clear w1 w2 y2
   go_wp2_with fail
   rw [W1.out]
   go_ret
   have hr := row_set (D := D ++ [0]) (v := 0) (y := y) hio (by rw [hol.out, HL.out]) (by rw [List.length_append, HDL.out]; simp) HE.out.1 HE.out.2.1 (by rw [List.take_append_of_le_length (by rw [HDL.out]; exact Nat.le_refl _)]; exact HE.out.2.2) HX.out (by rw [List.getElem_append_right (by rw [HDL.out]; exact Nat.le_refl _)]; simp [HDL.out]) (by rw [Nat.mul_zero, Nat.add_zero]; exact HY.out)
   have hdd : Lm.lv ((D ++ [0]).take (k + 1)) = Lm.lv D := by
    rw [Lm.lv_take_ge _ _ (by rw [List.length_append, HDL.out]; simp), Lm.lv_snoc, Nat.mul_zero, Nat.add_zero]
   rw [hdd] at hr
   refine ⟨out.set (i + k) y, decide (x < b), by rw [← W2.out]; rfl, own_store hown _ rfl, Lm.ok_set hok y1, by rw [List.length_set]; exact hol.out, hr.1, hr.2.1, hr.2.2, grown_set hg _ _⟩
end Go.Proofs.YtgekmbfmfiikkaaGreatDoor
