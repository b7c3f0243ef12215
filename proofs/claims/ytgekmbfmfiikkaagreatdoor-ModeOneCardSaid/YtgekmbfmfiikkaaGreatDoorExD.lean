/-
  Whole numbers in memory of their own: products (Times).
  Whole numbers in memory of their own: of 64 bits (Of), copies (own).
  The program's whole numbers (package exact): limbs times a power of two (up, Double).
-/
import Derived.Test.YtgekmbfmfiikkaaGreatDoorOwn
import Derived.Test.YtgekmbfmfiikkaaGreatDoorEyB
import Derived.BigQuiet
set_option maxHeartbeats 3200000
set_option maxRecDepth 100000
namespace Go.Proofs.YtgekmbfmfiikkaaGreatDoor
open Go.RowKit
theorem ow_times_sl (neg neg' : Bool) (A A' : Option Addr) (n c n' c' : Nat) (a b : List Nat) (w : World) (ha : Sl w A n c a) (hb : Sl w A' n' c' b) (hn : n ≤ 1000000000) (hn' : n' ≤ 1000000000) :
  Calls Tryz.prog 221 #[.agg #[.bool neg, .slice A n c], .agg #[.bool neg', .slice A' n' c']] w (RetIntO w (sgnd (neg != neg') (Lm.lv a * Lm.lv b))) := by
 have la := ha.len
 have lb := hb.len
 obtain ⟨i0, hi, hz0, hz1, hz2⟩ := info_parts info_u32
 have HL : Hid (a.length = n ∧ b.length = n') := ⟨la, lb⟩
 have HM : Hid (IntKind.i64.wrap ((n : Int) + (n' : Int)) = ((n + n' : Nat) : Int)) := Lib.hid (by rw [IntWalk.i64_in _ (by omega)]; omega)
 have HM2 : Hid ((n : Int) + (n' : Int) = ((n + n' : Nat) : Int)) := Lib.hid (by omega)
 clear la lb
 have K0 := (((Mo.nil w).var (g := w.heap.size) rfl [.bool neg, .slice A n c] 24).var (g := w.heap.size + 1) (by simp) [.bool neg', .slice A' n' c'] 24).var (g := w.heap.size + 1 + 1) (by simp) [.bool false, .slice none 0 0] 24
 have ha0 := ha.below K0.1
 have hb0 := hb.below K0.1
 clear ha hb
 go_enter Tryz.func221, Tryz.ntmps221
 go_wp2_with fail
 generalize ((w.alloc (.cells #[.bool neg, .slice A n c] 24)).alloc (.cells #[.bool neg', .slice A' n' c'] 24)).alloc (.cells #[.bool false, .slice none 0 0] 24) = w0 at K0 ha0 hb0 ⊢
 obtain ⟨qa0, qb0, _, _, qe0⟩ := (K0.blk (g := w.heap.size) (by repeat constructor)).two
 obtain ⟨ra0, rb0, _, _, re0⟩ := (K0.blk (g := w.heap.size + 1) (by repeat constructor)).two
 go_quiet (fail)
 have ha1 : Sl (w0.drewN nq) A n c a := ha0
 have hb1 : Sl (w0.drewN nq) A' n' c' b := hb0
 have K1 := K0.drewN nq
 clear ha0 hb0 K0 qa0 qb0 qe0 ra0 rb0 re0
 generalize w0.drewN nq = w1 at K1 ha1 hb1 ⊢
 go_wp2_with (at_make; refine wpList_make_full _ rfl _ _ 22 rfl w1.heap.size 164 i0 (.int .u32 0) 1 Tryz.underlying22 hi hz0 hz1 _ _ _ _ (n + n') rfl rfl (by first | exact HM.out | exact HM2.out | omega) (by first | exact HM.out | exact HM2.out | omega) ?c2 ?c3 (Nat.le_refl _) ?_)
 case c2 => rw [hz2]; omega
 case c3 => unfold maxLen; omega
 intro w2 hown2 hgrow2
 rw [made_u32] at hown2
 have hb2 : Below w1.heap.size w1 w2 := (Below.refl _ _).grown hgrow2 (Nat.le_refl _) (fun k hk => by cases hk)
 clear hgrow2
 go_wp2
 go_loopw [25] (fun i wr => ∃ (k : Nat) (out : List Nat), k ≤ n ∧ i = .int .i64 k ∧ Hid (out.length = n + n') ∧ wr.ownsRow w1.heap.size 164 1 (.slice (some ⟨w1.heap.size, 0, none⟩) (n + n') (n + n')) (n + n') (u32s out) ∧ Lm.ok out ∧
   Hid (Lm.lv (out.take (k + n')) = Lm.lv (a.take k) * Lm.lv b) ∧ Below w1.heap.size w1 wr)
  (fun i _ => n - (intOf i).toNat)
 case atStart =>
  exact ⟨0, List.replicate (n + n') 0, Nat.zero_le _, rfl, (List.length_replicate : (List.replicate (n + n') 0).length = n + n'), hown2, Lm.ok_zeros _,
   (by rw [List.take_replicate, Lm.lv_zeros]; simp [Lm.lv] : Lm.lv ((List.replicate (n + n') 0).take (0 + n')) = Lm.lv (a.take 0) * Lm.lv b), hb2⟩
 case round =>
  obtain ⟨k, out, hk, rfl, hol, hown, hok, HE, hnx⟩ := hrel
  clear hown2 hb2
  have hsz := (hown.lt _ rfl).2
  by_cases h1 : k < n
  ·obtain ⟨ad, rfl, hba, hla, hca0, hxa⟩ := (ha1.below hnx).at_ h1
   have hk0 : (0 : Int) ≤ (k : Int) := Int.natCast_nonneg _
   have hlt1 : (k : Int) < (n : Int) := by omega
   obtain ⟨x, hx⟩ : ∃ x, a[k] = x := ⟨_, rfl⟩
   rw [hx] at hca0 hxa
   have HX := Lib.hid hx
   clear hx
   go_wp2
   go_loopw [10, 32] (fun cr i wr => ∃ (j q : Nat) (out : List Nat), j ≤ n' ∧ q < 4294967296 ∧ i = .int .i64 j ∧ cr = .int .u64 q ∧ Hid (out.length = n + n') ∧ wr.ownsRow w1.heap.size 164 1 (.slice (some ⟨w1.heap.size, 0, none⟩) (n + n') (n + n')) (n + n') (u32s out) ∧ Lm.ok out ∧
     Hid (Lm.lv (out.take (k + n')) + Lm.B ^ (k + j) * q = Lm.lv (a.take k) * Lm.lv b + Lm.B ^ k * (x * Lm.lv (b.take j))) ∧ Below w1.heap.size w1 wr)
    (fun _ i _ => n' - (intOf i).toNat)
   case atStart =>
    exact ⟨0, 0, out, Nat.zero_le _, by omega, rfl, rfl, hol, hown, hok, (by rw [HE.out]; simp [Lm.lv] : Lm.lv (out.take (k + n')) + Lm.B ^ (k + 0) * 0 = Lm.lv (a.take k) * Lm.lv b + Lm.B ^ k * (x * Lm.lv (b.take 0))), hnx⟩
   case round =>
    clear hown hnx HE hol hok hsz out
    obtain ⟨j, q, out, hj, hq, rfl, rfl, hol, hown, hok, HE, hnx⟩ := hrel
    have hsz := (hown.lt _ rfl).2
    by_cases h2 : j < n'
    ·obtain ⟨ad', rfl, hbb, hlb, hcb, hxb⟩ := (hb1.below hnx).at_ h2
     have hkj : k + j < out.length := by rw [hol.out]; omega
     have hco := own_at hown hkj
     have hxo := Lm.ok_get hok hkj
     have hmc := Lm.mul_carry hxa hxb hxo hq
     have hf := hown.frozenAt (k + j)
     have hj0 : (0 : Int) ≤ (j : Int) := Int.natCast_nonneg _
     have hlt2 : (j : Int) < (n' : Int) := by omega
     have s1 : IntKind.i64.wrap ((k : Int) + j) = (k : Int) + j := IntWalk.i64_in _ (by omega)
     have s2 : ((k : Int) + j).toNat = k + j := by omega
     have s3 : IntKind.u64.wrap ((x : Int) * b[j]) = (x : Int) * b[j] := IntWalk.u64_in _ (by rw [← Int.natCast_mul]; omega)
     have s4 : IntKind.u64.wrap ((x : Int) * b[j] + out[k + j]) = (x : Int) * b[j] + out[k + j] := IntWalk.u64_in _ (by rw [← Int.natCast_mul]; omega)
     have s5 : IntKind.u64.wrap ((q : Int) + ((x : Int) * b[j] + out[k + j])) = (q : Int) + ((x : Int) * b[j] + out[k + j]) := IntWalk.u64_in _ (by rw [← Int.natCast_mul]; omega)
     have s6 : (((q : Int) + ((x : Int) * b[j] + out[k + j])) % 4294967296) = (((x * b[j] + out[k + j] + q) % 4294967296 : Nat) : Int) := by rw [← Int.natCast_mul]; omega
     have s7 : (((q : Int) + ((x : Int) * b[j] + out[k + j])) / 4294967296) = (((x * b[j] + out[k + j] + q) / 4294967296 : Nat) : Int) := by rw [← Int.natCast_mul]; omega
     have S6 := Lib.hid s6
     have S7 := Lib.hid s7
     clear s6 s7
     have hp0 : 0 ≤ (x : Int) * b[j] := by rw [← Int.natCast_mul]; omega
     have hp1 : (q : Int) + ((x : Int) * b[j] + out[k + j]) ≤ 18446744073709551615 := by rw [← Int.natCast_mul]; omega
     go_wp2
     go_roundw
     case rel =>
      refine ⟨j + 1, (x * b[j] + out[k + j] + q) / 4294967296, out.set (k + j) ((x * b[j] + out[k + j] + q) % 4294967296), by omega, by omega, by go_num, by rw [S7.out], (by rw [List.length_set]; exact hol.out : (out.set (k + j) ((x * b[j] + out[k + j] + q) % 4294967296)).length = n + n'),
       own_store hown _ S6.out, Lm.ok_set hok (Nat.mod_lt _ (by decide)), ?_, hnx.setCell (p := ⟨w1.heap.size, k + j, none⟩) (Nat.le_refl _) _⟩
      have h := Lm.mul_step (m := k + n') hkj (by omega) HE.out (x := x) (y := b[j])
      show _ = _
      rw [h, Lm.take_in b hlb, Nat.mul_add, Nat.mul_add, Nat.add_assoc]
     case measure => simp [intOf]; omega
    ·obtain rfl : j = n' := by omega
     have hm : k + j < out.length := by rw [hol.out]; omega
     have hf := hown.frozenAt (k + j)
     have hco := own_at hown hm
     have hnl : ¬ (j : Int) < (j : Int) := by omega
     have s1 : IntKind.i64.wrap ((k : Int) + j) = (k : Int) + j := IntWalk.i64_in _ (by omega)
     have s2 : ((k : Int) + j).toNat = k + j := by omega
     go_wp2
     go_roundw
     case rel =>
      refine ⟨k + 1, out.set (k + j) q, by omega, by go_num, (by rw [List.length_set]; exact hol.out : (out.set (k + j) q).length = n + j),
       own_store hown _ rfl, Lm.ok_set hok hq, ?_, hnx.setCell (p := ⟨w1.heap.size, k + j, none⟩) (Nat.le_refl _) _⟩
      have h := Lm.mul_last hm HE.out
      have hla' := Lm.take_in a hla
      rw [HX.out] at hla'
      show _ = _
      rw [show k + 1 + j = k + j + 1 by omega, h, hla', Nat.add_mul, Lm.lv_take_ge b j (by rw [HL.out.2]; omega), Nat.mul_assoc]
     case measure => simp [intOf]; omega
  ·obtain rfl : k = n := by omega
   have hS : Sl wr (some ⟨w1.heap.size, 0, none⟩) (k + n') (k + n') out := Sl.of_own hown (Nat.le_refl _) hok
   have E : Hid (Lm.lv out = Lm.lv a * Lm.lv b) := by
    have h := HE.out
    rw [Lm.lv_take_ge out (k + n') (by rw [hol.out]; omega), Lm.lv_take_ge a k (by rw [HL.out.1]; omega)] at h
    exact h
   have K2 := K1.call1 hnx (Owns.one (q := (some ⟨w1.heap.size, 0, none⟩, k + n', k + n')) ⟨_, hown⟩)
   obtain ⟨_, _, _, _, _⟩ := (K2.blk (g := w.heap.size) (by repeat constructor)).two
   obtain ⟨_, _, _, _, _⟩ := (K2.blk (g := w.heap.size + 1) (by repeat constructor)).two
   have hnl : ¬ (k : Int) < (k : Int) := by omega
   clear K1 ha1 hb1 hown hnx
   go_wp2_with (go_at_call 267; refine (ow_signed_any (neg != neg') (some ⟨w1.heap.size, 0, none⟩) (k + n') (k + n') out _ hS (by omega)).mono ?_; rintro e3 w3 ⟨neg3, A3, n3, c3, rfl, I3, C3, hb3⟩; have K3 := ((K2.next hb3).cut C3).int I3; obtain ⟨sa3, sb3, sc3, sd3, se3⟩ := (K3.blk (g := w.heap.size + 1 + 1) (by repeat constructor)).two)
   rw [E.out] at K3
   have KE := (K3.pick (L' := [(w.heap.size + 1 + 1, [.bool false, .slice none 0 0])]) (l' := [(neg3, A3, n3, c3, sgnd (neg != neg') (Lm.lv a * Lm.lv b))]) (by simp) (by simp)).set2 (by simp <;> omega) neg3 A3 n3 c3
   exact bodyPost_ret (v := .agg #[.bool neg3, .slice A3 n3 c3]) (by simp [results, Tryz.results221, go_sem, sa3, sb3]) rfl ⟨neg3, A3, n3, c3, rfl, KE.at_ (by simp), KE.own1 0 rfl, KE.1⟩
theorem ow_times_any (neg neg' : Bool) (A A' : Option Addr) (n c n' c' : Nat) (x y : Int) (w : World) (hx : IsInt w neg A n c x) (hy : IsInt w neg' A' n' c' y) (hn : n ≤ 1000000000) (hn' : n' ≤ 1000000000) :
  Calls Tryz.prog 221 #[.agg #[.bool neg, .slice A n c], .agg #[.bool neg', .slice A' n' c']] w (RetIntO w (x * y)) := by
 obtain ⟨a, ha, _, _, rfl⟩ := hx
 obtain ⟨b, hb, _, _, rfl⟩ := hy
 rw [← sgnd_mul]
 exact ow_times_sl neg neg' A A' n c n' c' a b w ha hb hn hn'
end Go.Proofs.YtgekmbfmfiikkaaGreatDoor
namespace Go.Proofs.YtgekmbfmfiikkaaGreatDoor
open Go.RowKit
theorem own_lit2 (w : World) (o : Obj) (x y : Value) : OwnR w.heap.size ((w.alloc o).alloc (.cells #[x, y] 164)) (some ⟨w.heap.size + 1, 0, none⟩, 2, 2) := by
 have h := World.ownsRow_lit (base := w.heap.size) (size := 1) (e := 164) (w.alloc o) #[x, y] 2 (by simp) (by decide) rfl
 have e : (w.alloc o).heap.size = w.heap.size + 1 := by simp
 rw [e] at h
 exact ⟨_, h⟩
theorem ow_of_pos (m : Nat) (w : World) (h : m ≤ 9223372036854775807) :
  Calls Tryz.prog 215 #[.int .i64 (m : Int)] w (RetIntO w (m : Int)) := by
 have e1 : (m : Int) % 4294967296 = ((m % 4294967296 : Nat) : Int) := by omega
 have e2 : (m : Int) / 4294967296 = ((m / 4294967296 : Nat) : Int) := by omega
 have E1 := Lib.hid e1
 have E2 := Lib.hid e2
 clear e1 e2
 go_enter Tryz.func215, Tryz.ntmps215
 go_wp2_with fail
 rw [E1.out, E2.out]
 refine (ow_signed_any _ _ _ _ _ _ (sl_new2_box _ _ _ _ _ (by omega) (by omega)) (by omega)).mono ?_
 rintro e w2 ⟨neg2, A2, n2, c2, rfl, hI2, hC2, hb2⟩
 have hO2 := ((own_lit2 w _ _ _).below hb2).cut hC2
 have hne2 : (OwnAt.v (A2, n2, c2)).ownBlock ≠ some w.heap.size := fun e => by have := hC2.blk e; simp [Value.ownBlock] at this
 clear hC2
 obtain ⟨hc2, hf2⟩ := bcell hb2
 have r5 := hc2 (w.heap.size) 0 (by simp <;> omega)
 have r6 := hc2 (w.heap.size) 1 (by simp <;> omega)
 have r7 := hf2 (w.heap.size) 0 (by simp <;> omega)
 have r8 := hf2 (w.heap.size) 1 (by simp <;> omega)
 have hz1 : w.heap.size < w2.heap.size := (by have := hb2.size; simp at this; omega)
 rw [of_limbs] at hI2
 go_wp2_with fail
 exact bodyPost_ret (v := .agg #[.bool neg2, .slice A2 n2 c2]) (by simp [results, Tryz.results215, go_sem, r5, r6]) rfl
  ⟨neg2, A2, n2, c2, rfl, isInt_result (b0 := false) (a0 := none) (n0 := 0) (c0 := 0) hI2 (r5.trans (by simp [go_sem])) (r6.trans (by simp [go_sem])) _ _, Owns.one ((hO2.set (p := ⟨w.heap.size, 0, none⟩) hne2 _).set (p := ⟨w.heap.size, 1, none⟩) hne2 _), below_result (below_box (below_box hb2)) (by omega) _ _⟩
theorem ow_of_neg (m : Nat) (w : World) (h : m ≤ 9223372036854775808) (h0 : 0 < m) :
  Calls Tryz.prog 215 #[.int .i64 (-(m : Int))] w (RetIntO w (-(m : Int))) := by
 have e1 : (m : Int) % 4294967296 = ((m % 4294967296 : Nat) : Int) := by omega
 have e2 : (m : Int) / 4294967296 = ((m / 4294967296 : Nat) : Int) := by omega
 have E1 := Lib.hid e1
 have E2 := Lib.hid e2
 clear e1 e2
 have ew : IntKind.u64.wrap (-IntKind.u64.wrap (-(m : Int))) = (m : Int) := by
  simp only [IntKind.wrap, IntKind.bits, IntKind.signed]; simp; omega
 have hneg : -(m : Int) < 0 := by omega
 have hb1 : (m : Int) ≤ 18446744073709551615 := by omega
 go_enter Tryz.func215, Tryz.ntmps215
 go_wp2_with fail
 rw [E1.out, E2.out]
 refine (ow_signed_any _ _ _ _ _ _ (sl_new2_box _ _ _ _ _ (by omega) (by omega)) (by omega)).mono ?_
 rintro e w2 ⟨neg2, A2, n2, c2, rfl, hI2, hC2, hb2⟩
 have hO2 := ((own_lit2 w _ _ _).below hb2).cut hC2
 have hne2 : (OwnAt.v (A2, n2, c2)).ownBlock ≠ some w.heap.size := fun e => by have := hC2.blk e; simp [Value.ownBlock] at this
 clear hC2
 obtain ⟨hc2, hf2⟩ := bcell hb2
 have r5 := hc2 (w.heap.size) 0 (by simp <;> omega)
 have r6 := hc2 (w.heap.size) 1 (by simp <;> omega)
 have r7 := hf2 (w.heap.size) 0 (by simp <;> omega)
 have r8 := hf2 (w.heap.size) 1 (by simp <;> omega)
 have hz1 : w.heap.size < w2.heap.size := (by have := hb2.size; simp at this; omega)
 rw [of_limbs] at hI2
 go_wp2_with fail
 exact bodyPost_ret (v := .agg #[.bool neg2, .slice A2 n2 c2]) (by simp [results, Tryz.results215, go_sem, r5, r6]) rfl
  ⟨neg2, A2, n2, c2, rfl, isInt_result (b0 := false) (a0 := none) (n0 := 0) (c0 := 0) hI2 (r5.trans (by simp [go_sem])) (r6.trans (by simp [go_sem])) _ _, Owns.one ((hO2.set (p := ⟨w.heap.size, 0, none⟩) hne2 _).set (p := ⟨w.heap.size, 1, none⟩) hne2 _), below_result (below_box (below_box hb2)) (by omega) _ _⟩
theorem ow_of_any (z : Int) (w : World) (h : -9223372036854775808 ≤ z ∧ z ≤ 9223372036854775807) :
  Calls Tryz.prog 215 #[.int .i64 z] w (RetIntO w z) := by
 by_cases hz : z < 0
 ·have e : z = -(z.natAbs : Int) := by omega
  rw [e]
  exact ow_of_neg _ w (by omega) (by omega)
 ·have e : z = (z.natAbs : Int) := by omega
  rw [e]
  exact ow_of_pos _ w (by omega)
theorem ow_own_any (neg : Bool) (A : Option Addr) (n c : Nat) (l : List Nat) (w : World) (h : Sl w A n c l) (hn : n ≤ 1000000000) :
  Calls Tryz.prog 271 #[.bool neg, .slice A n c] w (RetIntO w (sgnd neg (Lm.lv l))) := by
 have h1 := h.alloc (.cells #[.bool false, .slice none 0 0] 24)
 go_enter Tryz.func271, Tryz.ntmps271
 go_wp2_with fail
 refine (ex_clone_any A n c l _ h1 hn).mono ?_
 rintro e1 w1 ⟨A1, n1, c1, rfl, hown, hc1, hb1⟩
 have hs1 : Sl w1 A1 n1 c1 l := Sl.of_own hown hc1 h.ok
 have hn1 : n1 ≤ 1000000000 := by have := hs1.len; have := h.len; omega
 obtain ⟨bc1, bf1⟩ := bcell hb1
 have hz1 : w.heap.size < w1.heap.size := by have := hb1.size; simp at this; omega
 have hO1 : OwnR w.heap.size w1 (A1, n1, c1) := OwnR.base ⟨_, hown⟩ (fun g hg => by have := (hown.lt g hg).1; simp at this; omega)
 have hne1 : (OwnAt.v (A1, n1, c1)).ownBlock ≠ some w.heap.size := fun e => by have := (hown.lt _ e).1; simp at this; omega
 clear hown
 go_wp2_with fail
 refine (ow_signed_any neg A1 n1 c1 l _ hs1 (by omega)).mono ?_
 rintro e2 w2 ⟨neg2, A2, n2, c2, rfl, hI2, hC2, hb2⟩
 have hO2 := (hO1.below hb2).cut hC2
 have hne2 : (OwnAt.v (A2, n2, c2)).ownBlock ≠ some w.heap.size := fun e => hne1 (hC2.blk e)
 obtain ⟨bc2, bf2⟩ := bcell hb2
 have r1 := (bc2 w.heap.size 0 hz1).trans (bc1 w.heap.size 0 (by simp))
 have r2 := (bc2 w.heap.size 1 hz1).trans (bc1 w.heap.size 1 (by simp))
 have r3 := (bf2 w.heap.size 0 hz1).trans (bf1 w.heap.size 0 (by simp))
 have r4 := (bf2 w.heap.size 1 hz1).trans (bf1 w.heap.size 1 (by simp))
 clear bc1 bf1 bc2 bf2
 go_wp2_with fail
 exact bodyPost_ret (v := .agg #[.bool neg2, .slice A2 n2 c2]) (by simp [results, Tryz.results271, go_sem, r1, r2]) rfl
  ⟨neg2, A2, n2, c2, rfl, isInt_result (b0 := false) (a0 := none) (n0 := 0) (c0 := 0) hI2 (r1.trans (by simp [go_sem])) (r2.trans (by simp [go_sem])) _ _, Owns.one ((hO2.set (p := ⟨w.heap.size, 0, none⟩) hne2 _).set (p := ⟨w.heap.size, 1, none⟩) hne2 _), below_result (below_next (below_box hb1) hb2) (Nat.le_refl _) _ _⟩
end Go.Proofs.YtgekmbfmfiikkaaGreatDoor
namespace Go.Proofs.YtgekmbfmfiikkaaGreatDoor
open Go.RowKit
theorem ofInt_u32 (a : Nat) (h : a < 4294967296) : (BitVec.ofInt 32 (a : Int)).toNat = a := by
 rw [BitVec.toNat_ofInt]
 omega
theorem u32_or_nat (a b : Nat) (ha : a < 4294967296) (hb : b < 4294967296) : bits .or .u32 (a : Int) (b : Int) = ((a ||| b : Nat) : Int) := by
 have hx : a ||| b < 2 ^ 32 := Nat.or_lt_two_pow (by omega) (by omega)
 show IntKind.u32.wrap ((BitVec.ofInt 32 (a : Int) ||| BitVec.ofInt 32 (b : Int)).toNat : Int) = _
 rw [BitVec.toNat_or, ofInt_u32 a ha, ofInt_u32 b hb]
 simp only [IntKind.wrap, IntKind.bits, IntKind.signed]
 simp
 omega
theorem shift_limb {x q s : Nat} (hs : s < 32) (hx : x < 4294967296) (hq : q < pw s) :
  bits .or .u32 ((x : Int) * 2 ^ s % 4294967296) (q : Int) = (((x * pw s + q) % 4294967296 : Nat) : Int) ∧ IntKind.u64.wrap ((x : Int) * 2 ^ s) / 4294967296 % 4294967296 = (((x * pw s + q) / 4294967296 : Nat) : Int) ∧ (x * pw s + q) / 4294967296 < pw s := by
 have hP := pw_lt s hs
 have hpp : pw s * pw (32 - s) = 4294967296 := by unfold pw; rw [← Nat.pow_add, show s + (32 - s) = 32 by omega]
 have hpow : (2 : Int) ^ s = ((pw s : Nat) : Int) := by unfold pw; rw [Int.natCast_pow]; rfl
 have hp2 : 0 < pw (32 - s) := Nat.two_pow_pos _
 -- the low part is a multiple of the power
 have hlo : x * pw s % 4294967296 = pw s * (x % pw (32 - s)) := by
  rw [← hpp, Nat.mul_comm x, Nat.mul_mod_mul_left]
 have hm := Nat.mod_lt x hp2
 have hmul : pw s * (x % pw (32 - s)) + pw s ≤ 4294967296 := by
  rw [← hpp, ← Nat.mul_succ]
  exact Nat.mul_le_mul_left _ hm
 have hxp : x * pw s < 4294967296 * pw s := Nat.mul_lt_mul_of_pos_right hx (Nat.two_pow_pos _)
 have hdm := Nat.div_add_mod (x * pw s) 4294967296
 obtain ⟨y, hy⟩ : ∃ y, x * pw s = y := ⟨_, rfl⟩
 have hyi : (x : Int) * 2 ^ s = (y : Int) := by rw [hpow, ← Int.natCast_mul, hy]
 rw [hyi, hy]
 rw [hy] at hlo hxp hdm
 refine ⟨?_, ?_, ?_⟩
 ·rw [show (y : Int) % 4294967296 = ((y % 4294967296 : Nat) : Int) by omega, u32_or_nat _ _ (Nat.mod_lt _ (by decide)) (by omega)]
  congr 1
  have hor := Nat.two_pow_add_eq_or_of_lt (i := s) (b := q) hq (x % pw (32 - s))
  rw [hlo]
  have e : pw s * (x % pw (32 - s)) = 2 ^ s * (x % pw (32 - s)) := rfl
  rw [e, ← hor, ← e]
  omega
 ·have hb : y < 18446744073709551616 := Nat.lt_trans hxp (by omega)
  rw [show IntKind.u64.wrap (y : Int) = (y : Int) from IntWalk.u64_in _ (by omega)]
  omega
 ·omega
def RetRow (W : World) (P : List Nat → Prop) (m : Nat) (e : Ending) (w' : World) : Prop :=
 ∃ g l, e = .returned (.slice (some ⟨g, 0, none⟩) m m) ∧ w'.ownsRow W.heap.size 164 1 (.slice (some ⟨g, 0, none⟩) m m) m (u32s l) ∧ Lm.ok l ∧ l.length = m ∧ P l ∧ Below W.heap.size W w'
theorem ex_up_any (A : Option Addr) (n c s : Nat) (a : List Nat) (w : World) (ha : Sl w A n c a) (hn : n ≤ 1000000000) (hs : s < 32) :
  Calls Tryz.prog 268 #[.slice A n c, .int .u64 (s : Int)] w (RetRow w (fun l => Lm.lv l = Lm.lv a * pw s) (n + 1)) := by
 obtain ⟨i0, hi, hz0, hz1, hz2⟩ := info_parts info_u32
 have hP := pw_lt s hs
 have HL := Lib.hid ha.len
 have e1 : ((n : Int) + 1) = ((n + 1 : Nat) : Int) := by omega
 have HE := Lib.hid e1
 clear e1
 go_enter Tryz.func268, Tryz.ntmps268
 go_wp2_with (at_make; refine wpList_make_full _ rfl _ _ 22 rfl w.heap.size 164 i0 (.int .u32 0) 1 Tryz.underlying22 hi hz0 hz1 _ _ _ _ (n + 1) rfl rfl ?c0 ?c1 ?c2 ?c3 ?c4 ?_)
 case c0 => exact HE.out
 case c1 => exact HE.out
 case c2 => rw [hz2]; omega
 case c3 => unfold maxLen; omega
 case c4 => exact Nat.le_refl _
 intro w1 hown1 hgrow1
 rw [made_u32] at hown1
 have hb1 : Below w.heap.size w w1 := (Below.refl _ _).grown hgrow1 (Nat.le_refl _) (fun k hk => by cases hk)
 clear hgrow1
 go_wp2_with fail
 go_loopw [6, 15] (fun cr i wr => ∃ (k q : Nat) (out : List Nat), k ≤ n ∧ q < pw s ∧ i = .int .i64 (k : Int) ∧ cr = .int .u32 (q : Int) ∧ Hid (out.length = n + 1) ∧ wr.ownsRow w.heap.size 164 1 (.slice (some ⟨w.heap.size, 0, none⟩) (n + 1) (n + 1)) (n + 1) (u32s out) ∧ Lm.ok out ∧
   Hid (Lm.lv (out.take k) + Lm.B ^ k * q = Lm.lv (a.take k) * pw s) ∧ Below w.heap.size w wr)
  (fun _ i _ => n - (intOf i).toNat)
 case atStart =>
  exact ⟨0, 0, List.replicate (n + 1) 0, Nat.zero_le _, Nat.two_pow_pos _, rfl, rfl, Lib.hid List.length_replicate, hown1, Lm.ok_zeros _, Lib.hid (by simp [Lm.lv]), hb1⟩
 case round =>
  clear hown1 hb1
  obtain ⟨k, q, out, hk, hq, rfl, rfl, hol, hown, hok, HEQ, hb⟩ := hrel
  by_cases hlt : k < n
  ·obtain ⟨ad, rfl, hba, hla, hca, hxa⟩ := (ha.below hb).at_ hlt
   have hko : k < out.length := by rw [hol.out]; omega
   have hco := own_at hown hko
   have hf := hown.frozenAt k
   have hsz := (hown.lt _ rfl).2
   obtain ⟨x, hx⟩ : ∃ x, a[k] = x := ⟨_, rfl⟩
   rw [hx] at hca hxa
   have HX := Lib.hid hx
   clear hx
   have hlt' : (k : Int) < (n : Int) := by omega
   have hk0 : (0 : Int) ≤ (k : Int) := Int.natCast_nonneg _
   have hs0 : (0 : Int) ≤ (s : Int) := Int.natCast_nonneg _
   obtain ⟨s1, s2, s3⟩ := shift_limb hs hxa hq
   have S1 := Lib.hid s1
   have S2 := Lib.hid s2
   have HQ : Hid (Lm.lv ((out.set k ((x * pw s + q) % 4294967296)).take (k + 1)) + Lm.B ^ (k + 1) * ((x * pw s + q) / 4294967296) = Lm.lv (a.take (k + 1)) * pw s) := Lib.hid (by
    have h1 := HEQ.out
    have h2 := Lm.lv_take_succ (out.set k ((x * pw s + q) % 4294967296)) k (by rw [List.length_set]; exact hko)
    rw [List.take_set_of_le (Nat.le_refl _), List.getElem_set_self] at h2
    have h3 := Lm.lv_take_succ a k hla
    rw [HX.out] at h3
    have hdm := Nat.div_add_mod (x * pw s + q) 4294967296
    rw [h2, h3, Nat.add_mul, ← h1, Nat.pow_succ, Nat.mul_assoc, show Lm.B * ((x * pw s + q) / 4294967296) = 4294967296 * ((x * pw s + q) / 4294967296) from rfl, Nat.add_assoc, ← Nat.mul_add]
    have e : (x * pw s + q) % 4294967296 + 4294967296 * ((x * pw s + q) / 4294967296) = q + x * pw s := by omega
    rw [e, Nat.mul_add, Nat.mul_assoc, Nat.add_assoc])
   clear s1 s2
   go_wp2_with fail
   rw [S1.out, S2.out]
   refine ⟨⟨k + 1, (x * pw s + q) / 4294967296, out.set k ((x * pw s + q) % 4294967296), hlt, s3, congrArg (Value.int .i64) (by omega), rfl, Lib.hid (by rw [List.length_set]; exact hol.out), own_store hown _ rfl, Lm.ok_set hok (Nat.mod_lt _ (by decide)), HQ, hb.setCell (p := ⟨w.heap.size, k, none⟩) (Nat.le_refl _) _⟩, ?_⟩
   simp [intOf]
   omega
  ·obtain rfl : k = n := by omega
   have hko : k < out.length := by rw [hol.out]; omega
   have hco := own_at hown hko
   have hf := hown.frozenAt k
   have hsz := (hown.lt _ rfl).2
   have hqb : q < 4294967296 := by omega
   go_wp2_with fail
   go_ret
   have hst := own_store hown (j := k) (X := (q : Int)) q rfl
   refine ⟨w.heap.size, out.set k q, rfl, hst, Lm.ok_set hok hqb, by rw [List.length_set]; exact hol.out, ?_, hb.setCell (p := ⟨w.heap.size, k, none⟩) (Nat.le_refl _) _⟩
   have h1 := HEQ.out
   have h2 := Lm.lv_take_succ (out.set k q) k (by rw [List.length_set]; exact hko)
   rw [List.take_set_of_le (Nat.le_refl _), List.getElem_set_self, Lm.lv_take_ge _ (k + 1) (by rw [List.length_set, hol.out]; exact Nat.le_refl _)] at h2
   show Lm.lv (out.set k q) = Lm.lv a * pw s
   rw [h2, h1, Lm.lv_take_ge a k (by rw [HL.out]; exact Nat.le_refl _)]
end Go.Proofs.YtgekmbfmfiikkaaGreatDoor
