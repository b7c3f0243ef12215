/-
  Limbs in memory of their own: limbs by limbs (divide).
-/
import Derived.Test.YtgekmbfmfiikkaaGreatDoorOwn
import Derived.Test.YtgekmbfmfiikkaaGreatDoorExR
namespace Go.Proofs.YtgekmbfmfiikkaaGreatDoor
open Go.RowKit
def RetQrO (W : World) (a d : List Nat) (e : Ending) (w' : World) : Prop :=
 ∃ A n c l A' n' c' l', e = .returned (.tuple #[.slice A n c, .slice A' n' c']) ∧ Sl w' A n c l ∧ Sl w' A' n' c' l' ∧ Lm.lv a = Lm.lv d * Lm.lv l + Lm.lv l' ∧ Lm.lv l' < Lm.lv d ∧ n ≤ 1000000000 ∧ n' ≤ 1000000000 ∧ Owns W.heap.size w' [(A, n, c), (A', n', c')] ∧ Below W.heap.size W w'
set_option maxRecDepth 100000 in
set_option maxHeartbeats 8000000 in
theorem ow_divide_any (A A' : Option Addr) (n c m c' : Nat) (a d : List Nat) (w : World) (ha : Sl w A n c a) (hd : Sl w A' (m + 2) c' d) (cd : Lm.canon d) (hn : n ≤ 100000000) (hm : m + 2 ≤ n) :
  Calls Tryz.prog 274 #[.slice A n c, .slice A' (m + 2) c'] w (RetQrO w a d) := by
 obtain ⟨i0, hi, hz0, hz1, hz2⟩ := info_parts info_u32
 obtain ⟨ad, rfl, hbd, hld, hcd, hxd⟩ := hd.at_ (k := m + 1) (by omega)
 have hdl := hd.len
 have hcd2 := hcd
 rw [show ad.add (m + 1) = ⟨ad.block, ad.off + (m + 1), none⟩ by unfold Addr.add; rw [if_neg (by omega)]] at hcd2
 have ht0 : d[m + 1] ≠ 0 := by
  have h1 := (canon_last (by omega)).1 cd
  have e : d.length - 1 = m + 1 := by omega
  simp only [e] at h1
  exact h1
 obtain ⟨t1, t2, t3, t4⟩ := top_shift ht0 hxd
 obtain ⟨b, hb⟩ : ∃ b, bitLen d[m + 1] = b := ⟨_, rfl⟩
 rw [hb] at t1 t2 t3 t4
 have HB := Lib.hid hb
 obtain ⟨s, hs⟩ : ∃ s, 32 - b = s := ⟨_, rfl⟩
 have hs32 : s < 32 := by omega
 rw [hs] at t3 t4
 have HT := Lib.hid (And.intro t3 t4)
 have hsz : IntKind.u64.wrap (32 - (b : Int)) = (s : Int) := by
  rw [show (32 : Int) - (b : Int) = (s : Int) by omega]
  exact IntWalk.u64_in _ (by omega)
 have hi1 : (1 : Int) ≤ (m : Int) + 2 := by omega
 have hi2 : ((m : Int) + 2 - 1).toNat = m + 1 := by omega
 have hi3 : (0 : Int) ≤ (m : Int) + 2 - 1 := by omega
 have hi4 : (m : Int) + 2 ≤ (m : Int) + 2 + 1 := by omega
 have hi5 : (0 : Int) ≤ (m : Int) + 2 := by omega
 have hi6 : ((m : Int) + 2).toNat = m + 2 := by omega
 obtain ⟨M, hM⟩ : ∃ M : Nat, n = M + m + 1 := ⟨n - m - 1, by omega⟩
 have hM1 : 1 ≤ M := by omega
 have HMN := Lib.hid hM
 have hMb : M ≤ 100000000 := by omega
 clear hb ht0 t3 t4 hM hs
 go_enter Tryz.func274, Tryz.ntmps274
 go_wp2_with fail
 go_step3
 go_wp2_with fail
 refine (lz32_of _ b _ hxd HB).mono ?_
 rintro e1 w1 ⟨rfl, rfl⟩
 go_wp2_with fail
 go_region_held3 (fun _ => True)
  (exact trivial)
  (first
   | (go_at_call 268; (with_reducible refine (ex_up_any A n c s a _ ?_ (by omega) hs32).mono ?_); (with_reducible exact ha.drew); rintro e1 w1 ⟨g1, L0, rfl, hown1, hok1, hl1, hv1, hb1⟩)
   | (go_at_call 268; (with_reducible refine (ex_up_any (some ad) (m + 2) c' s d _ ?_ (by omega) hs32).mono ?_); (exact (hd.drew).below hb1); rintro e2 w2 ⟨g2, D0, rfl, hown2, hok2, hl2, hv2, hb2⟩))
 have hb12 : Below w.heap.size w w2 := below_next (below_of_drew hb1) hb2
 have hown1b := own_kept hown1 hb2
 have hg1 : w.heap.size ≤ g1 := (hown1.lt _ rfl).1
 have hg2 : w1.heap.size ≤ g2 := (hown2.lt _ rfl).1
 have hg12 : g1 < g2 := Nat.lt_of_lt_of_le (hown1.lt _ rfl).2 hg2
 go_wp2_with (at_make; refine wpList_make_full _ rfl _ _ 22 rfl w2.heap.size 164 i0 (.int .u32 0) 1 Tryz.underlying22 hi hz0 hz1 _ _ _ _ M rfl rfl ?c0 ?c1 ?c2 ?c3 ?c4 ?_)
 case c0 => have := HMN.out; omega
 case c1 => have := HMN.out; omega
 case c2 => rw [hz2]; have := HMN.out; omega
 case c3 => unfold maxLen; have := HMN.out; omega
 case c4 => exact Nat.le_refl _
 intro w3 hown3 hgrow3
 rw [made_u32] at hown3
 have hb23 : Below w2.heap.size w2 w3 := (Below.refl _ _).grown hgrow3 (Nat.le_refl _) (fun k hk => by cases hk)
 have hb13 : Below w.heap.size w w3 := below_next hb12 hb23
 have hLo := own_kept hown1b hb23
 have hQo := own_low hown3 hb12.size
 have hz12 : g2 < w2.heap.size := (hown2.lt _ rfl).2
 have hDo := (sl_of_row hown2 hok2).take (k := m + 2) (by omega)
 have hDo3 := hDo.below hb23
 obtain ⟨n1, n2, n3, n4⟩ := norm_top hd.ok hok2 (by omega) (by omega) HT.out.1 HT.out.2 hv2
 have hfl := first_low ha.ok ha.len hl1 (show s ≤ 31 by omega) (show m + 1 ≤ n by omega) hv1 n4
 rw [show n - (m + 1) = M by have := HMN.out; omega] at hfl
 obtain ⟨Dv, hDv⟩ : ∃ Dv, Lm.lv d * 2 ^ s = Dv := ⟨_, rfl⟩
 rw [hDv] at n1 n3 n4 hfl
 obtain ⟨D, hDok, hDlen, hDv2, hDtop, hDs⟩ : ∃ D : List Nat, Lm.ok D ∧ D.length = m + 2 ∧ Lm.lv D = Dv ∧ (∃ t, D[m + 1]? = some t ∧ 2147483648 ≤ t) ∧ Sl w3 (some ⟨g2, 0, none⟩) (m + 2) (m + 2 + 1) D :=
  ⟨D0.take (m + 2), Lm.ok_take hok2 _, by rw [List.length_take, hl2]; omega, n1, ⟨D0[m + 1], by rw [List.getElem?_take, if_pos (by omega), List.getElem?_eq_getElem (by omega)], n2⟩, hDo3⟩
 have H1 := Lib.hid (And.intro hDv2 (And.intro n3 (And.intro hDok hDlen)))
 have H2 := Lib.hid hDv
 have H3 := Lib.hid (And.intro hv1 hl1)
 have HFL := Lib.hid hfl
 have hnN : n ≤ 100000000 := hn
 obtain ⟨g3, hg3⟩ : ∃ g3, w2.heap.size = g3 := ⟨_, rfl⟩
 rw [hg3] at hQo hz12 ⊢
 have hL0l : L0.length = n + 1 := hl1
 clear hown1 hown1b hown2 hown3 hgrow3 hb1 hb2 hb12 hb23 hDo n1 n2 n3 n4 hfl hDv hok2 hl2 hv2 hv1 hl1 hg2 hcd hcd2 hg3 hDok hDv2 hDlen hDo3
 obtain ⟨top, htop, ht31⟩ := hDtop
 obtain ⟨hct, htb⟩ := sl_some hDs htop
 have HTOP := Lib.hid htop
 clear htop
 go_wp2_with fail
 go_step3
 go_wp2_with fail
 clear hd hdl hbd hi hz0 hz1 hz2 ha
 go_loopw [10] (fun ix wr => ∃ (k : Nat) (Q L : List Nat), k ≤ M ∧ ix = .int .i64 ((k : Int) - 1) ∧ wr.ownsRow w.heap.size 164 1 (.slice (some ⟨g1, 0, none⟩) (n + 1) (n + 1)) (n + 1) (u32s L) ∧ wr.ownsRow w.heap.size 164 1 (.slice (some ⟨g3, 0, none⟩) M M) M (u32s Q) ∧
   Sl wr (some ⟨g2, 0, none⟩) (m + 2) (m + 2 + 1) D ∧ Below w.heap.size w wr ∧ g3 < wr.heap.size ∧
   Hid (Lm.ok L ∧ Lm.ok Q ∧ L.length = n + 1 ∧ Q.length = M ∧ Lm.lv (L.drop k) < Dv ∧ L.take k = L0.take k ∧ Lm.lv (L0.drop k) = Dv * Lm.lv (Q.drop k) + Lm.lv (L.drop k)))
  (fun ix _ => (intOf ix + 1).toNat)
 case atStart =>
  exact ⟨M, List.replicate M 0, L0, Nat.le_refl _, rfl, hLo, hQo, hDs, hb13, (hQo.lt _ rfl).2, Lib.hid ⟨hok1, Lm.ok_zeros _, hL0l, List.length_replicate, HFL.out, rfl, by rw [show (List.replicate M (0 : Nat)).drop M = [] from List.drop_of_length_le (by simp)]; simp [Lm.lv]⟩⟩
 case round =>
  clear hLo hQo hDs hb13 hct
  obtain ⟨k, Q, L, hk, rfl, hLo, hQo, hDs, hb, hg3, HI⟩ := hrel
  by_cases h0 : k = 0
  ·subst h0
   have hl2 : (L.take (m + 2)).length = m + 2 := by rw [List.length_take, HI.out.2.2.1]; omega
   have hLc := own_cut (m := m + 2) hLo (by omega) HI.out.2.2.1
   have hokc := Lm.ok_take HI.out.1 (m + 2)
   have hvc : Hid (Lm.lv (L.take (m + 2)) = Lm.lv L ∧ Lm.lv L < Dv ∧ Lm.lv L0 = Dv * Lm.lv Q + Lm.lv L) := Lib.hid (by
    obtain ⟨_, _, i3, _, i5, _, i7⟩ := HI.out
    rw [List.drop_zero] at i5 i7
    rw [List.drop_zero, List.drop_zero] at i7
    refine ⟨?_, i5, i7⟩
    have h1 := Lm.lv_take_drop L (m + 2) (by omega)
    rw [drop_zero (Nat.lt_trans i5 H1.out.2.1) (by omega), Nat.mul_zero, Nat.add_zero] at h1
    exact h1.symm)
   obtain ⟨Lc, hLcd⟩ : ∃ Lc, L.take (m + 2) = Lc := ⟨_, rfl⟩
   rw [hLcd] at hl2 hLc hokc hvc
   have HIQ := Lib.hid HI.out.2.1
   have HIQ2 := Lib.hid HI.out.2.2.2.1
   clear hLo hLcd HI HTOP hDs
   go_wp2_with fail
   go_loopw [169] (fun ix wx => ∃ (k : Nat) (out : List Nat), k ≤ m + 2 ∧ ix = .int .i64 (k : Int) ∧ wx.ownsRow w.heap.size 164 1 (.slice (some ⟨g1, 0, none⟩) (m + 2) (n + 1)) (m + 2) (u32s out) ∧ wx.ownsRow w.heap.size 164 1 (.slice (some ⟨g3, 0, none⟩) M M) M (u32s Q) ∧
     Below w.heap.size w wx ∧ Hid (Lm.ok out ∧ out.length = m + 2 ∧ out.drop k = Lc.drop k ∧ Lm.lv (out.take k) + Lm.B ^ k * (Lm.lv (Lc.drop k) / 2 ^ s) = Lm.lv Lc / 2 ^ s))
    (fun ix _ => m + 2 - (intOf ix).toNat)
   case atStart =>
    exact ⟨0, Lc, Nat.zero_le _, rfl, hLc, hQo, hb, Lib.hid ⟨hokc, hl2, rfl, by simp [Lm.lv]⟩⟩
   case round =>
    clear hLc hQo hb
    obtain ⟨k, out, hk, rfl, y1, y2, y3, HO⟩ := hrel
    by_cases hkm : k = m + 2
    ·subst hkm
     have hkl : decide ((m + 2 : Int) < (m : Int) + 2) = false := decide_eq_false (by omega)
     go_wp2_with fail
     try rw [Exit.noGoto_ret]
     go_ret2
     have hE := quo_end (Nat.two_pow_pos s) H2.out (show Lm.lv a * 2 ^ s = Dv * Lm.lv Q + Lm.lv L by rw [← hvc.out.2.2]; exact H3.out.1.symm) hvc.out.2.1
     have hlo : Lm.lv out = Lm.lv L / 2 ^ s := by
      have h := HO.out.2.2.2
      rw [Lm.lv_take_ge _ _ (by rw [HO.out.2.1]; exact Nat.le_refl _), List.drop_of_length_le (by rw [hl2]; exact Nat.le_refl _), hvc.out.1] at h
      simpa [Lm.lv] using h
     rw [← hlo] at hE
     exact ⟨_, _, _, Q, _, _, _, out, rfl, Sl.of_own y2 (Nat.le_refl _) HIQ.out, Sl.of_own y1 (by omega) HO.out.1, hE.1, hE.2, by omega, by omega, Owns.two ⟨_, y2⟩ ⟨_, y1⟩ (fun g h1 h2 => by injection h1 with h1; injection h2 with h2; simp only at h1 h2; omega), y3⟩
    ·have hk1 : k < m + 2 := by omega
     have hio : k < out.length := by rw [HO.out.2.1]; omega
     have hco := own_at y1 hio
     have hf := y1.frozenAt k
     have hxo : out[k] < 4294967296 := Lm.ok_get HO.out.1 hio
     obtain ⟨x, hx⟩ : ∃ x, out[k] = x := ⟨_, rfl⟩
     rw [hx] at hco hxo
     have HX := Lib.hid hx
     have hk0 : (0 : Int) ≤ (k : Int) := Int.natCast_nonneg _
     have hk2 : (k : Int) < (m : Int) + 2 := by omega
     have hs0 : (0 : Int) ≤ (s : Int) := Int.natCast_nonneg _
     have hnl := next_limb (k := k) hokc
     by_cases hkt : k + 1 < m + 2
     ·have hkt' : (k : Int) + 1 < (m : Int) + 2 := by omega
      have hk3 : (0 : Int) ≤ (k : Int) + 1 := by omega
      have hi9 : ((k : Int) + 1).toNat = k + 1 := by omega
      have hio1 : k + 1 < out.length := by rw [HO.out.2.1]; omega
      have hch := own_at y1 hio1
      have hhb : out[k + 1] < 4294967296 := Lm.ok_get HO.out.1 hio1
      obtain ⟨h, hh⟩ : ∃ h, out[k + 1] = h := ⟨_, rfl⟩
      rw [hh] at hch hhb
      have hLh : Lc[k + 1]? = some h := by
       have e := congrArg (fun t : List Nat => t[1]?) HO.out.2.2.1
       simp only [List.getElem?_drop] at e
       rw [← e, List.getElem?_eq_getElem hio1, hh]
      rw [hLh] at hnl
      have HNL := Lib.hid hnl
      have hor := or_hi hhb hxo
      obtain ⟨r1, hr1⟩ : ∃ r1, h * 4294967296 + x = r1 := ⟨_, rfl⟩
      rw [hr1] at hor
      have HR1 := Lib.hid hr1
      have hrb : r1 ≤ 18446744073709551615 := by omega
      clear hr1 hx hh hLh hnl hkm hkt
      go_wp2_with fail
      obtain ⟨z1, z2, z3⟩ := two_l (i := k) y1 y2 y3 (Nat.lt_trans hg12 hz12) hg1 _ (r1 / 2 ^ s % 4294967296) (shr_cast r1 s)
      refine ⟨⟨k + 1, out.set k (r1 / 2 ^ s % 4294967296), hk1, congrArg (Value.int .i64) (by omega), z1, z2, z3, Lib.hid ⟨Lm.ok_set HO.out.1 (Nat.mod_lt _ (by decide)), by rw [List.length_set]; exact HO.out.2.1, ?_⟩⟩, ?_⟩
      ·exact down_row hs32 hk1 HO.out.2.1 hl2 hxo HO.out.2.2.1 HO.out.2.2.2 HX.out HNL.out.symm (by rw [← HR1.out]; rfl)
      ·simp [intOf] <;> omega
     ·have hkt' : decide ((k : Int) + 1 < (m : Int) + 2) = false := decide_eq_false (by omega)
      rw [List.getElem?_eq_none (by omega)] at hnl
      have HNL := Lib.hid hnl
      have hor := or_hi (h := 0) (by decide) hxo
      rw [show (((0 : Nat) : Int) * 4294967296) = 0 by decide, Nat.zero_mul, Nat.zero_add] at hor
      clear hx hnl hkm hkt
      go_wp2_with fail
      obtain ⟨z1, z2, z3⟩ := two_l (i := k) y1 y2 y3 (Nat.lt_trans hg12 hz12) hg1 _ (x / 2 ^ s % 4294967296) (shr_cast x s)
      refine ⟨⟨k + 1, out.set k (x / 2 ^ s % 4294967296), hk1, congrArg (Value.int .i64) (by omega), z1, z2, z3, Lib.hid ⟨Lm.ok_set HO.out.1 (Nat.mod_lt _ (by decide)), by rw [List.length_set]; exact HO.out.2.1, ?_⟩⟩, ?_⟩
      ·exact down_row (h := 0) hs32 hk1 HO.out.2.1 hl2 hxo HO.out.2.2.1 HO.out.2.2.2 HX.out HNL.out.symm (by rw [Nat.zero_mul, Nat.zero_add])
      ·simp [intOf] <;> omega
  ·obtain ⟨i, rfl⟩ : ∃ i, k = i + 1 := ⟨k - 1, by omega⟩
   clear h0
   have hiM : i + 1 ≤ M := hk
   have hN : i + m + 3 ≤ n + 1 := by have := HMN.out; omega
   have e1 : ((i + 1 : Nat) : Int) - 1 = (i : Int) := by omega
   rw [e1]
   clear e1
   have hi0 : (0 : Int) ≤ (i : Int) := Int.natCast_nonneg _
   obtain ⟨i1, i2, i3, i4, i5, i6, i7⟩ := HI.out
   have hsub : i + (m + 2) + 1 - i = m + 2 + 1 := by omega
   have hi7 : ((i : Int) + ((m : Int) + 2)).toNat = i + (m + 2) := by omega
   -- the window's greatest limbs, the divisor's
   obtain ⟨x2, hx2⟩ : ∃ x, L[i + (m + 2)]? = some x := ⟨_, List.getElem?_eq_getElem (by omega)⟩
   obtain ⟨x1, hx1⟩ : ∃ x, L[i + (m + 1)]? = some x := ⟨_, List.getElem?_eq_getElem (by omega)⟩
   obtain ⟨x0, hx0⟩ : ∃ x, L[i + m]? = some x := ⟨_, List.getElem?_eq_getElem (by omega)⟩
   obtain ⟨d2, hd2⟩ : ∃ x, D[m]? = some x := ⟨_, List.getElem?_eq_getElem (by have := H1.out.2.2.2; omega)⟩
   have c2 := own_some hLo hx2
   have c1 := own_some hLo hx1
   have c0 := own_some hLo hx0
   obtain ⟨ct, _⟩ := sl_some hDs HTOP.out
   obtain ⟨cd2, hd2b⟩ := sl_some hDs hd2
   have hx2b : x2 < 4294967296 := by obtain ⟨h, rfl⟩ := List.getElem?_eq_some_iff.1 hx2; exact Lm.ok_get i1 h
   have hx1b : x1 < 4294967296 := by obtain ⟨h, rfl⟩ := List.getElem?_eq_some_iff.1 hx1; exact Lm.ok_get i1 h
   have hx0b : x0 < 4294967296 := by obtain ⟨h, rfl⟩ := List.getElem?_eq_some_iff.1 hx0; exact Lm.ok_get i1 h
   obtain ⟨head, hhd⟩ : ∃ h, x2 * 4294967296 + x1 = h := ⟨_, rfl⟩
   have hor9 := or_hi hx2b hx1b
   rw [hhd] at hor9
   have hheadb : head < 18446744073709551616 := by omega
   obtain ⟨P, hP⟩ : ∃ P, Lm.lv ((L.drop i).take (m + 3)) = P := ⟨_, rfl⟩
   have HW := Lib.hid (window_all (i := i) (m := m + 1) (by omega) (Nat.lt_trans i5 H1.out.2.1))
   obtain ⟨P0, p1, p2⟩ := window_top (i := i) (m := m) i1 (by omega)
   obtain ⟨D0', q1, q2⟩ := div_top H1.out.2.2.1 H1.out.2.2.2
   obtain ⟨K, hK⟩ : ∃ K, Lm.B ^ m = K := ⟨_, rfl⟩
   have hLi : L[i]? = some (L[i]'(by omega)) := List.getElem?_eq_getElem (by omega)
   have hPP : P = (head * 4294967296 + x0) * K + P0 := by
    have g2' : L[i + m + 2]'(by omega) = x2 := by
     obtain ⟨h, e⟩ := List.getElem?_eq_some_iff.1 hx2
     exact e
    have g1' : L[i + m + 1]'(by omega) = x1 := by
     obtain ⟨h, e⟩ := List.getElem?_eq_some_iff.1 hx1
     exact e
    have g0' : L[i + m]'(by omega) = x0 := by
     obtain ⟨h, e⟩ := List.getElem?_eq_some_iff.1 hx0
     exact e
    rw [← hP, p2, g2', g1', g0', hK, B_eq, hhd]
   have hDD : Dv = (top * 4294967296 + d2) * K + D0' := by
    have g1' : D[m + 1]'(by have := H1.out.2.2.2; omega) = top := by
     obtain ⟨h, e⟩ := List.getElem?_eq_some_iff.1 HTOP.out
     exact e
    have g0' : D[m]'(by have := H1.out.2.2.2; omega) = d2 := by
     obtain ⟨h, e⟩ := List.getElem?_eq_some_iff.1 hd2
     exact e
    rw [← H1.out.1, q2, g1', g0', hK, B_eq]
   rw [hK] at p1 q1
   have hPv : P = Lm.lv (L.drop i) := by rw [← hP]; exact HW.out.1
   have hPB : P < 4294967296 * Dv := by
    have a1 := HW.out.2.1
    have a2 : L[i]'(by omega) < 4294967296 := Lm.ok_get i1 _
    rw [hPv, a1, B_eq]
    have a3 : 4294967296 * (Lm.lv (L.drop (i + 1)) + 1) ≤ 4294967296 * Dv := Nat.mul_le_mul_left _ i5
    omega
   obtain ⟨r1, r2⟩ := round_facts hPP hDD q1 hd2b hPB
   have ht0 : 0 < top := by omega
   have HGF := Lib.hid (guess_first hDD hPP p1 hx0b ht0)
   have HGL : Hid (∀ g r, Guess (P / Dv) head top g r → (4294967296 ≤ g ∨ r * 4294967296 + x0 < g * d2) → 1 ≤ g ∧ Guess (P / Dv) head top (g - 1) (r + top)) := Lib.hid (fun g r h ht => guess_less hDD hPP p1 r1 h ht)
   have HGE : Hid (∀ g r, Guess (P / Dv) head top g r → ((g < 4294967296 ∧ g * d2 ≤ r * 4294967296 + x0) ∨ 4294967296 ≤ r) → g < 4294967296 ∧ P / Dv ≤ g ∧ g ≤ P / Dv + 1) := Lib.hid (fun g r h hx => guess_end hDD q1 hPP ht0 r2 hd2b h hx)
   obtain ⟨li, hli⟩ : ∃ x, L[i]? = some x := ⟨_, hLi⟩
   have HPV : Hid (L[i]? = some li ∧ P = li + 4294967296 * Lm.lv (L.drop (i + 1)) ∧ P = Lm.lv (L.drop i) ∧ Lm.lv (L.drop (i + (m + 2) + 1)) = 0 ∧ P / Dv < 4294967296) := Lib.hid ⟨hli, by rw [hPv, HW.out.2.1, B_eq, (List.getElem?_eq_some_iff.1 hli).2], hPv, HW.out.2.2, r1⟩
   have HPW := Lib.hid hP
   have HX0 := Lib.hid hx0
   have HD2 := Lib.hid hd2
   have hg0 : head / top ≤ 8589934592 := by
    have a1 : head / top ≤ head / 2147483648 := Nat.div_le_div_left ht31 (by decide)
    omega
   have hr0 : head % top < top := Nat.mod_lt _ ht0
   have hi8 : ((m : Int) + 2 - 1).toNat = m + 1 := by omega
   have hi9 : ((m : Int) + 2 - 2).toNat = m := by omega
   have hi10 : (0 : Int) ≤ (m : Int) := Int.natCast_nonneg _
   have hi11 : (m : Int) < (m : Int) + 2 + 1 := by omega
   have hi12 : (m : Int) + 2 < (m : Int) + 2 + 1 := by omega
   have ht1 : ¬ (top : Int) = 0 := by omega
   obtain ⟨G0, hG0⟩ : ∃ G, head / top = G := ⟨_, rfl⟩
   obtain ⟨R0, hR0⟩ : ∃ R, head % top = R := ⟨_, rfl⟩
   have HQ9 : Hid ((head : Int) / (top : Int) = (G0 : Int)) := Lib.hid (by rw [← hG0]; exact (Int.natCast_ediv _ _).symm)
   have HR9 : Hid ((head : Int) % (top : Int) = (R0 : Int)) := Lib.hid (by rw [← hR0]; exact (Int.natCast_emod _ _).symm)
   rw [hG0] at hg0 HGF
   rw [hR0] at hr0 HGF
   have hq0 : 0 ≤ (head : Int) / (top : Int) := by rw [HQ9.out]; exact Int.natCast_nonneg _
   have hq1 : (head : Int) / (top : Int) ≤ 18446744073709551615 := by rw [HQ9.out]; omega
   have hrr0 : 0 ≤ (head : Int) % (top : Int) := by rw [HR9.out]; exact Int.natCast_nonneg _
   have hrr1 : (head : Int) % (top : Int) ≤ 18446744073709551615 := by rw [HR9.out]; omega
   clear hG0 hR0
   clear hx2 hx1 hx0 hd2 hP hPP hDD hPv hPB p1 p2 q1 q2 hK hhd r1 r2 hli hLi HW i1 i2 i3 i4 i5 i6 i7
   go_wp2_with fail
   go_quiet (fail)
   go_wp2_with fail
   go_quiet (fail)
   rw [HQ9.out, HR9.out]
   clear hq0 hq1 hrr0 hrr1
   obtain ⟨W, hW⟩ : ∃ W, W = wr := ⟨_, rfl⟩
   rw [← hW] at hLo hQo hDs hb hg3
   have hbw0 : ∀ a b, Below W.heap.size W ((wr.drewN a).drewN b) := fun a b => by rw [← hW]; exact below_drewN (below_drewN (Below.refl _ _) _) _
   clear hW
   go_upto_block 2 with fail
   go_cut [13, 14] from 54 to 162 (fun s13 s14 wx => ∃ G : Nat, s13 = .int .u64 (G : Int) ∧ Hid (G < 4294967296 ∧ P / Dv ≤ G ∧ G ≤ P / Dv + 1) ∧ Below W.heap.size W wx)
   case first =>
    go_wp2_with fail
    go_loopw [13, 14] (fun gg rr wx => ∃ G R : Nat, G ≤ 8589934592 ∧ R < 4294967296 ∧ gg = .int .u64 (G : Int) ∧ rr = .int .u64 (R : Int) ∧ Hid (Guess (P / Dv) head top G R) ∧ Below W.heap.size W wx)
     (fun gg _ _ => (intOf gg).toNat)
    case atStart => exact ⟨G0, R0, hg0, by omega, rfl, rfl, HGF, hbw0 _ _⟩
    case round =>
     clear c0 c1 c2 ct cd2
     obtain ⟨G, R, hG, hR, rfl, rfl, HG, hbx⟩ := hrel
     have hLx := own_kept hLo hbx
     have hDx := hDs.below hbx
     have c0 := own_some hLx HX0.out
     obtain ⟨cd2, _⟩ := sl_some hDx HD2.out
     have hor := or_hi hR hx0b
     obtain ⟨r1, hr1⟩ : ∃ r1, R * 4294967296 + x0 = r1 := ⟨_, rfl⟩
     rw [hr1] at hor
     have HR1 := Lib.hid hr1
     clear hr1
     by_cases ht : 4294967296 ≤ G ∨ r1 < G * d2
     ·obtain ⟨hG1, HG'⟩ := HGL.out G R HG.out (by rw [HR1.out]; exact ht)
      have HG' := Lib.hid HG'
      have h1 : (0 : Int) ≤ (G : Int) - 1 := by omega
      have h2 : (R : Int) + (top : Int) ≤ 18446744073709551615 := by omega
      have h3 : (0 : Int) ≤ (R : Int) + (top : Int) := by omega
      have hGm : ((G - 1 : Nat) : Int) = (G : Int) - 1 := by omega
      by_cases hbr : 4294967296 ≤ R + top
      ·have hbi : (4294967296 : Int) ≤ (R : Int) + (top : Int) := by omega
       have HEND := Lib.hid (HGE.out (G - 1) (R + top) HG'.out (.inr hbr))
       by_cases hbig : 4294967296 ≤ G
       ·have hbg : (4294967296 : Int) ≤ (G : Int) := by omega
        clear ht hbr hbig
        go_wp2_with fail
        go_quiet (fail)
        go_wp2_with fail
        go_meet
        exact ⟨G - 1, by rw [hGm], HEND, below_drewN hbx _⟩
       ·have hbg : decide ((4294967296 : Int) ≤ (G : Int)) = false := decide_eq_false (by omega)
        have hmul : r1 < G * d2 := ht.resolve_left hbig
        have HM := mul_in (show G < 4294967296 by omega) hd2b
        obtain ⟨p, hp⟩ : ∃ p, G * d2 = p := ⟨_, rfl⟩
        rw [hp] at HM hmul
        have hml : (r1 : Int) < (p : Int) := by omega
        clear ht hbr hbig hmul hp
        go_wp2_with fail
        go_quiet (fail)
        go_wp2_with fail
        go_meet
        exact ⟨G - 1, by rw [hGm], HEND, below_drewN hbx _⟩
      ·have hbi : decide ((4294967296 : Int) ≤ (R : Int) + (top : Int)) = false := decide_eq_false (by omega)
       by_cases hbig : 4294967296 ≤ G
       ·have hbg : (4294967296 : Int) ≤ (G : Int) := by omega
        clear ht hbig
        go_wp2_with fail
        go_quiet (fail)
        go_wp2_with fail
        go_roundw
        case rel => exact ⟨G - 1, R + top, by omega, by omega, by rw [hGm], rfl, HG', below_drewN hbx _⟩
        case measure => simp [intOf]; omega
       ·have hbg : decide ((4294967296 : Int) ≤ (G : Int)) = false := decide_eq_false (by omega)
        have hmul : r1 < G * d2 := ht.resolve_left hbig
        have HM := mul_in (show G < 4294967296 by omega) hd2b
        obtain ⟨p, hp⟩ : ∃ p, G * d2 = p := ⟨_, rfl⟩
        rw [hp] at HM hmul
        have hml : (r1 : Int) < (p : Int) := by omega
        clear ht hbig hmul hp
        go_wp2_with fail
        go_quiet (fail)
        go_wp2_with fail
        go_roundw
        case rel => exact ⟨G - 1, R + top, by omega, by omega, by rw [hGm], rfl, HG', below_drewN hbx _⟩
        case measure => simp [intOf]; omega
     ·have hbig : ¬ 4294967296 ≤ G := fun h => ht (.inl h)
      have hmul : ¬ r1 < G * d2 := fun h => ht (.inr h)
      have HEND := Lib.hid (HGE.out G R HG.out (.inl ⟨by omega, by rw [HR1.out]; omega⟩))
      have hbg : decide ((4294967296 : Int) ≤ (G : Int)) = false := decide_eq_false (by omega)
      have HM := mul_in (show G < 4294967296 by omega) hd2b
      obtain ⟨p, hp⟩ : ∃ p, G * d2 = p := ⟨_, rfl⟩
      rw [hp] at HM hmul
      have hml : decide (r1 < p) = false := decide_eq_false (by omega)
      clear ht hbig hmul hp
      go_wp2_with fail
      go_quiet (fail)
      go_wp2_with fail
      go_meet
      exact ⟨G, rfl, HEND, below_drewN hbx _⟩
   case rest =>
    obtain ⟨G, rfl, HQ, hbx⟩ := hcut
    have hLx := own_kept hLo hbx
    have hQx := own_kept hQo hbx
    have hDx := hDs.below hbx
    have hwx := below_next hb hbx
    have hgx : g3 < wc.heap.size := Nat.lt_of_lt_of_le hg3 hbx.size
    have hGb : (G : Int) ≤ 4294967295 := by have := HQ.out.1; omega
    have hG0 : (0 : Int) ≤ (G : Int) := Int.natCast_nonneg _
    have hD0 : Hid (0 < Dv) := Lib.hid (Nat.lt_of_le_of_lt (Nat.zero_le _) HI.out.2.2.2.2.1)
    clear hLo hQo hDs hbx hb hg3 hbw0 c0 c1 c2 ct cd2
    go_wp2_with fail
    refine (ex_less_of w.heap.size g1 (n + 1) i (m + 2) (n + 1 - i) G _ _ _ L D wc hLx HI.out.1 hDx (fun ad e => by injection e with e; subst e; exact Nat.ne_of_gt hg12) (by omega) (by omega) HQ.out.1 rfl).mono ?_
    rintro e1 w1 ⟨L1, t, rfl, hL1, hok1', hl1, hdr1, htk1, hv1, hgr⟩
    have hQ1 := hQx.kept hgr (.inr (by simp [Value.ownBlock]; omega))
    have hD1 := sl_grown hDx hgr (fun ad e => by injection e with e; subst e; exact Nat.ne_of_gt hg12)
    have hw1 := hwx.grown hgr hwx.size (fun k e => by injection e with e; subst e; exact hg1)
    have hgx1 : g3 < w1.heap.size := Nat.lt_of_lt_of_le hgx hgr.size
    have hHL := Lib.hid (less_end rfl (by rw [HPW.out, H1.out.1] at hv1; exact hv1) (by exact lv_take_lt (Lm.ok_drop hok1' i) (by rw [List.length_drop]; omega)) HQ.out.2.1 HQ.out.2.2 hD0.out)
    clear hLx hQx hDx hwx hgx hgr hv1
    cases t
    ·obtain ⟨hG, hW⟩ := hHL.out.1 rfl
     have hHN := Lib.hid (round_next (by omega) hl1 (by have := H3.out.2; omega) (by have := HI.out.2.2.2.1; omega) hD0.out hW hdr1 htk1 HPV.out.1 HPV.out.2.1 HPV.out.2.2.2.1 hG HI.out.2.2.2.2.2.1 HI.out.2.2.2.2.2.2)
     have hqi : i < Q.length := by have := HI.out.2.2.2.1; omega
     have hcq := own_at hQ1 hqi
     have hfq := hQ1.frozenAt i
     have hiM' : (i : Int) < (M : Int) := by omega
     clear hW hdr1 htk1 hHL hG
     go_wp2_with fail
     obtain ⟨z1, z2, z3, z4, z5⟩ := three_q (i := i) hL1 hQ1 hD1 hw1 hgx1 hg12 hz12 hg1 (G : Int) G rfl
     refine ⟨⟨i, Q.set i G, L1, by omega, rfl, z1, z2, z3, z4, z5, Lib.hid ⟨hok1', Lm.ok_set HI.out.2.1 HQ.out.1, hl1, by rw [List.length_set]; exact HI.out.2.2.2.1, hHN.out⟩⟩, ?_⟩
     simp [intOf] <;> omega
    ·obtain ⟨hG, hW⟩ := hHL.out.2 rfl
     have hqi : i < Q.length := by have := HI.out.2.2.2.1; omega
     have hcq := own_at hQ1 hqi
     have hfq := hQ1.frozenAt i
     have hiM' : (i : Int) < (M : Int) := by omega
     have hG01 : 1 ≤ G := by rw [hG]; exact Nat.succ_le_succ (Nat.zero_le _)
     have hG1 : (0 : Int) ≤ (G : Int) - 1 := by omega
     have hG2 : (G : Int) - 1 ≤ 4294967295 := by omega
     have HGW := Lib.hid (And.intro hG hW)
     clear hW hHL hG
     go_wp2_with fail
     obtain ⟨z1, z2, z3, z4, z5⟩ := three_q (i := i) hL1 hQ1 hD1 hw1 hgx1 hg12 hz12 hg1 ((G : Int) - 1) (G - 1) (by omega)
     clear hL1 hQ1 hD1 hw1 hgx1
     generalize w1.setCell ⟨g3, i, none⟩ (.int .u32 ((G : Int) - 1)) = W2 at *
     go_loopw [15, 136] (fun cc ix wx => ∃ (k c : Nat) (out : List Nat), k ≤ m + 2 ∧ c ≤ 1 ∧ cc = .int .u32 (c : Int) ∧ ix = .int .i64 (k : Int) ∧ wx.ownsRow w.heap.size 164 1 (.slice (some ⟨g1, 0, none⟩) (n + 1) (n + 1)) (n + 1) (u32s out) ∧ wx.ownsRow w.heap.size 164 1 (.slice (some ⟨g3, 0, none⟩) M M) M (u32s (Q.set i (G - 1))) ∧
       Sl wx (some ⟨g2, 0, none⟩) (m + 2) (m + 2 + 1) D ∧ Below w.heap.size w wx ∧ g3 < wx.heap.size ∧ Hid (Lm.ok out ∧ out.length = n + 1 ∧ out.drop (i + k) = L1.drop (i + k) ∧ out.take i = L1.take i ∧ Lm.lv ((out.drop i).take k) + Lm.B ^ k * c = Lm.lv ((L1.drop i).take k) + Lm.lv (D.take k)))
      (fun _ ix _ => m + 2 - (intOf ix).toNat)
     case atStart => exact ⟨0, 0, L1, Nat.zero_le _, by decide, rfl, rfl, z1, z2, z3, z4, z5, Lib.hid ⟨hok1', hl1, rfl, rfl, by simp [Lm.lv]⟩⟩
     case round =>
      clear z1 z2 z3 z4 z5 hcq hfq
      obtain ⟨k, c, out, hk, hc, rfl, rfl, y1, y2, y3, y4, y5, HO⟩ := hrel
      have hio : i + k < out.length := by rw [HO.out.2.1]; omega
      have hco := own_at y1 hio
      have hf := y1.frozenAt (i + k)
      have hxo : out[i + k] < 4294967296 := Lm.ok_get HO.out.1 hio
      obtain ⟨x, hx⟩ : ∃ x, out[i + k] = x := ⟨_, rfl⟩
      rw [hx] at hco hxo
      have hk0 : (0 : Int) ≤ (k : Int) := Int.natCast_nonneg _
      have hc0 : (0 : Int) ≤ (c : Int) := Int.natCast_nonneg _
      have hx0' : (0 : Int) ≤ (x : Int) := Int.natCast_nonneg _
      by_cases hkm : k = m + 2
      ·subst hkm
       have hkl : decide ((m + 2 : Int) < (m : Int) + 2) = false := decide_eq_false (by omega)
       have hHB := Lib.hid (back_end (x := x) (r := P % Dv) hN hl1 HO.out.2.1 (by
        have h := congrArg (fun t : List Nat => t[0]?) HO.out.2.2.1
        simp only [List.getElem?_drop, Nat.add_zero] at h
        rw [← h, List.getElem?_eq_getElem hio, hx]) HO.out.1 H1.out.2.2.2 H1.out.1 H1.out.2.1 (Nat.mod_lt _ hD0.out) HO.out.2.2.1 HO.out.2.2.2.2 HGW.out.2)
       have hcx : (x : Int) + (c : Int) = 4294967296 := by have := hHB.out.1; omega
       have hmm : (m : Int) + 2 < (m : Int) + 2 + 1 := by omega
       clear hx
       go_wp2_with fail
       obtain ⟨z1, z2, z3, z4, z5⟩ := three_l (i := i + (m + 2)) y1 y2 y3 y4 y5 hg12 hz12 hg1 0 0 rfl
       have hHN := Lib.hid (round_next (Q := Q) (L1 := out.set (i + (m + 2)) 0) (by omega) (by rw [List.length_set]; exact HO.out.2.1) (by have := H3.out.2; omega) (by have := HI.out.2.2.2.1; omega) hD0.out hHB.out.2 (by
        rw [List.drop_set_of_lt (by omega), ← hdr1]
        have h := congrArg (List.drop 1) HO.out.2.2.1
        rw [List.drop_drop, List.drop_drop] at h
        exact h) (by rw [List.take_set_of_le (by omega), HO.out.2.2.2.1, htk1]) HPV.out.1 HPV.out.2.1 HPV.out.2.2.2.1 (show G - 1 = P / Dv by rw [HGW.out.1]; rfl) HI.out.2.2.2.2.2.1 HI.out.2.2.2.2.2.2)
       refine ⟨⟨i, Q.set i (G - 1), out.set (i + (m + 2)) 0, by omega, rfl, z1, z2, z3, z4, z5, Lib.hid ⟨Lm.ok_set HO.out.1 (by decide), Lm.ok_set HI.out.2.1 (Nat.lt_of_le_of_lt (Nat.sub_le _ _) HQ.out.1), by rw [List.length_set]; exact HO.out.2.1, by rw [List.length_set]; exact HI.out.2.2.2.1, hHN.out⟩⟩, ?_⟩
       simp [intOf] <;> omega
      ·have hk1 : k < m + 2 := by omega
       obtain ⟨v, hv⟩ : ∃ v, D[k]? = some v := ⟨_, List.getElem?_eq_getElem (by have := H1.out.2.2.2; omega)⟩
       obtain ⟨hcd, hvb⟩ := sl_some y3 hv
       have hk2 : (k : Int) < (m : Int) + 2 := by omega
       have hk3 : (k : Int) < (m : Int) + 2 + 1 := by omega
       have HX := Lib.hid hx
       have HV := Lib.hid hv
       clear hx hv hkm
       go_wp2_with fail
       refine (add32_any x v c hxo hvb hc _).mono ?_
       rintro e2 w2' ⟨rfl, rfl⟩
       obtain ⟨Y, hY⟩ : ∃ Y, (x + v + c) % 4294967296 = Y := ⟨_, rfl⟩
       obtain ⟨C, hC⟩ : ∃ C, (x + v + c) / 4294967296 = C := ⟨_, rfl⟩
       have hYC : Y + 4294967296 * C = x + v + c := by omega
       have hYb : Y < 4294967296 := by omega
       have hCb : C ≤ 1 := by omega
       rw [hY, hC]
       have HYC := Lib.hid hYC
       clear hY hC hYC
       go_wp2_with fail
       obtain ⟨z1, z2, z3, z4, z5⟩ := three_l (i := i + k) y1 y2 y3 y4 y5 hg12 hz12 hg1 (Y : Int) Y rfl
       refine ⟨⟨k + 1, C, out.set (i + k) Y, hk1, hCb, rfl, congrArg (Value.int .i64) (by omega), z1, z2, z3, z4, z5, Lib.hid ⟨Lm.ok_set HO.out.1 hYb, by rw [List.length_set]; exact HO.out.2.1, ?_⟩⟩, ?_⟩
       ·exact row_add hio (by rw [HO.out.2.1, hl1]) (by rw [H1.out.2.2.2]; exact hk1) HO.out.2.2.1 HO.out.2.2.2.1 HO.out.2.2.2.2 HX.out (List.getElem?_eq_some_iff.1 HV.out).2 HYC.out
       ·simp [intOf] <;> omega
end Go.Proofs.YtgekmbfmfiikkaaGreatDoor
