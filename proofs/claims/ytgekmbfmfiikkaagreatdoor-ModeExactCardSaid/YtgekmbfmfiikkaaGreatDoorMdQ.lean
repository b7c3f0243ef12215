/-
  What is told of any matrix as a cavity, by both sides.
-/
import Derived.Test.YtgekmbfmfiikkaaGreatDoorMdF
import Derived.Test.YtgekmbfmfiikkaaGreatDoorMdD
import Derived.Test.YtgekmbfmfiikkaaGreatDoorMdE
import Derived.Test.YtgekmbfmfiikkaaGreatDoorMdB
import Derived.Test.YtgekmbfmfiikkaaGreatDoorMdP
import Derived.Test.YtgekmbfmfiikkaaGreatDoorMdM
import Derived.Test.YtgekmbfmfiikkaaGreatDoorRtB
import Derived.Test.YtgekmbfmfiikkaaGreatDoorRlB
import Derived.Test.YtgekmbfmfiikkaaGreatDoorMaR
namespace Go.Proofs.YtgekmbfmfiikkaaGreatDoor
open Go.RowKit

theorem zero_bigM {k : Nat} : (0 : Int).natAbs < 2 ^ k := Nat.two_pow_pos k
theorem ans_exM (r : Rat) (M : Nat) (hM : M = 2048) : ∃ x y v, AnsOf r x y v ∧ x.natAbs < 2 ^ (32 * M) ∧ y.natAbs < 2 ^ (32 * M) := by
 by_cases h : Sz r 2048
 ·have k : Sz r M := h.mono (by omega)
  exact ⟨r.num, (r.den : Int), 0, .inl ⟨h, rfl, rfl, rfl⟩, k.1, by rw [Int.natAbs_natCast]; exact k.2⟩
 ·exact ⟨0, 0, 4, .inr ⟨h, rfl, rfl, rfl⟩, zero_bigM, zero_bigM⟩

theorem owns_none2 (B n0 : Nat) (oy : List OwnAt) (w : World) : Owns B w [(none, 0, 0), (none, 0, 0)] ∧ OneOf n0 oy [(none, 0, 0), (none, 0, 0)] :=
 ⟨owns_nil2 _ _, oneOf_new (fun _ hg => by cases hg) (fun _ hg => by cases hg)⟩
/-- What mode.Depth asks of a stable cavity. -/
theorem ask_depth (V re : Rat) (x y v : Int) (hV : Sz V 100000) (ha : AnsOf V x y v) : Hid (∀ (W : World) (sv : Bool) (Av : Option Addr) (nv cv : Nat) (zv : Bool) (Bv : Option Addr) (mv dv : Nat) (sr : Bool) (Ar : Option Addr) (nr cr : Nat) (zr : Bool) (Br : Option Addr) (mr dr : Nat), IsInt W sv Av nv cv V.num → IsInt W zv Bv mv dv (V.den : Int) → IsInt W sr Ar nr cr re.num → IsInt W zr Br mr dr (re.den : Int) → Calls Tryz.prog 117 #[.agg #[.bool sv, .slice Av nv cv, .bool zv, .slice Bv mv dv], .agg #[.bool sr, .slice Ar nr cr, .bool zr, .slice Br mr dr]] W (RetD1 W [(Av, nv, cv), (Bv, mv, dv)] x y v)) := by
 refine Lib.hid ?_
 intro W sv Av nv cv zv Bv mv dv sr Ar nr cr zr Br mr dr I J _ _
 have h1 := int_len I hV.1
 have h2 := int_len J hV.2
 have I0 := I
 have J0 := J
 obtain ⟨lv, S1, _⟩ := I0
 obtain ⟨kv, S2, _⟩ := J0
 have ox : LmE.at_ W ((sv, Av, nv, cv, lv), (zv, Bv, mv, dv, kv)) := ⟨S1, S2, by show nv ≤ _; omega, by show mv ≤ _; omega⟩
 rcases ha with ⟨hs, rfl, rfl, rfl⟩ | ⟨hs, rfl, rfl, rfl⟩
 ·have hb : lgB ((sv, Av, nv, cv, lv), (zv, Bv, mv, dv, kv)) = false := by unfold lgB; have e1 := int_len I hs.1; have e2 := int_len J hs.2; simp only [Bool.or_eq_false_iff, decide_eq_false_iff_not]; omega
  refine (depth1_no sv Av nv cv lv zv Bv mv dv kv sr Ar nr cr zr Br mr dr W ox (Lib.hid hb)).mono ?_
  rintro e w' ⟨rfl, hb⟩
  exact ⟨sv, Av, nv, cv, zv, Bv, mv, dv, rfl, I.below hb, J.below hb, fun B _ O => ⟨O.below hb, oneOf_same _ _⟩, hb⟩
 ·refine (depth1_yes sv Av nv cv lv zv Bv mv dv kv sr Ar nr cr zr Br mr dr W ox (Lib.hid (lg_of I J hs))).mono ?_
  rintro e w' ⟨rfl, hb⟩
  exact ⟨false, none, 0, 0, false, none, 0, 0, rfl, isInt_nought, isInt_nought, fun B _ _ => owns_none2 _ _ _ _, hb⟩
/-- What mode.Exact tells of a stable cavity: a root that is none, that is short, that is long. -/
def AnsX (V re : Rat) (M k1 k2 : Nat) (x y x' y' v : Int) (is : Bool) : Prop :=
 ((decide (k1 * k1 = V.num.natAbs) && decide (k2 * k2 = V.den)) = false ∧ x = 0 ∧ y = 0 ∧ x' = 0 ∧ y' = 0 ∧ v = 0 ∧ is = false) ∨
 ((decide (k1 * k1 = V.num.natAbs) && decide (k2 * k2 = V.den)) = true ∧ (Sz re M ∧ k1 < 2 ^ (32 * M) ∧ k2 < 2 ^ (32 * M)) ∧ x = re.num ∧ y = (re.den : Int) ∧ x' = (k1 : Int) ∧ y' = (k2 : Int) ∧ v = 0 ∧ is = true) ∨
 ((decide (k1 * k1 = V.num.natAbs) && decide (k2 * k2 = V.den)) = true ∧ ¬ (Sz re M ∧ k1 < 2 ^ (32 * M) ∧ k2 < 2 ^ (32 * M)) ∧ x = 0 ∧ y = 0 ∧ x' = 0 ∧ y' = 0 ∧ v = 4 ∧ is = false)
theorem ansX_ex (V re : Rat) (M k1 k2 : Nat) : ∃ x y x' y' v is, AnsX V re M k1 k2 x y x' y' v is ∧ x.natAbs < 2 ^ (32 * M) ∧ y.natAbs < 2 ^ (32 * M) ∧ x'.natAbs < 2 ^ (32 * M) ∧ y'.natAbs < 2 ^ (32 * M) := by
 cases hs : (decide (k1 * k1 = V.num.natAbs) && decide (k2 * k2 = V.den))
 ·exact ⟨0, 0, 0, 0, 0, false, .inl ⟨hs, rfl, rfl, rfl, rfl, rfl, rfl⟩, zero_bigM, zero_bigM, zero_bigM, zero_bigM⟩
 ·by_cases h : Sz re M ∧ k1 < 2 ^ (32 * M) ∧ k2 < 2 ^ (32 * M)
  ·exact ⟨re.num, (re.den : Int), (k1 : Int), (k2 : Int), 0, true, .inr (.inl ⟨hs, h, rfl, rfl, rfl, rfl, rfl, rfl⟩), h.1.1, by rw [Int.natAbs_natCast]; exact h.1.2, by rw [Int.natAbs_natCast]; exact h.2.1, by rw [Int.natAbs_natCast]; exact h.2.2⟩
  ·exact ⟨0, 0, 0, 0, 4, false, .inr (.inr ⟨hs, h, rfl, rfl, rfl, rfl, rfl, rfl⟩), zero_bigM, zero_bigM, zero_bigM, zero_bigM⟩
/-- What mode.Exact asks of a stable cavity. -/
theorem ask_exact (V re : Rat) (M : Nat) (hM : M = 2048) (k1 k2 gi : Nat) (x y x' y' v : Int) (is : Bool) (h0 : 0 < V) (hV : Sz V 100000) (hr : Sz re 100000) (h1 : IsRt V.num.natAbs k1) (h2 : IsRt V.den k2) (ha : AnsX V re M k1 k2 x y x' y' v is) : Hid (∀ (W : World) (sv : Bool) (Av : Option Addr) (nv cv : Nat) (zv : Bool) (Bv : Option Addr) (mv dv : Nat) (sr : Bool) (Ar : Option Addr) (nr cr : Nat) (zr : Bool) (Br : Option Addr) (mr dr : Nat), IsInt W sv Av nv cv V.num → IsInt W zv Bv mv dv (V.den : Int) → IsInt W sr Ar nr cr re.num → IsInt W zr Br mr dr (re.den : Int) → W.cell? ⟨gi, 0, none⟩ = some (.bool false) → W.frozen? ⟨gi, 0, none⟩ = false → gi < W.heap.size → Calls Tryz.prog 112 #[.agg #[.bool sv, .slice Av nv cv, .bool zv, .slice Bv mv dv], .agg #[.bool sr, .slice Ar nr cr, .bool zr, .slice Br mr dr], .pointer (some ⟨gi, 0, none⟩)] W (RetE1 W gi [(Ar, nr, cr), (Br, mr, dr)] x y x' y' v is)) := by
 refine Lib.hid ?_
 intro W sv Av nv cv zv Bv mv dv sr Ar nr cr zr Br mr dr I J Ir Jr hgc hgf hgi
 have hp : 0 < V.num := Int.sign_eq_one_iff_pos.1 ((rat_num_sign _).1 h0)
 have hX : ((V.num.natAbs : Nat) : Int) = V.num := Int.natAbs_of_nonneg (Int.le_of_lt hp)
 have n1 := int_len I hV.1
 have n2 := int_len J hV.2
 have n3 := int_len Ir hr.1
 have n4 := int_len Jr hr.2
 have I' : IsInt W sv Av nv cv ((V.num.natAbs : Nat) : Int) := by rw [hX]; exact I
 have hX0 : 0 < V.num.natAbs := by omega
 have Ir0 := Ir
 have Jr0 := Jr
 obtain ⟨lr, S1, _⟩ := Ir0
 obtain ⟨kr, S2, _⟩ := Jr0
 have ox : LmE.at_ W ((sr, Ar, nr, cr, lr), (zr, Br, mr, dr, kr)) := ⟨S1, S2, by show nr ≤ _; omega, by show mr ≤ _; omega⟩
 rcases ha with ⟨hs, rfl, rfl, rfl, rfl, rfl, rfl⟩ | ⟨hs, hz, rfl, rfl, rfl, rfl, rfl, rfl⟩ | ⟨hs, hz, rfl, rfl, rfl, rfl, rfl, rfl⟩
 ·cases hb1 : decide (k1 * k1 = V.num.natAbs)
  ·exact exact1_no1 sv Av nv cv zv Bv mv dv sr Ar nr cr lr zr Br mr dr kr re V.num.natAbs V.den k1 k2 gi W I' J hX0 V.den_pos n1 n2 ox Ir Jr h1 h2 hgi hgc hgf hb1
  ·rw [hb1, Bool.true_and] at hs
   exact exact1_no2 sv Av nv cv zv Bv mv dv sr Ar nr cr lr zr Br mr dr kr re V.num.natAbs V.den k1 k2 gi W I' J hX0 V.den_pos n1 n2 ox Ir Jr h1 h2 hgi hgc hgf hb1 hs
 ·obtain ⟨b1, b2⟩ := (Bool.and_eq_true _ _).mp hs
  have z2 : Sz re 2048 := by rw [← hM]; exact hz.1
  have hl : lgB ((sr, Ar, nr, cr, lr), (zr, Br, mr, dr, kr)) = false := by unfold lgB; have e1 := int_len Ir z2.1; have e2 := int_len Jr z2.2; simp only [Bool.or_eq_false_iff, decide_eq_false_iff_not]; omega
  exact exact1_yes sv Av nv cv zv Bv mv dv sr Ar nr cr lr zr Br mr dr kr re V.num.natAbs V.den k1 k2 gi W I' J hX0 V.den_pos n1 n2 ox Ir Jr h1 h2 hgi hgc hgf b1 b2 hl M hM hz.2.1 hz.2.2
 ·obtain ⟨b1, b2⟩ := (Bool.and_eq_true _ _).mp hs
  by_cases z2 : Sz re 2048
  ·have hl : lgB ((sr, Ar, nr, cr, lr), (zr, Br, mr, dr, kr)) = false := by unfold lgB; have e1 := int_len Ir z2.1; have e2 := int_len Jr z2.2; simp only [Bool.or_eq_false_iff, decide_eq_false_iff_not]; omega
   exact exact1_lrt sv Av nv cv zv Bv mv dv sr Ar nr cr lr zr Br mr dr kr re V.num.natAbs V.den k1 k2 gi W I' J hX0 V.den_pos n1 n2 ox Ir Jr h1 h2 hgi hgc hgf b1 b2 hl M hM (fun h => hz ⟨by rw [hM]; exact z2, h⟩)
  ·exact exact1_lre sv Av nv cv zv Bv mv dv sr Ar nr cr lr zr Br mr dr kr re V.num.natAbs V.den k1 k2 gi W I' J hX0 V.den_pos n1 n2 ox Ir Jr h1 h2 hgi hgc hgf b1 b2 (lg_of Ir Jr z2)

set_option maxRecDepth 100000 in
set_option maxHeartbeats 6400000 in
theorem md_all (sa : Bool) (Aa : Option Addr) (na ca : Nat) (la : List Nat) (za : Bool) (Ba : Option Addr) (ma da : Nat) (ka : List Nat) (sb : Bool) (Ab : Option Addr) (nb cb : Nat) (lb : List Nat) (zb : Bool) (Bb : Option Addr) (mb db : Nat) (kb : List Nat) (sc : Bool) (Ac : Option Addr) (nc cc : Nat) (lc : List Nat) (zc : Bool) (Bc : Option Addr) (mc dc : Nat) (kc : List Nat) (sd : Bool) (Ad : Option Addr) (nd cd : Nat) (ld : List Nat) (zd : Bool) (Bd : Option Addr) (md dd : Nat) (kd : List Nat) (M : Nat) (hM : M = 2048) (W0 : World) (aa : LmE.at_ W0 ((sa, Aa, na, ca, la), (za, Ba, ma, da, ka))) (ab : LmE.at_ W0 ((sb, Ab, nb, cb, lb), (zb, Bb, mb, db, kb))) (ac : LmE.at_ W0 ((sc, Ac, nc, cc, lc), (zc, Bc, mc, dc, kc))) (ad : LmE.at_ W0 ((sd, Ad, nd, cd, ld), (zd, Bd, md, dd, kd))) : ∃ (x y x' y' v : Int) (is : Bool) (dx dy dv : Int), (x.natAbs < 2 ^ (32 * M) ∧ y.natAbs < 2 ^ (32 * M) ∧ x'.natAbs < 2 ^ (32 * M) ∧ y'.natAbs < 2 ^ (32 * M) ∧ dx.natAbs < 2 ^ (32 * M) ∧ dy.natAbs < 2 ^ (32 * M)) ∧
  ∀ (Aa Ba : Option Addr) (na ca ma da : Nat) (Ab Bb : Option Addr) (nb cb mb db : Nat) (Ac Bc : Option Addr) (nc cc mc dc : Nat) (Ad Bd : Option Addr) (nd cd md dd : Nat) (W : World), LmE.at_ W ((sa, Aa, na, ca, la), (za, Ba, ma, da, ka)) → LmE.at_ W ((sb, Ab, nb, cb, lb), (zb, Bb, mb, db, kb)) → LmE.at_ W ((sc, Ac, nc, cc, lc), (zc, Bc, mc, dc, kc)) → LmE.at_ W ((sd, Ad, nd, cd, ld), (zd, Bd, md, dd, kd)) →
   Calls Tryz.prog 24 #[.agg #[.bool sa, .slice Aa na ca, .bool za, .slice Ba ma da, .bool sb, .slice Ab nb cb, .bool zb, .slice Bb mb db, .bool sc, .slice Ac nc cc, .bool zc, .slice Bc mc dc, .bool sd, .slice Ad nd cd, .bool zd, .slice Bd md dd]] W (RetG4 W x y x' y' v is) ∧ Calls Tryz.prog 25 #[.agg #[.bool sa, .slice Aa na ca, .bool za, .slice Ba ma da, .bool sb, .slice Ab nb cb, .bool zb, .slice Bb mb db, .bool sc, .slice Ac nc cc, .bool zc, .slice Bc mc dc, .bool sd, .slice Ad nd cd, .bool zd, .slice Bd md dd]] W (RetF2 W dx dy dv) ∧ Calls Tryz.prog 26 #[.agg #[.bool sa, .slice Aa na ca, .bool za, .slice Ba ma da, .bool sb, .slice Ab nb cb, .bool zb, .slice Bb mb db, .bool sc, .slice Ac nc cc, .bool zc, .slice Bc mc dc, .bool sd, .slice Ad nd cd, .bool zd, .slice Bd md dd]] W (RetN4 W x y x' y' v is) ∧ Calls Tryz.prog 27 #[.agg #[.bool sa, .slice Aa na ca, .bool za, .slice Ba ma da, .bool sb, .slice Ab nb cb, .bool zb, .slice Bb mb db, .bool sc, .slice Ac nc cc, .bool zc, .slice Bc mc dc, .bool sd, .slice Ad nd cd, .bool zd, .slice Bd md dd]] W (RetN2 W dx dy dv) := by
 obtain ⟨ok, hok⟩ : ∃ b, okM ((sa, none, 0, 0, la), (za, none, 0, 0, ka)) ((sb, none, 0, 0, lb), (zb, none, 0, 0, kb)) ((sc, none, 0, 0, lc), (zc, none, 0, 0, kc)) ((sd, none, 0, 0, ld), (zd, none, 0, 0, kd)) = b := ⟨_, rfl⟩
 cases ok with
 | false =>
  refine ⟨0, 0, 0, 0, 1, false, 0, 0, 1, ⟨zero_bigM, zero_bigM, zero_bigM, zero_bigM, zero_bigM, zero_bigM⟩, ?_⟩
  intro Aa Ba na ca ma da Ab Bb nb cb mb db Ac Bc nc cc mc dc Ad Bd nd cd md dd W ka0 kb0 kc0 kd0
  have hm : okM ((sa, Aa, na, ca, la), (za, Ba, ma, da, ka)) ((sb, Ab, nb, cb, lb), (zb, Bb, mb, db, kb)) ((sc, Ac, nc, cc, lc), (zc, Bc, mc, dc, kc)) ((sd, Ad, nd, cd, ld), (zd, Bd, md, dd, kd)) = false := hok
  exact ⟨mode_exact_call sa Aa na ca za Ba ma da sb Ab nb cb zb Bb mb db sc Ac nc cc zc Bc mc dc sd Ad nd cd zd Bd md dd 0 0 0 0 1 false W (Lib.hid (fun W1 gi h hg hc hf => stableG_arg sa Aa na ca la za Ba ma da ka sb Ab nb cb lb zb Bb mb db kb sc Ac nc cc lc zc Bc mc dc kc sd Ad nd cd ld zd Bd md dd kd W1 (LmE.at_.below ka0 h) (LmE.at_.below kb0 h) (LmE.at_.below kc0 h) (LmE.at_.below kd0 h) gi hg hc hf hm)), mode_depth_call sa Aa na ca za Ba ma da sb Ab nb cb zb Bb mb db sc Ac nc cc zc Bc mc dc sd Ad nd cd zd Bd md dd 0 0 1 W (Lib.hid (fun W1 h => stableF_arg sa Aa na ca la za Ba ma da ka sb Ab nb cb lb zb Bb mb db kb sc Ac nc cc lc zc Bc mc dc kc sd Ad nd cd ld zd Bd md dd kd W1 (LmE.at_.below ka0 h) (LmE.at_.below kb0 h) (LmE.at_.below kc0 h) (LmE.at_.below kd0 h) hm)), ref16_exact_no1 sa za Aa Ba na ca ma da sb zb Ab Bb nb cb mb db sc zc Ac Bc nc cc mc dc sd zd Ad Bd nd cd md dd W (Lib.hid (fun W1 h => gate_arg sa Aa na ca la za Ba ma da ka sb Ab nb cb lb zb Bb mb db kb sc Ac nc cc lc zc Bc mc dc kc sd Ad nd cd ld zd Bd md dd kd W1 (LmE.at_.below ka0 h) (LmE.at_.below kb0 h) (LmE.at_.below kc0 h) (LmE.at_.below kd0 h) hm)), ref16_depth_no1 sa za Aa Ba na ca ma da sb zb Ab Bb nb cb mb db sc zc Ac Bc nc cc mc dc sd zd Ad Bd nd cd md dd W (Lib.hid (fun W1 h => gate_arg sa Aa na ca la za Ba ma da ka sb Ab nb cb lb zb Bb mb db kb sc Ac nc cc lc zc Bc mc dc kc sd Ad nd cd ld zd Bd md dd kd W1 (LmE.at_.below ka0 h) (LmE.at_.below kb0 h) (LmE.at_.below kc0 h) (LmE.at_.below kd0 h) hm))⟩
 | true =>
  obtain ⟨h1, h2, h3, h4', hdet⟩ := okM_parts hok
  obtain ⟨xa, hxa⟩ : ∃ x, rv ((sa, none, 0, 0, la), (za, none, 0, 0, ka)) = x := ⟨_, rfl⟩
  obtain ⟨xb, hxb⟩ : ∃ x, rv ((sb, none, 0, 0, lb), (zb, none, 0, 0, kb)) = x := ⟨_, rfl⟩
  obtain ⟨xc, hxc⟩ : ∃ x, rv ((sc, none, 0, 0, lc), (zc, none, 0, 0, kc)) = x := ⟨_, rfl⟩
  obtain ⟨xd, hxd⟩ : ∃ x, rv ((sd, none, 0, 0, ld), (zd, none, 0, 0, kd)) = x := ⟨_, rfl⟩
  rw [hxa, hxb, hxc, hxd] at hdet
  by_cases h4 : 0 < ((4 : Rat) - ((xa + xd) * (xa + xd)))
  ·have nc0 := st_c hdet h4
   have ya : Sz xa 2048 := (show OkF W0 ((sa, Aa, na, ca, la), (za, Ba, ma, da, ka)) xa from ⟨aa, h1, hxa⟩).ints.2.2
   have yb : Sz xb 2048 := (show OkF W0 ((sb, Ab, nb, cb, lb), (zb, Bb, mb, db, kb)) xb from ⟨ab, h2, hxb⟩).ints.2.2
   have yc : Sz xc 2048 := (show OkF W0 ((sc, Ac, nc, cc, lc), (zc, Bc, mc, dc, kc)) xc from ⟨ac, h3, hxc⟩).ints.2.2
   have yd : Sz xd 2048 := (show OkF W0 ((sd, Ad, nd, cd, ld), (zd, Bd, md, dd, kd)) xd from ⟨ad, h4', hxd⟩).ints.2.2
   have S4 : Sz (4 : Rat) 1 := ⟨by decide, by decide⟩
   have S2 : Sz (2 : Rat) 1 := ⟨by decide, by decide⟩
   have hV0 : 0 < (((4 : Rat) - ((xa + xd) * (xa + xd))) / ((4 : Rat) * (xc * xc))) := st_v h4 (st_sq nc0)
   have hd0 : ((4 : Rat) * (xc * xc)) ≠ 0 := fun e => by have := st_sq nc0; rw [e] at this; exact absurd this (by decide)
   have SV : Sz (((4 : Rat) - ((xa + xd) * (xa + xd))) / ((4 : Rat) * (xc * xc))) 100000 := (Sz.div (Sz.sub S4 (Sz.mul (Sz.add ya yd) (Sz.add ya yd))) (Sz.mul S4 (Sz.mul yc yc)) hd0).mono (by decide)
   have SR : Sz ((xa - xd) / ((2 : Rat) * xc)) 100000 := (Sz.div (Sz.sub ya yd) (Sz.mul S2 yc) (st_two nc0)).mono (by decide)
   obtain ⟨k1, e1⟩ := rt_ex (((4 : Rat) - ((xa + xd) * (xa + xd))) / ((4 : Rat) * (xc * xc))).num.natAbs
   obtain ⟨k2, e2⟩ := rt_ex (((4 : Rat) - ((xa + xd) * (xa + xd))) / ((4 : Rat) * (xc * xc))).den
   obtain ⟨x, y, x', y', v, is, hX, b1, b2, b3, b4⟩ := ansX_ex (((4 : Rat) - ((xa + xd) * (xa + xd))) / ((4 : Rat) * (xc * xc))) ((xa - xd) / ((2 : Rat) * xc)) M k1 k2
   obtain ⟨dx, dy, dv, hD, b5, b6⟩ := ans_exM (((4 : Rat) - ((xa + xd) * (xa + xd))) / ((4 : Rat) * (xc * xc))) M hM
   have hVV := Lib.hid hV0
   have SVV := Lib.hid SV
   have SRR := Lib.hid SR
   clear hV0 SV SR S4 S2 hd0
   refine ⟨x, y, x', y', v, is, dx, dy, dv, ⟨b1, b2, b3, b4, b5, b6⟩, ?_⟩
   intro Aa Ba na ca ma da Ab Bb nb cb mb db Ac Bc nc cc mc dc Ad Bd nd cd md dd W ka0 kb0 kc0 kd0
   have oa : OkF W ((sa, Aa, na, ca, la), (za, Ba, ma, da, ka)) xa := ⟨ka0, h1, hxa⟩
   have Ya : Sz xa M := ya.mono (by omega)
   have ob : OkF W ((sb, Ab, nb, cb, lb), (zb, Bb, mb, db, kb)) xb := ⟨kb0, h2, hxb⟩
   have Yb : Sz xb M := yb.mono (by omega)
   have oc : OkF W ((sc, Ac, nc, cc, lc), (zc, Bc, mc, dc, kc)) xc := ⟨kc0, h3, hxc⟩
   have Yc : Sz xc M := yc.mono (by omega)
   have od : OkF W ((sd, Ad, nd, cd, ld), (zd, Bd, md, dd, kd)) xd := ⟨kd0, h4', hxd⟩
   have Yd : Sz xd M := yd.mono (by omega)
   refine ⟨mode_exact_call sa Aa na ca za Ba ma da sb Ab nb cb zb Bb mb db sc Ac nc cc zc Bc mc dc sd Ad nd cd zd Bd md dd x y x' y' v is W (Lib.hid (fun W1 gi h hg hc hf => stableG_ok sa Aa na ca la za Ba ma da ka xa sb Ab nb cb lb zb Bb mb db kb xb sc Ac nc cc lc zc Bc mc dc kc xc sd Ad nd cd ld zd Bd md dd kd xd M hM W1 (oa.next h) (ob.next h) (oc.next h) (od.next h) gi hg hc hf hdet h4 x y x' y' v is (ask_exact (((4 : Rat) - ((xa + xd) * (xa + xd))) / ((4 : Rat) * (xc * xc))) ((xa - xd) / ((2 : Rat) * xc)) M hM k1 k2 gi x y x' y' v is hVV.out SVV.out SRR.out e1 e2 hX))), mode_depth_call sa Aa na ca za Ba ma da sb Ab nb cb zb Bb mb db sc Ac nc cc zc Bc mc dc sd Ad nd cd zd Bd md dd dx dy dv W (Lib.hid (fun W1 h => stableF_ok sa Aa na ca la za Ba ma da ka xa sb Ab nb cb lb zb Bb mb db kb xb sc Ac nc cc lc zc Bc mc dc kc xc sd Ad nd cd ld zd Bd md dd kd xd M hM W1 (oa.next h) (ob.next h) (oc.next h) (od.next h) hdet h4 dx dy dv (ask_depth (((4 : Rat) - ((xa + xd) * (xa + xd))) / ((4 : Rat) * (xc * xc))) ((xa - xd) / ((2 : Rat) * xc)) dx dy dv SVV.out hD))), ?_, ?_⟩
   ·have hg := (Lib.hid (fun W1 h => gate_ok sa Aa na ca la za Ba ma da ka xa sb Ab nb cb lb zb Bb mb db kb xb sc Ac nc cc lc zc Bc mc dc kc xc sd Ad nd cd ld zd Bd md dd kd xd M hM W1 (oa.next h) (ob.next h) (oc.next h) (od.next h) hdet h4))
    rcases hX with ⟨hs, rfl, rfl, rfl, rfl, rfl, rfl⟩ | ⟨hs, hz, rfl, rfl, rfl, rfl, rfl, rfl⟩ | ⟨hs, hz, rfl, rfl, rfl, rfl, rfl, rfl⟩
    ·exact ref16_exact_noroot sa za Aa Ba na ca ma da xa sb zb Ab Bb nb cb mb db xb sc zc Ac Bc nc cc mc dc xc sd zd Ad Bd nd cd md dd xd M k1 k2 W oa.ints.1 oa.ints.2.1 Ya ob.ints.1 ob.ints.2.1 Yb oc.ints.1 oc.ints.2.1 Yc od.ints.1 od.ints.2.1 Yd hM nc0 h4 hg e1 e2 hs
    ·exact ref16_exact_ok sa za Aa Ba na ca ma da xa sb zb Ab Bb nb cb mb db xb sc zc Ac Bc nc cc mc dc xc sd zd Ad Bd nd cd md dd xd M k1 k2 W oa.ints.1 oa.ints.2.1 Ya ob.ints.1 ob.ints.2.1 Yb oc.ints.1 oc.ints.2.1 Yc od.ints.1 od.ints.2.1 Yd hM nc0 h4 hg e1 e2 hs hz
    ·exact ref16_exact_long sa za Aa Ba na ca ma da xa sb zb Ab Bb nb cb mb db xb sc zc Ac Bc nc cc mc dc xc sd zd Ad Bd nd cd md dd xd M k1 k2 W oa.ints.1 oa.ints.2.1 Ya ob.ints.1 ob.ints.2.1 Yb oc.ints.1 oc.ints.2.1 Yc od.ints.1 od.ints.2.1 Yd hM nc0 h4 hg e1 e2 hs hz
   ·have hg := (Lib.hid (fun W1 h => gate_ok sa Aa na ca la za Ba ma da ka xa sb Ab nb cb lb zb Bb mb db kb xb sc Ac nc cc lc zc Bc mc dc kc xc sd Ad nd cd ld zd Bd md dd kd xd M hM W1 (oa.next h) (ob.next h) (oc.next h) (od.next h) hdet h4))
    rcases hD with ⟨hs, rfl, rfl, rfl⟩ | ⟨hs, rfl, rfl, rfl⟩
    ·exact ref16_depth_ok sa za Aa Ba na ca ma da xa sb zb Ab Bb nb cb mb db xb sc zc Ac Bc nc cc mc dc xc sd zd Ad Bd nd cd md dd xd M W oa.ints.1 oa.ints.2.1 Ya ob.ints.1 ob.ints.2.1 Yb oc.ints.1 oc.ints.2.1 Yc od.ints.1 od.ints.2.1 Yd hM nc0 hg hs
    ·exact ref16_depth_long sa za Aa Ba na ca ma da xa sb zb Ab Bb nb cb mb db xb sc zc Ac Bc nc cc mc dc xc sd zd Ad Bd nd cd md dd xd M W oa.ints.1 oa.ints.2.1 Ya ob.ints.1 ob.ints.2.1 Yb oc.ints.1 oc.ints.2.1 Yc od.ints.1 od.ints.2.1 Yd hM nc0 hg hs
  ·refine ⟨0, 0, 0, 0, 8, false, 0, 0, 8, ⟨zero_bigM, zero_bigM, zero_bigM, zero_bigM, zero_bigM, zero_bigM⟩, ?_⟩
   intro Aa Ba na ca ma da Ab Bb nb cb mb db Ac Bc nc cc mc dc Ad Bd nd cd md dd W ka0 kb0 kc0 kd0
   have oa : OkF W ((sa, Aa, na, ca, la), (za, Ba, ma, da, ka)) xa := ⟨ka0, h1, hxa⟩
   have ob : OkF W ((sb, Ab, nb, cb, lb), (zb, Bb, mb, db, kb)) xb := ⟨kb0, h2, hxb⟩
   have oc : OkF W ((sc, Ac, nc, cc, lc), (zc, Bc, mc, dc, kc)) xc := ⟨kc0, h3, hxc⟩
   have od : OkF W ((sd, Ad, nd, cd, ld), (zd, Bd, md, dd, kd)) xd := ⟨kd0, h4', hxd⟩
   exact ⟨mode_exact_call sa Aa na ca za Ba ma da sb Ab nb cb zb Bb mb db sc Ac nc cc zc Bc mc dc sd Ad nd cd zd Bd md dd 0 0 0 0 8 false W (Lib.hid (fun W1 gi h hg hc hf => stableG_light sa Aa na ca la za Ba ma da ka xa sb Ab nb cb lb zb Bb mb db kb xb sc Ac nc cc lc zc Bc mc dc kc xc sd Ad nd cd ld zd Bd md dd kd xd M hM W1 (oa.next h) (ob.next h) (oc.next h) (od.next h) gi hg hc hf hdet h4)), mode_depth_call sa Aa na ca za Ba ma da sb Ab nb cb zb Bb mb db sc Ac nc cc zc Bc mc dc sd Ad nd cd zd Bd md dd 0 0 8 W (Lib.hid (fun W1 h => stableF_light sa Aa na ca la za Ba ma da ka xa sb Ab nb cb lb zb Bb mb db kb xb sc Ac nc cc lc zc Bc mc dc kc xc sd Ad nd cd ld zd Bd md dd kd xd M hM W1 (oa.next h) (ob.next h) (oc.next h) (od.next h) hdet h4)), ref16_exact_no8 sa za Aa Ba na ca ma da sb zb Ab Bb nb cb mb db sc zc Ac Bc nc cc mc dc sd zd Ad Bd nd cd md dd W (Lib.hid (fun W1 h => gate_light sa Aa na ca la za Ba ma da ka xa sb Ab nb cb lb zb Bb mb db kb xb sc Ac nc cc lc zc Bc mc dc kc xc sd Ad nd cd ld zd Bd md dd kd xd M hM W1 (oa.next h) (ob.next h) (oc.next h) (od.next h) hdet h4)), ref16_depth_no8 sa za Aa Ba na ca ma da sb zb Ab Bb nb cb mb db sc zc Ac Bc nc cc mc dc sd zd Ad Bd nd cd md dd W (Lib.hid (fun W1 h => gate_light sa Aa na ca la za Ba ma da ka xa sb Ab nb cb lb zb Bb mb db kb xb sc Ac nc cc lc zc Bc mc dc kc xc sd Ad nd cd ld zd Bd md dd kd xd M hM W1 (oa.next h) (ob.next h) (oc.next h) (od.next h) hdet h4))⟩
end Go.Proofs.YtgekmbfmfiikkaaGreatDoor
