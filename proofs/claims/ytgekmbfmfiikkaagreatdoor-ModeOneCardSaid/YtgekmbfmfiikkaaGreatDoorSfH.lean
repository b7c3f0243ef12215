/-
  mode.Depth and mode.Exact over what is asked of a stable cavity.
  What is told of any matrix as a cavity, by both sides.
  SameGauss for whole numbers.
  Which beams does a cavity keep, plainly: of a stable one that alone which Exact tells, of a neutral one every one, of the others none.
  Does a span have a fraction? (span.Has, polestarref05.Has, polestarref05.Asked)
-/
import Derived.Test.YtgekmbfmfiikkaaGreatDoorMdC
import Derived.Test.YtgekmbfmfiikkaaGreatDoorMdD
import Derived.Test.YtgekmbfmfiikkaaGreatDoorMdE
import Derived.Test.YtgekmbfmfiikkaaGreatDoorMdB
import Derived.Test.YtgekmbfmfiikkaaGreatDoorEyB
import Derived.Test.YtgekmbfmfiikkaaGreatDoorOwn
import Derived.Test.YtgekmbfmfiikkaaGreatDoorLnB
import Derived.Test.YtgekmbfmfiikkaaGreatDoorRefW
import Derived.Test.YtgekmbfmfiikkaaGreatDoorMoA
import Derived.Test.YtgekmbfmfiikkaaGreatDoorMeg
import Derived.Test.YtgekmbfmfiikkaaGreatDoorBey
import Derived.Test.YtgekmbfmfiikkaaGreatDoorOwH
import Derived.Test.YtgekmbfmfiikkaaGreatDoorLst
import Derived.Test.YtgekmbfmfiikkaaGreatDoorOwN
import Derived.Test.YtgekmbfmfiikkaaGreatDoorHaA
import Derived.Test.YtgekmbfmfiikkaaGreatDoorMdA
import Derived.Test.YtgekmbfmfiikkaaGreatDoorExZ
import Derived.Test.YtgekmbfmfiikkaaGreatDoorRootW
import Derived.Test.YtgekmbfmfiikkaaGreatDoorExY
import Derived.Test.YtgekmbfmfiikkaaGreatDoorTzF
set_option maxHeartbeats 6400000
set_option maxRecDepth 100000
namespace Go.Proofs.YtgekmbfmfiikkaaGreatDoor
open Go.RowKit
def RetG4 (W : World) (x y x' y' v : Int) (is : Bool) (e : Ending) (w' : World) : Prop :=
 ∃ (sa : Bool) (Aa : Option Addr) (na ca : Nat) (za : Bool) (Ba : Option Addr) (ma da : Nat) (sb : Bool) (Ab : Option Addr) (nb cb : Nat) (zb : Bool) (Bb : Option Addr) (mb db : Nat), e = .returned (.tuple #[.agg #[.bool sa, .slice Aa na ca, .bool za, .slice Ba ma da, .bool sb, .slice Ab nb cb, .bool zb, .slice Bb mb db], .bool is, .int .i64 v]) ∧
  IsInt w' sa Aa na ca x ∧ IsInt w' za Ba ma da y ∧ IsInt w' sb Ab nb cb x' ∧ IsInt w' zb Bb mb db y' ∧ Owns W.heap.size w' [(Aa, na, ca), (Ba, ma, da), (Ab, nb, cb), (Bb, mb, db)] ∧ Below W.heap.size W w'
theorem mode_exact_call (sa : Bool) (Aa : Option Addr) (na ca : Nat) (za : Bool) (Ba : Option Addr) (ma da : Nat) (sb : Bool) (Ab : Option Addr) (nb cb : Nat) (zb : Bool) (Bb : Option Addr) (mb db : Nat) (sc : Bool) (Ac : Option Addr) (nc cc : Nat) (zc : Bool) (Bc : Option Addr) (mc dc : Nat) (sd : Bool) (Ad : Option Addr) (nd cd : Nat) (zd : Bool) (Bd : Option Addr) (md dd : Nat) (x y x' y' v : Int) (is : Bool) (w : World) (hst : Hid (∀ W gi, Below w.heap.size w W → gi < W.heap.size → W.cell? ⟨gi, 0, none⟩ = some (.bool false) → W.frozen? ⟨gi, 0, none⟩ = false → Calls Tryz.prog 111 #[.agg #[.bool sa, .slice Aa na ca, .bool za, .slice Ba ma da, .bool sb, .slice Ab nb cb, .bool zb, .slice Bb mb db, .bool sc, .slice Ac nc cc, .bool zc, .slice Bc mc dc, .bool sd, .slice Ad nd cd, .bool zd, .slice Bd md dd], .func (.func 112) #[] #[.pointer (some ⟨gi, 0, none⟩)]] W (RetG3 W gi x y x' y' v is))) :
  Calls Tryz.prog 24 #[.agg #[.bool sa, .slice Aa na ca, .bool za, .slice Ba ma da, .bool sb, .slice Ab nb cb, .bool zb, .slice Bb mb db, .bool sc, .slice Ac nc cc, .bool zc, .slice Bc mc dc, .bool sd, .slice Ad nd cd, .bool zd, .slice Bd md dd]] w (RetG4 w x y x' y' v is) := by
 have K0 := ((Mo.nil w).var (g := w.heap.size) rfl [.bool sa, .slice Aa na ca, .bool za, .slice Ba ma da, .bool sb, .slice Ab nb cb, .bool zb, .slice Bb mb db, .bool sc, .slice Ac nc cc, .bool zc, .slice Bc mc dc, .bool sd, .slice Ad nd cd, .bool zd, .slice Bd md dd] 28).var (g := w.heap.size + 1) (by simp) [.bool false, .slice none 0 0, .bool false, .slice none 0 0, .bool false, .slice none 0 0, .bool false, .slice none 0 0] 30
 have g01 : ¬ w.heap.size = w.heap.size + 1 := by omega
 have g10 : ¬ w.heap.size + 1 = w.heap.size := by omega
 go_enter Tryz.func24, Tryz.ntmps24
 go_upto_region 1 with (fail)
 generalize (w.alloc (.cells #[.bool sa, .slice Aa na ca, .bool za, .slice Ba ma da, .bool sb, .slice Ab nb cb, .bool zb, .slice Bb mb db, .bool sc, .slice Ac nc cc, .bool zc, .slice Bc mc dc, .bool sd, .slice Ad nd cd, .bool zd, .slice Bd md dd] 28)).alloc (.cells #[.bool false, .slice none 0 0, .bool false, .slice none 0 0, .bool false, .slice none 0 0, .bool false, .slice none 0 0] 30) = w0 at K0 ⊢
 go_upto_region 2 with (fail)
 have K1 := K0.var (g := w0.heap.size) rfl [.bool false] 4
 have z1 : w.heap.size + 1 < w0.heap.size := (K0.blk (mE 0 rfl)).1
 clear K0
 generalize w0.heap.size = gb at K1 z1 ⊢
 generalize w0.alloc (.cells #[.bool false] 4) = u1 at K1 ⊢
 obtain ⟨zb1, hb1⟩ := K1.blk (mE 0 rfl)
 have hc1 := (hb1 0 _ rfl).1
 have hf1 := (hb1 0 _ rfl).2
 obtain ⟨p0, p1, p2, p3, p4, p5, p6, p7, p8, p9, p10, p11, p12, p13, p14, p15⟩ := (K1.blk (g := w.heap.size) (by repeat constructor)).c16
 go_wp2_with fail
 refine (hst.out _ gb K1.1 zb1 hc1 hf1).mono ?_
 rintro e2 w2 ⟨se, Ae, ne, ce, ze, Be, me, de, sf, Af, nf, cf, zf, Bf, mf, df, rfl, I, J, I', J', O, hb⟩
 have KB := (K1.pick (L' := [(gb, [.bool false]), (w.heap.size + 1, [.bool false, .slice none 0 0, .bool false, .slice none 0 0, .bool false, .slice none 0 0, .bool false, .slice none 0 0]), (w.heap.size, [.bool sa, .slice Aa na ca, .bool za, .slice Ba ma da, .bool sb, .slice Ab nb cb, .bool zb, .slice Bb mb db, .bool sc, .slice Ac nc cc, .bool zc, .slice Bc mc dc, .bool sd, .slice Ad nd cd, .bool zd, .slice Bd md dd])]) (l' := []) (by simp) (by simp)).set (by simp <;> omega) (j := 0) (.bool false) (.bool is) rfl (by simp)
 have hz : (u1.setCell ⟨gb, 0, none⟩ (.bool is)).heap.size = u1.heap.size := by simp [World.setCell]
 have K2 := (((((KB.call4 (by rw [hz]; exact hb) (by rw [hz]; exact O)).int J').int I').int J).int I).var (g := w2.heap.size) rfl [.bool se, .slice Ae ne ce, .bool ze, .slice Be me de, .bool sf, .slice Af nf cf, .bool zf, .slice Bf mf df] 30
 have z2 : gb < w2.heap.size := Nat.lt_of_lt_of_le zb1 (by have := hb.size; rw [hz] at this; exact this)
 clear K1 KB hz hb I J I' J' O hst hc1 hf1 hb1 zb1 p0 p1 p2 p3 p4 p5 p6 p7 p8 p9 p10 p11 p12 p13 p14 p15
 go_upto_region 3 with (fail)
 generalize w2.heap.size = gq at K2 z2 ⊢
 generalize w2.alloc (.cells #[.bool se, .slice Ae ne ce, .bool ze, .slice Be me de, .bool sf, .slice Af nf cf, .bool zf, .slice Bf mf df] 30) = u2 at K2 ⊢
 have n1 : ¬ gq = w.heap.size + 1 := by omega
 have n2 : ¬ w.heap.size + 1 = gq := by omega
 have n3 : ¬ gb = w.heap.size + 1 := by omega
 have n4 : ¬ w.heap.size + 1 = gb := by omega
 have cb := ((K2.blk (mE 1 rfl)).2 0 _ rfl).1
 obtain ⟨_, _, _, _, _, _, _, _⟩ := (K2.blk (g := gq) (by repeat constructor)).c8
 obtain ⟨f0, f1, f2, f3, f4, f5, f6, f7⟩ := (K2.blk (g := w.heap.size + 1) (by repeat constructor)).c8
 obtain ⟨ff0, ff1, ff2, ff3, ff4, ff5, ff6, ff7, _⟩ := (K2.blk (g := w.heap.size + 1) (by repeat constructor)).f8
 go_region_held3 (fun w' => w'.cell? ⟨gq, 0, none⟩ = some (.bool se) ∧ w'.cell? ⟨gq, 1, none⟩ = some (.slice Ae ne ce) ∧ w'.cell? ⟨gq, 2, none⟩ = some (.bool ze) ∧ w'.cell? ⟨gq, 3, none⟩ = some (.slice Be me de) ∧ w'.cell? ⟨gq, 4, none⟩ = some (.bool sf) ∧ w'.cell? ⟨gq, 5, none⟩ = some (.slice Af nf cf) ∧ w'.cell? ⟨gq, 6, none⟩ = some (.bool zf) ∧ w'.cell? ⟨gq, 7, none⟩ = some (.slice Bf mf df) ∧ w'.cell? ⟨gb, 0, none⟩ = some (.bool is))
 (go_keep)
 (first
  | fail)
 all_goals (go_wp2_with fail)
 all_goals (
  have K9 := (K2.pick (L' := [(w.heap.size + 1, [.bool false, .slice none 0 0, .bool false, .slice none 0 0, .bool false, .slice none 0 0, .bool false, .slice none 0 0])]) (l' := [(se, Ae, ne, ce, x), (ze, Be, me, de, y), (sf, Af, nf, cf, x'), (zf, Bf, mf, df, y')]) (by simp) (by simp)).set8 (by simp) se Ae ne ce ze Be me de sf Af nf cf zf Bf mf df |>.drew
  exact bodyPost_ret (v := .tuple #[.agg #[.bool se, .slice Ae ne ce, .bool ze, .slice Be me de, .bool sf, .slice Af nf cf, .bool zf, .slice Bf mf df], .bool is, .int .i64 v]) (by simp [results, Tryz.results24, go_sem, f0, f1, f2, f3, f4, f5, f6, f7]) rfl ⟨_, _, _, _, _, _, _, _, _, _, _, _, _, _, _, _, rfl, K9.at_ (by simp), K9.at_ (by simp), K9.at_ (by simp), K9.at_ (by simp), K9.all, K9.1⟩)
end Go.Proofs.YtgekmbfmfiikkaaGreatDoor
namespace Go.Proofs.YtgekmbfmfiikkaaGreatDoor
open Go.RowKit
theorem zero_bigM {k : Nat} : (0 : Int).natAbs < 2 ^ k := Nat.two_pow_pos k
def AnsX (V re : Rat) (M k1 k2 : Nat) (x y x' y' v : Int) (is : Bool) : Prop :=
 ((decide (k1 * k1 = V.num.natAbs) && decide (k2 * k2 = V.den)) = false ∧ x = 0 ∧ y = 0 ∧ x' = 0 ∧ y' = 0 ∧ v = 0 ∧ is = false) ∨
 ((decide (k1 * k1 = V.num.natAbs) && decide (k2 * k2 = V.den)) = true ∧ (Sz re M ∧ k1 < 2 ^ (32 * M) ∧ k2 < 2 ^ (32 * M)) ∧ x = re.num ∧ y = (re.den : Int) ∧ x' = (k1 : Int) ∧ y' = (k2 : Int) ∧ v = 0 ∧ is = true) ∨
 ((decide (k1 * k1 = V.num.natAbs) && decide (k2 * k2 = V.den)) = true ∧ ¬ (Sz re M ∧ k1 < 2 ^ (32 * M) ∧ k2 < 2 ^ (32 * M)) ∧ x = 0 ∧ y = 0 ∧ x' = 0 ∧ y' = 0 ∧ v = 4 ∧ is = false)
theorem ansX_ex (V re : Rat) (M k1 k2 : Nat) : ∃ x y x' y' v is, AnsX V re M k1 k2 x y x' y' v is ∧ x.natAbs < 2 ^ (32 * M) ∧ y.natAbs < 2 ^ (32 * M) ∧ x'.natAbs < 2 ^ (32 * M) ∧ y'.natAbs < 2 ^ (32 * M) := by
 cases hs : (decide (k1 * k1 = V.num.natAbs) && decide (k2 * k2 = V.den))
 ·exact ⟨0, 0, 0, 0, 0, false, .inl ⟨hs, rfl, rfl, rfl, rfl, rfl, rfl⟩, zero_bigM, zero_bigM, zero_bigM, zero_bigM⟩
 ·by_cases h : Sz re M ∧ k1 < 2 ^ (32 * M) ∧ k2 < 2 ^ (32 * M)
  ·exact ⟨re.num, (re.den : Int), (k1 : Int), (k2 : Int), 0, true, .inr (.inl ⟨hs, h, rfl, rfl, rfl, rfl, rfl, rfl⟩), h.1.1, by rw [Int.natAbs_natCast]; exact h.1.2, by rw [Int.natAbs_natCast]; exact h.2.1, by rw [Int.natAbs_natCast]; exact h.2.2⟩
  ·exact ⟨0, 0, 0, 0, 4, false, .inr (.inr ⟨hs, h, rfl, rfl, rfl, rfl, rfl, rfl⟩), zero_bigM, zero_bigM, zero_bigM, zero_bigM⟩
theorem ask_exact (V re : Rat) (M : Nat) (hM : M = 2048) (k1 k2 gi : Nat) (x y x' y' v : Int) (is : Bool) (h0 : 0 < V) (hV : Sz V 100000) (hr : Sz re 100000) (h1 : IsRt V.num.natAbs k1) (h2 : IsRt V.den k2) (ha : AnsX V re M k1 k2 x y x' y' v is) : Hid (∀ (W : World) (sv : Bool) (Av : Option Addr) (nv cv : Nat) (zv : Bool) (Bv : Option Addr) (mv dv : Nat) (sr : Bool) (Ar : Option Addr) (nr cr : Nat) (zr : Bool) (Br : Option Addr) (mr dr : Nat), IsInt W sv Av nv cv V.num → IsInt W zv Bv mv dv (V.den : Int) → IsInt W sr Ar nr cr re.num → IsInt W zr Br mr dr (re.den : Int) → W.cell? ⟨gi, 0, none⟩ = some (.bool false) → W.frozen? ⟨gi, 0, none⟩ = false → gi < W.heap.size → Calls Tryz.prog 112 #[.agg #[.bool sv, .slice Av nv cv, .bool zv, .slice Bv mv dv], .agg #[.bool sr, .slice Ar nr cr, .bool zr, .slice Br mr dr], .pointer (some ⟨gi, 0, none⟩)] W (RetE1 W gi [(Ar, nr, cr), (Br, mr, dr)] x y x' y' v is)) := by
 refine Lib.hid ?_
 intro W sv Av nv cv zv Bv mv dv sr Ar nr cr zr Br mr dr I J Ir Jr hgc hgf hgi
 have hp : 0 < V.num := Int.sign_eq_one_iff_pos.1 ((rat_num_sign _).1 h0)
 have hX : ((V.num.natAbs : Nat) : Int) = V.num := Int.natAbs_of_nonneg (Int.le_of_lt hp)
 have n1 := int_len I hV.1
 have n2 := int_len J hV.2
 have n3 := int_len Ir hr.1
 have n4 := int_len Jr hr.2
 have I' : IsInt W sv Av nv cv ((V.num.natAbs : Nat) : Int) := by rw [hX]; exact I
 have hX0 : 0 < V.num.natAbs := by omega
 have Ir0 := Ir
 have Jr0 := Jr
 obtain ⟨lr, S1, _⟩ := Ir0
 obtain ⟨kr, S2, _⟩ := Jr0
 have ox : LmE.at_ W ((sr, Ar, nr, cr, lr), (zr, Br, mr, dr, kr)) := ⟨S1, S2, by show nr ≤ _; omega, by show mr ≤ _; omega⟩
 rcases ha with ⟨hs, rfl, rfl, rfl, rfl, rfl, rfl⟩ | ⟨hs, hz, rfl, rfl, rfl, rfl, rfl, rfl⟩ | ⟨hs, hz, rfl, rfl, rfl, rfl, rfl, rfl⟩
 ·cases hb1 : decide (k1 * k1 = V.num.natAbs)
  ·exact exact1_no1 sv Av nv cv zv Bv mv dv sr Ar nr cr lr zr Br mr dr kr re V.num.natAbs V.den k1 k2 gi W I' J hX0 V.den_pos n1 n2 ox Ir Jr h1 h2 hgi hgc hgf hb1
  ·rw [hb1, Bool.true_and] at hs
   exact exact1_no2 sv Av nv cv zv Bv mv dv sr Ar nr cr lr zr Br mr dr kr re V.num.natAbs V.den k1 k2 gi W I' J hX0 V.den_pos n1 n2 ox Ir Jr h1 h2 hgi hgc hgf hb1 hs
 ·obtain ⟨b1, b2⟩ := (Bool.and_eq_true _ _).mp hs
  have z2 : Sz re 2048 := by rw [← hM]; exact hz.1
  have hl : lgB ((sr, Ar, nr, cr, lr), (zr, Br, mr, dr, kr)) = false := by unfold lgB; have e1 := int_len Ir z2.1; have e2 := int_len Jr z2.2; simp only [Bool.or_eq_false_iff, decide_eq_false_iff_not]; omega
  exact exact1_yes sv Av nv cv zv Bv mv dv sr Ar nr cr lr zr Br mr dr kr re V.num.natAbs V.den k1 k2 gi W I' J hX0 V.den_pos n1 n2 ox Ir Jr h1 h2 hgi hgc hgf b1 b2 hl M hM hz.2.1 hz.2.2
 ·obtain ⟨b1, b2⟩ := (Bool.and_eq_true _ _).mp hs
  by_cases z2 : Sz re 2048
  ·have hl : lgB ((sr, Ar, nr, cr, lr), (zr, Br, mr, dr, kr)) = false := by unfold lgB; have e1 := int_len Ir z2.1; have e2 := int_len Jr z2.2; simp only [Bool.or_eq_false_iff, decide_eq_false_iff_not]; omega
   exact exact1_lrt sv Av nv cv zv Bv mv dv sr Ar nr cr lr zr Br mr dr kr re V.num.natAbs V.den k1 k2 gi W I' J hX0 V.den_pos n1 n2 ox Ir Jr h1 h2 hgi hgc hgf b1 b2 hl M hM (fun h => hz ⟨by rw [hM]; exact z2, h⟩)
  ·exact exact1_lre sv Av nv cv zv Bv mv dv sr Ar nr cr lr zr Br mr dr kr re V.num.natAbs V.den k1 k2 gi W I' J hX0 V.den_pos n1 n2 ox Ir Jr h1 h2 hgi hgc hgf b1 b2 (lg_of Ir Jr z2)
end Go.Proofs.YtgekmbfmfiikkaaGreatDoor
namespace Go.Proofs.YtgekmbfmfiikkaaGreatDoor
open Go.RowKit
theorem same_gauss_int (sa za : Bool) (Aa Ba : Option Addr) (na ca ma da : Nat) (sb zb : Bool) (Ab Bb : Option Addr) (nb cb mb db : Nat) (sc zc : Bool) (Ac Bc : Option Addr) (nc cc mc dc : Nat) (se ze : Bool) (Ae Be : Option Addr) (ne ce me de : Nat) (x y x' y' : Int) (w : World) (ia : IsInt w sa Aa na ca x) (ja : IsInt w za Ba ma da y) (ib : IsInt w sb Ab nb cb x') (jb : IsInt w zb Bb mb db y') (ic : IsInt w sc Ac nc cc x) (jc : IsInt w zc Bc mc dc y) (ie : IsInt w se Ae ne ce x') (je : IsInt w ze Be me de y') (h1 : na ≤ 1000000000) (h2 : ma ≤ 1000000000) (h3 : nb ≤ 1000000000) (h4 : mb ≤ 1000000000) :
  Calls Tryz.prog 15 #[.agg #[.bool sa, .slice Aa na ca, .bool za, .slice Ba ma da, .bool sb, .slice Ab nb cb, .bool zb, .slice Bb mb db], .agg #[.bool sc, .slice Ac nc cc, .bool zc, .slice Bc mc dc, .bool se, .slice Ae ne ce, .bool ze, .slice Be me de]] w (RetV w (.bool true)) := by
 have K0 := ((Mm.nil w).var (g := w.heap.size) rfl [.bool sa, .slice Aa na ca, .bool za, .slice Ba ma da, .bool sb, .slice Ab nb cb, .bool zb, .slice Bb mb db] 30).var (g := w.heap.size + 1) (by simp) [.bool sc, .slice Ac nc cc, .bool zc, .slice Bc mc dc, .bool se, .slice Ae ne ce, .bool ze, .slice Be me de] 30
 replace ia := ia.below K0.1
 replace ja := ja.below K0.1
 replace ib := ib.below K0.1
 replace jb := jb.below K0.1
 replace ic := ic.below K0.1
 replace jc := jc.below K0.1
 replace ie := ie.below K0.1
 replace je := je.below K0.1
 go_enter Tryz.func15, Tryz.ntmps15
 go_upto_region 1 with (fail)
 generalize (w.alloc (.cells #[.bool sa, .slice Aa na ca, .bool za, .slice Ba ma da, .bool sb, .slice Ab nb cb, .bool zb, .slice Bb mb db] 30)).alloc (.cells #[.bool sc, .slice Ac nc cc, .bool zc, .slice Bc mc dc, .bool se, .slice Ae ne ce, .bool ze, .slice Be me de] 30) = w0 at K0 ia ja ib jb ic jc ie je ⊢
 obtain ⟨p0, p1, p2, p3, p4, p5, p6, p7⟩ := (K0.blk (g := w.heap.size) (by repeat constructor)).c8
 obtain ⟨q0, q1, q2, q3, q4, q5, q6, q7⟩ := (K0.blk (g := w.heap.size + 1) (by repeat constructor)).c8
 go_wp2_with fail
 refine (same_frac_int sa za Aa Ba na ca ma da sc zc Ac Bc nc cc mc dc x y _ ia ja ic jc h1 h2).mono ?_
 rintro e1 w1 ⟨rfl, hb⟩
 have K1 := K0.next hb
 replace ib := ib.below hb
 replace jb := jb.below hb
 replace ie := ie.below hb
 replace je := je.below hb
 clear K0 hb ia ja ic jc p0 p1 p2 p3 p4 p5 p6 p7 q0 q1 q2 q3 q4 q5 q6 q7
 obtain ⟨p0, p1, p2, p3, p4, p5, p6, p7⟩ := (K1.blk (g := w.heap.size) (by repeat constructor)).c8
 obtain ⟨q0, q1, q2, q3, q4, q5, q6, q7⟩ := (K1.blk (g := w.heap.size + 1) (by repeat constructor)).c8
 go_wp2_with fail
 refine (same_frac_int sb zb Ab Bb nb cb mb db se ze Ae Be ne ce me de x' y' _ ib jb ie je h3 h4).mono ?_
 rintro e2 w2 ⟨rfl, hb⟩
 go_wp2_with fail
 go_ret
 exact ⟨rfl, (K1.next hb).1⟩
end Go.Proofs.YtgekmbfmfiikkaaGreatDoor
namespace Go.Proofs.YtgekmbfmfiikkaaGreatDoor
open Go.RowKit
theorem sq_lowQ {q : Rat} : (q * q).num = q.num * q.num ∧ (q * q).den = q.den * q.den := by
 have hc : Nat.gcd (q.num * q.num).natAbs (q.den * q.den) = 1 := by
  have h : Nat.gcd q.num.natAbs q.den = 1 := q.reduced
  have h1 : Nat.gcd (q.num.natAbs * q.num.natAbs) q.den = 1 := Nat.Coprime.mul_left h h
  rw [Int.natAbs_mul]
  exact Nat.Coprime.mul_right h1 h1
 rw [Rat.num_mul, Rat.den_mul, hc]
 exact ⟨Int.ediv_one _, Nat.div_one _⟩
theorem sq_posR {a : Rat} (h : a ≠ 0) : 0 < a * a := by
 have h0 := sq_nn a
 have h1 : a * a ≠ 0 := fun e => h (sq_zero e)
 grind
def KeepP (a b c d u v : Rat) : Prop := ((u * ((c * u) + (d - a))) - (v * (c * v))) = b ∧ ((u * (c * v)) + (v * ((c * u) + (d - a)))) = 0
theorem keep_mid {a b c d u v : Rat} (hv : 0 < v) (h : KeepP a b c d u v) : 2 * (c * u) = a - d := by
 obtain ⟨_, h2⟩ := h
 have e : v * (2 * (c * u) - (a - d)) = 0 := by grind
 rcases Rat.mul_eq_zero.1 e with k | k
 ·rw [k] at hv; exact absurd hv (by decide)
 ·grind
theorem keep_left {a b c d u v : Rat} (hdet : a * d - b * c = 1) (hv : 0 < v) (h : KeepP a b c d u v) : 4 - (a + d) * (a + d) = 4 * ((c * v) * (c * v)) := by
 have h1 := keep_mid hv h
 obtain ⟨h2, _⟩ := h
 have e1 : 4 * (c * u) * (c * u) = (a - d) * (a - d) := by grind
 have e2 : 4 * c * (((u * ((c * u) + (d - a))) - (v * (c * v)))) = 4 * c * b := by rw [h2]
 grind
theorem keep_far {a b c d u v : Rat} (hdet : a * d - b * c = 1) (hv : 0 < v) (h4 : ¬ 0 < 4 - (a + d) * (a + d)) : KeepP a b c d u v ↔ (b = 0 ∧ c = 0 ∧ a = d ∧ (a = 1 ∨ a = -1)) := by
 constructor
 ·intro h
  have hl := keep_left hdet hv h
  have hm := keep_mid hv h
  have hc : c = 0 := by
   by_cases hc : c = 0
   ·exact hc
   ·exfalso
    have hcv : c * v ≠ 0 := fun e => by
     rcases Rat.mul_eq_zero.1 e with k | k
     ·exact hc k
     ·rw [k] at hv; exact absurd hv (by decide)
    have := sq_posR hcv
    grind
  subst hc
  have ha : a = d := by grind
  subst ha
  obtain ⟨h2, _⟩ := h
  have hb : b = 0 := by grind
  have hs : (a - 1) * (a + 1) = 0 := by grind
  refine ⟨hb, rfl, rfl, ?_⟩
  rcases Rat.mul_eq_zero.1 hs with k | k
  ·left; grind
  ·right; grind
 ·rintro ⟨rfl, rfl, rfl, _⟩
  constructor <;> grind
theorem keep_near {a b c d u v : Rat} (hdet : a * d - b * c = 1) (hv : 0 < v) (h4 : 0 < 4 - (a + d) * (a + d)) : KeepP a b c d u v ↔ (u = (a - d) / (2 * c) ∧ v * v = (4 - (a + d) * (a + d)) / (4 * (c * c))) := by
 have hc : c ≠ 0 := fun e => by
  subst e
  have h1 : a * d = 1 := by grind
  have h2 : 0 ≤ (a - d) * (a - d) := sq_nn _
  grind
 have hc2 : (2 * c : Rat) ≠ 0 := by grind
 have hc4 : (4 * (c * c) : Rat) ≠ 0 := by
  have := sq_posR hc
  grind
 constructor
 ·intro h
  have hl := keep_left hdet hv h
  have hm := keep_mid hv h
  constructor
  ·grind
  ·grind
 ·rintro ⟨h1, h2⟩
  have e1 : 2 * (c * u) = a - d := by grind
  have e2 : 4 * (c * c) * (v * v) = 4 - (a + d) * (a + d) := by grind
  refine ⟨?_, by grind⟩
  have e3 : 4 * c * ((u * ((c * u) + (d - a))) - (v * (c * v)) - b) = 0 := by grind
  rcases Rat.mul_eq_zero.1 e3 with k | k
  ·grind
  ·grind
theorem rt_one {X k : Nat} (h : IsRt X k) {m : Nat} (hm : m * m = X) : k = m := by
 obtain ⟨h1, h2⟩ := h
 rcases Nat.lt_trichotomy k m with h | h | h
 ·have := Nat.mul_le_mul (show k + 1 ≤ m from h) (show k + 1 ≤ m from h); omega
 ·exact h
 ·have := Nat.mul_lt_mul'' h h; omega
theorem one_exact {V re u v : Rat} {M k1 k2 : Nat} {x y x' y' e : Int} {is : Bool} (hV : 0 < V) (h1 : IsRt V.num.natAbs k1) (h2 : IsRt V.den k2) (hA : AnsX V re M k1 k2 x y x' y' e is) (su : Sz u M) (sv : Sz v M) (hv : 0 < v) :
  (e = 0 ∨ e = 4) ∧ (decide (u = re) && decide (v * v = V)) = (decide (e = 0) && (is && ((decide (x = u.num) && decide (y = (u.den : Int))) && (decide (x' = v.num) && decide (y' = (v.den : Int)))))) := by
 have hp : 0 < V.num := Int.sign_eq_one_iff_pos.1 ((rat_num_sign _).1 hV)
 have hq : 0 < v.num := Int.sign_eq_one_iff_pos.1 ((rat_num_sign _).1 hv)
 have hsq : v * v = V → (k1 * k1 = V.num.natAbs ∧ k2 * k2 = V.den ∧ (k1 : Int) = v.num ∧ (k2 : Int) = (v.den : Int)) := fun hh => by
  obtain ⟨n1, n2⟩ := @sq_lowQ v
  rw [hh] at n1 n2
  have m1 : v.num.natAbs * v.num.natAbs = V.num.natAbs := by rw [n1, Int.natAbs_mul]
  have r1 := rt_one h1 m1
  have r2 := rt_one h2 n2.symm
  refine ⟨by rw [r1]; exact m1, by rw [r2]; exact n2.symm, by omega, by omega⟩
 rcases hA with ⟨hs, rfl, rfl, rfl, rfl, rfl, rfl⟩ | ⟨hs, hz, rfl, rfl, rfl, rfl, rfl, rfl⟩ | ⟨hs, hz, rfl, rfl, rfl, rfl, rfl, rfl⟩
 ·refine ⟨.inl rfl, ?_⟩
  have : decide (v * v = V) = false := decide_eq_false fun hh => by
   obtain ⟨a, b, _⟩ := hsq hh
   rw [decide_eq_true a, decide_eq_true b] at hs
   exact absurd hs (by decide)
  rw [this, Bool.and_false, Bool.false_and, Bool.and_false]
 ·refine ⟨.inl rfl, ?_⟩
  obtain ⟨b1, b2⟩ := (Bool.and_eq_true _ _).mp hs
  have b1 := of_decide_eq_true b1
  have b2 := of_decide_eq_true b2
  rw [decide_eq_true (rfl : (0 : Int) = 0), Bool.true_and, Bool.true_and]
  have key : (u = re ∧ v * v = V) ↔ ((re.num = u.num ∧ (re.den : Int) = (u.den : Int)) ∧ ((k1 : Int) = v.num ∧ (k2 : Int) = (v.den : Int))) := by
   constructor
   ·rintro ⟨rfl, hh⟩
    obtain ⟨_, _, c, d⟩ := hsq hh
    exact ⟨⟨rfl, rfl⟩, c, d⟩
   ·rintro ⟨⟨c1, c2⟩, c3, c4⟩
    refine ⟨Rat.ext c1.symm (by omega), ?_⟩
    obtain ⟨n1, n2⟩ := @sq_lowQ v
    refine Rat.ext ?_ ?_
    ·rw [n1, ← c3, ← Int.natCast_mul, b1]; omega
    ·rw [n2, ← b2]
     have : k2 = v.den := by omega
     rw [this]
  by_cases hk : u = re ∧ v * v = V
  ·obtain ⟨⟨c1, c2⟩, c3, c4⟩ := key.1 hk
   rw [decide_eq_true hk.1, decide_eq_true hk.2, decide_eq_true c1, decide_eq_true c2, decide_eq_true c3, decide_eq_true c4]; rfl
  ·have hk' := fun h => hk (key.2 h)
   have l1 : (decide (u = re) && decide (v * v = V)) = false := by
    rw [Bool.and_eq_false_iff]
    by_cases c : u = re
    ·exact .inr (decide_eq_false fun d => hk ⟨c, d⟩)
    ·exact .inl (decide_eq_false c)
   rw [l1]
   symm
   rw [← Bool.not_eq_true]
   intro hh
   simp only [Bool.and_eq_true, decide_eq_true_eq] at hh
   exact hk' hh
 ·refine ⟨.inr rfl, ?_⟩
  rw [show (decide ((4 : Int) = 0)) = false from by decide, Bool.false_and]
  rw [Bool.and_eq_false_iff]
  by_cases c : u = re
  ·right
   refine decide_eq_false fun hh => hz ?_
   obtain ⟨_, _, c3, c4⟩ := hsq hh
   subst c
   refine ⟨su, ?_, ?_⟩
   ·have := sv.1; rw [← c3, Int.natAbs_natCast] at this; exact this
   ·have := sv.2; have : k2 = v.den := by omega
    rw [this]; exact sv.2
  ·exact .inl (decide_eq_false c)
end Go.Proofs.YtgekmbfmfiikkaaGreatDoor
namespace Go.Proofs.YtgekmbfmfiikkaaGreatDoor
open Go.RowKit
theorem rcmp_three (x y : Rat) : rcmp x y = -1 ∨ rcmp x y = 0 ∨ rcmp x y = 1 := by
 unfold rcmp
 split
 ·exact .inl rfl
 ·split
  ·exact .inr (.inr rfl)
  ·exact .inr (.inl rfl)
end Go.Proofs.YtgekmbfmfiikkaaGreatDoor
