/-
  Which beam does a cavity keep? (plain)
  What becomes of any complex number behind any matrix, by both sides.
  A whole number is what another one is (SameInt).
  Is the twin of a whole number as it was? (LeftInt)
  Is the twin of a fraction as it was? (LeftFrac)
  The twin of a whole number (TwinInt): the same limbs in memory of its own, one more behind them.
-/
import Derived.Test.YtgekmbfmfiikkaaGreatDoorAnD
import Derived.Test.YtgekmbfmfiikkaaGreatDoorGoA
import Derived.Test.YtgekmbfmfiikkaaGreatDoorOwN
import Derived.Test.YtgekmbfmfiikkaaGreatDoorRlA
import Derived.Test.YtgekmbfmfiikkaaGreatDoorRefX
import Derived.Test.YtgekmbfmfiikkaaGreatDoorOwB
set_option maxHeartbeats 6400000
set_option maxRecDepth 100000
namespace Go.Proofs.YtgekmbfmfiikkaaGreatDoor
open Go.RowKit
theorem sq_nn (a : Rat) : 0 ≤ a * a := by
 rcases Rat.le_total (a := 0) (b := a) with h | h
 ·exact Rat.mul_nonneg h h
 ·have h1 : 0 ≤ -a := by grind
  have h2 := Rat.mul_nonneg h1 h1
  grind
theorem sq_zero {a : Rat} (h : a * a = 0) : a = 0 := by
 rcases Rat.mul_eq_zero.1 h with k | k <;> exact k
theorem behind_ne (xa xb xc xd xu xv : Rat) (hdet : xa * xd - xb * xc = 1) (hy : 0 < xv) : ((((((xc + 0) * xu) - (0 * xv)) + (xd + 0)) * ((((xc + 0) * xu) - (0 * xv)) + (xd + 0))) + (((((xc + 0) * xv) + (0 * xu)) + 0) * ((((xc + 0) * xv) + (0 * xu)) + 0))) ≠ 0 := by
 obtain ⟨k, hk⟩ : ∃ k, xc * xu + xd = k := ⟨_, rfl⟩
 obtain ⟨l, hl⟩ : ∃ l, xc * xv = l := ⟨_, rfl⟩
 obtain ⟨N, hN⟩ : ∃ N, k * k + l * l = N := ⟨_, rfl⟩
 have e1 : ((((((xc + 0) * xu) - (0 * xv)) + (xd + 0)) * ((((xc + 0) * xu) - (0 * xv)) + (xd + 0))) + (((((xc + 0) * xv) + (0 * xu)) + 0) * ((((xc + 0) * xv) + (0 * xu)) + 0))) = N := by grind
 rw [e1]
 intro h0
 have hk2 := sq_nn k
 have hl2 := sq_nn l
 have hk0 : k * k = 0 := by grind
 have hl0 : l * l = 0 := by grind
 have k0 : k = 0 := sq_zero hk0
 have l0 : l = 0 := sq_zero hl0
 have c0 : xc = 0 := by grind
 grind
theorem okM_parts {a b c d : LmE} (h : okM a b c d = true) : okB a = true ∧ okB b = true ∧ okB c = true ∧ okB d = true ∧ rv a * rv d - rv b * rv c = 1 := by
 unfold okM at h
 simp only [Bool.and_eq_true, decide_eq_true_eq] at h
 exact ⟨h.1.1.1.1, h.1.1.1.2, h.1.1.2, h.1.2, h.2⟩
end Go.Proofs.YtgekmbfmfiikkaaGreatDoor
namespace Go.Proofs.YtgekmbfmfiikkaaGreatDoor
open Go.RowKit
theorem zero_bigG {k : Nat} : (0 : Int).natAbs < 2 ^ k := Nat.two_pow_pos k
theorem goes_eq (xa xb xc xd xu xv : Rat) (hdet : xa * xd - xb * xc = 1) (hy : 0 < xv) : ((((xc * xu) + xd) * ((xc * xu) + xd)) + ((xc * xv) * (xc * xv))) ≠ 0 ∧ (((((((xa + 0) * xu) - (0 * xv)) + (xb + 0)) * (((((xc + 0) * xu) - (0 * xv)) + (xd + 0)) + 0)) - (((((xa + 0) * xv) + (0 * xu)) + 0) * (0 - ((((xc + 0) * xv) + (0 * xu)) + 0)))) / ((((((xc + 0) * xu) - (0 * xv)) + (xd + 0)) * ((((xc + 0) * xu) - (0 * xv)) + (xd + 0))) + (((((xc + 0) * xv) + (0 * xu)) + 0) * ((((xc + 0) * xv) + (0 * xu)) + 0)))) = (((((xa * xu) + xb) * ((xc * xu) + xd)) + ((xa * xv) * (xc * xv))) / ((((xc * xu) + xd) * ((xc * xu) + xd)) + ((xc * xv) * (xc * xv)))) ∧ (((((((xa + 0) * xu) - (0 * xv)) + (xb + 0)) * (0 - ((((xc + 0) * xv) + (0 * xu)) + 0))) + (((((xa + 0) * xv) + (0 * xu)) + 0) * (((((xc + 0) * xu) - (0 * xv)) + (xd + 0)) + 0))) / ((((((xc + 0) * xu) - (0 * xv)) + (xd + 0)) * ((((xc + 0) * xu) - (0 * xv)) + (xd + 0))) + (((((xc + 0) * xv) + (0 * xu)) + 0) * ((((xc + 0) * xv) + (0 * xu)) + 0)))) = (xv / ((((xc * xu) + xd) * ((xc * xu) + xd)) + ((xc * xv) * (xc * xv)))) := by
 have hN0 := behind_ne xa xb xc xd xu xv hdet hy
 have e1 : ((((((xc + 0) * xu) - (0 * xv)) + (xd + 0)) * ((((xc + 0) * xu) - (0 * xv)) + (xd + 0))) + (((((xc + 0) * xv) + (0 * xu)) + 0) * ((((xc + 0) * xv) + (0 * xu)) + 0))) = ((((xc * xu) + xd) * ((xc * xu) + xd)) + ((xc * xv) * (xc * xv))) := by grind
 have e2 : ((((((xa + 0) * xu) - (0 * xv)) + (xb + 0)) * (((((xc + 0) * xu) - (0 * xv)) + (xd + 0)) + 0)) - (((((xa + 0) * xv) + (0 * xu)) + 0) * (0 - ((((xc + 0) * xv) + (0 * xu)) + 0)))) = ((((xa * xu) + xb) * ((xc * xu) + xd)) + ((xa * xv) * (xc * xv))) := by grind
 have e3 : ((((((xa + 0) * xu) - (0 * xv)) + (xb + 0)) * (0 - ((((xc + 0) * xv) + (0 * xu)) + 0))) + (((((xa + 0) * xv) + (0 * xu)) + 0) * (((((xc + 0) * xu) - (0 * xv)) + (xd + 0)) + 0))) = xv := by grind
 rw [e1] at hN0
 refine ⟨hN0, ?_, ?_⟩
 ·rw [e1, e2]
 ·rw [e1, e3]
theorem ansG_ex (r s : Rat) (M : Nat) (hM : M = 2048) : ∃ x y x' y' v, AnsG r s x y x' y' v ∧ x.natAbs < 2 ^ (32 * M) ∧ y.natAbs < 2 ^ (32 * M) ∧ x'.natAbs < 2 ^ (32 * M) ∧ y'.natAbs < 2 ^ (32 * M) := by
 by_cases h : Sz r 2048 ∧ Sz s 2048
 ·have k : Sz r M := h.1.mono (by omega)
  have k' : Sz s M := h.2.mono (by omega)
  exact ⟨r.num, (r.den : Int), s.num, (s.den : Int), 0, .inl ⟨h, rfl, rfl, rfl, rfl, rfl⟩, k.1, by rw [Int.natAbs_natCast]; exact k.2, k'.1, by rw [Int.natAbs_natCast]; exact k'.2⟩
 ·exact ⟨0, 0, 0, 0, 4, .inr ⟨h, rfl, rfl, rfl, rfl, rfl⟩, zero_bigG, zero_bigG, zero_bigG, zero_bigG⟩
theorem chkBm_yesG {a b : LmE} (h : chkBm a b = 0) : okB a = true ∧ okB b = true ∧ 0 < rv b := by
 unfold chkBm at h
 cases ha : okB a <;> cases hb : okB b <;> rw [ha, hb] at h
 ·exact absurd h (by simp)
 ·exact absurd h (by simp)
 ·exact absurd h (by simp)
 ·by_cases hp : 0 < rv b
  ·exact ⟨rfl, rfl, hp⟩
  ·rw [if_neg hp] at h; exact absurd h (by decide)
theorem goes_all (sa : Bool) (Aa : Option Addr) (na ca : Nat) (la : List Nat) (za : Bool) (Ba : Option Addr) (ma da : Nat) (ka : List Nat) (sb : Bool) (Ab : Option Addr) (nb cb : Nat) (lb : List Nat) (zb : Bool) (Bb : Option Addr) (mb db : Nat) (kb : List Nat) (sc : Bool) (Ac : Option Addr) (nc cc : Nat) (lc : List Nat) (zc : Bool) (Bc : Option Addr) (mc dc : Nat) (kc : List Nat) (sd : Bool) (Ad : Option Addr) (nd cd : Nat) (ld : List Nat) (zd : Bool) (Bd : Option Addr) (md dd : Nat) (kd : List Nat) (su : Bool) (Au : Option Addr) (nu cu : Nat) (lu : List Nat) (zu : Bool) (Bu : Option Addr) (mu du : Nat) (ku : List Nat) (sv : Bool) (Av : Option Addr) (nv cv : Nat) (lv : List Nat) (zv : Bool) (Bv : Option Addr) (mv dv : Nat) (kv : List Nat) (M : Nat) (hM : M = 2048) (W0 : World) (aa : LmE.at_ W0 ((sa, Aa, na, ca, la), (za, Ba, ma, da, ka))) (ab : LmE.at_ W0 ((sb, Ab, nb, cb, lb), (zb, Bb, mb, db, kb))) (ac : LmE.at_ W0 ((sc, Ac, nc, cc, lc), (zc, Bc, mc, dc, kc))) (ad : LmE.at_ W0 ((sd, Ad, nd, cd, ld), (zd, Bd, md, dd, kd))) (au : LmE.at_ W0 ((su, Au, nu, cu, lu), (zu, Bu, mu, du, ku))) (av : LmE.at_ W0 ((sv, Av, nv, cv, lv), (zv, Bv, mv, dv, kv))) : ∃ (x y x' y' v eck : Int), (x.natAbs < 2 ^ (32 * M) ∧ y.natAbs < 2 ^ (32 * M) ∧ x'.natAbs < 2 ^ (32 * M) ∧ y'.natAbs < 2 ^ (32 * M)) ∧
  ∀ (Aa Ba : Option Addr) (na ca ma da : Nat) (Ab Bb : Option Addr) (nb cb mb db : Nat) (Ac Bc : Option Addr) (nc cc mc dc : Nat) (Ad Bd : Option Addr) (nd cd md dd : Nat) (Au Bu : Option Addr) (nu cu mu du : Nat) (Av Bv : Option Addr) (nv cv mv dv : Nat) (W : World), LmE.at_ W ((sa, Aa, na, ca, la), (za, Ba, ma, da, ka)) → LmE.at_ W ((sb, Ab, nb, cb, lb), (zb, Bb, mb, db, kb)) → LmE.at_ W ((sc, Ac, nc, cc, lc), (zc, Bc, mc, dc, kc)) → LmE.at_ W ((sd, Ad, nd, cd, ld), (zd, Bd, md, dd, kd)) → LmE.at_ W ((su, Au, nu, cu, lu), (zu, Bu, mu, du, ku)) → LmE.at_ W ((sv, Av, nv, cv, lv), (zv, Bv, mv, dv, kv)) →
   Calls Tryz.prog 13 #[.agg #[.bool sa, .slice Aa na ca, .bool za, .slice Ba ma da, .bool sb, .slice Ab nb cb, .bool zb, .slice Bb mb db, .bool sc, .slice Ac nc cc, .bool zc, .slice Bc mc dc, .bool sd, .slice Ad nd cd, .bool zd, .slice Bd md dd], .agg #[.bool su, .slice Au nu cu, .bool zu, .slice Bu mu du, .bool sv, .slice Av nv cv, .bool zv, .slice Bv mv dv]] W (RetG2 W x y x' y' v) ∧ Calls Tryz.prog 14 #[.agg #[.bool sa, .slice Aa na ca, .bool za, .slice Ba ma da, .bool sb, .slice Ab nb cb, .bool zb, .slice Bb mb db, .bool sc, .slice Ac nc cc, .bool zc, .slice Bc mc dc, .bool sd, .slice Ad nd cd, .bool zd, .slice Bd md dd], .agg #[.bool su, .slice Au nu cu, .bool zu, .slice Bu mu du, .bool sv, .slice Av nv cv, .bool zv, .slice Bv mv dv]] W (RetNG W x y x' y' v) ∧ Calls Tryz.prog 16 #[.agg #[.bool su, .slice Au nu cu, .bool zu, .slice Bu mu du, .bool sv, .slice Av nv cv, .bool zv, .slice Bv mv dv]] W (RetV W (.int .i64 eck)) ∧ Calls Tryz.prog 17 #[.agg #[.bool su, .slice Au nu cu, .bool zu, .slice Bu mu du, .bool sv, .slice Av nv cv, .bool zv, .slice Bv mv dv]] W (RetV W (.int .i64 eck)) := by
 obtain ⟨ck, hck⟩ : ∃ c, chkBm ((su, none, 0, 0, lu), (zu, none, 0, 0, ku)) ((sv, none, 0, 0, lv), (zv, none, 0, 0, kv)) = c := ⟨_, rfl⟩
 obtain ⟨ok, hok⟩ : ∃ b, okM ((sa, none, 0, 0, la), (za, none, 0, 0, ka)) ((sb, none, 0, 0, lb), (zb, none, 0, 0, kb)) ((sc, none, 0, 0, lc), (zc, none, 0, 0, kc)) ((sd, none, 0, 0, ld), (zd, none, 0, 0, kd)) = b := ⟨_, rfl⟩
 cases ok with
 | false =>
  refine ⟨0, 0, 0, 0, 1, ck, ⟨zero_bigG, zero_bigG, zero_bigG, zero_bigG⟩, ?_⟩
  intro Aa Ba na ca ma da Ab Bb nb cb mb db Ac Bc nc cc mc dc Ad Bd nd cd md dd Au Bu nu cu mu du Av Bv nv cv mv dv W ka0 kb0 kc0 kd0 ku0 kv0
  have hm : okM ((sa, Aa, na, ca, la), (za, Ba, ma, da, ka)) ((sb, Ab, nb, cb, lb), (zb, Bb, mb, db, kb)) ((sc, Ac, nc, cc, lc), (zc, Bc, mc, dc, kc)) ((sd, Ad, nd, cd, ld), (zd, Bd, md, dd, kd)) = false := hok
  exact ⟨owb_through_arg sa Aa na ca la za Ba ma da ka sb Ab nb cb lb zb Bb mb db kb sc Ac nc cc lc zc Bc mc dc kc sd Ad nd cd ld zd Bd md dd kd su Au nu cu lu zu Bu mu du ku sv Av nv cv lv zv Bv mv dv kv 1 W ka0 kb0 kc0 kd0 ku0 kv0 hm (Lib.hid rfl), ref15_through_arg sa Aa na ca la za Ba ma da ka sb Ab nb cb lb zb Bb mb db kb sc Ac nc cc lc zc Bc mc dc kc sd Ad nd cd ld zd Bd md dd kd su Au nu cu lu zu Bu mu du ku sv Av nv cv lv zv Bv mv dv kv 1 W ka0 kb0 kc0 kd0 ku0 kv0 hm (Lib.hid rfl), (by have h := beam_check_any su Au nu cu lu zu Bu mu du ku sv Av nv cv lv zv Bv mv dv kv W ku0 kv0; rwa [show chkBm ((su, Au, nu, cu, lu), (zu, Bu, mu, du, ku)) ((sv, Av, nv, cv, lv), (zv, Bv, mv, dv, kv)) = ck from hck] at h), (by have h := ref15_check_any su Au nu cu lu zu Bu mu du ku sv Av nv cv lv zv Bv mv dv kv W ku0 kv0; rwa [show chkBm ((su, Au, nu, cu, lu), (zu, Bu, mu, du, ku)) ((sv, Av, nv, cv, lv), (zv, Bv, mv, dv, kv)) = ck from hck] at h)⟩
 | true =>
  by_cases h0 : ck = 0
  ·obtain ⟨h1, h2, h3, h4, hdet⟩ := okM_parts hok
   obtain ⟨h5, h6, hp⟩ := chkBm_yesG (hck.trans h0)
   obtain ⟨xa, hxa⟩ : ∃ x, rv ((sa, none, 0, 0, la), (za, none, 0, 0, ka)) = x := ⟨_, rfl⟩
   obtain ⟨xb, hxb⟩ : ∃ x, rv ((sb, none, 0, 0, lb), (zb, none, 0, 0, kb)) = x := ⟨_, rfl⟩
   obtain ⟨xc, hxc⟩ : ∃ x, rv ((sc, none, 0, 0, lc), (zc, none, 0, 0, kc)) = x := ⟨_, rfl⟩
   obtain ⟨xd, hxd⟩ : ∃ x, rv ((sd, none, 0, 0, ld), (zd, none, 0, 0, kd)) = x := ⟨_, rfl⟩
   obtain ⟨xu, hxu⟩ : ∃ x, rv ((su, none, 0, 0, lu), (zu, none, 0, 0, ku)) = x := ⟨_, rfl⟩
   obtain ⟨xv, hxv⟩ : ∃ x, rv ((sv, none, 0, 0, lv), (zv, none, 0, 0, kv)) = x := ⟨_, rfl⟩
   rw [hxa, hxb, hxc, hxd] at hdet
   rw [hxv] at hp
   obtain ⟨hn, q1, q2⟩ := goes_eq xa xb xc xd xu xv hdet hp
   have hn2 := behind_ne xa xb xc xd xu xv hdet hp
   have ya : Sz xa 2048 := (show OkF W0 ((sa, Aa, na, ca, la), (za, Ba, ma, da, ka)) xa from ⟨aa, h1, hxa⟩).ints.2.2
   have yb : Sz xb 2048 := (show OkF W0 ((sb, Ab, nb, cb, lb), (zb, Bb, mb, db, kb)) xb from ⟨ab, h2, hxb⟩).ints.2.2
   have yc : Sz xc 2048 := (show OkF W0 ((sc, Ac, nc, cc, lc), (zc, Bc, mc, dc, kc)) xc from ⟨ac, h3, hxc⟩).ints.2.2
   have yd : Sz xd 2048 := (show OkF W0 ((sd, Ad, nd, cd, ld), (zd, Bd, md, dd, kd)) xd from ⟨ad, h4, hxd⟩).ints.2.2
   have yu : Sz xu 2048 := (show OkF W0 ((su, Au, nu, cu, lu), (zu, Bu, mu, du, ku)) xu from ⟨au, h5, hxu⟩).ints.2.2
   have yv : Sz xv 2048 := (show OkF W0 ((sv, Av, nv, cv, lv), (zv, Bv, mv, dv, kv)) xv from ⟨av, h6, hxv⟩).ints.2.2
   obtain ⟨r1, hr1⟩ : ∃ r, (((((xa * xu) + xb) * ((xc * xu) + xd)) + ((xa * xv) * (xc * xv))) / ((((xc * xu) + xd) * ((xc * xu) + xd)) + ((xc * xv) * (xc * xv)))) = r := ⟨_, rfl⟩
   obtain ⟨r2, hr2⟩ : ∃ r, (xv / ((((xc * xu) + xd) * ((xc * xu) + xd)) + ((xc * xv) * (xc * xv)))) = r := ⟨_, rfl⟩
   have sk : Sz ((((xc * xu) + xd) * ((xc * xu) + xd)) + ((xc * xv) * (xc * xv))) 40000 := (Sz.add (Sz.mul (Sz.add (Sz.mul yc yu) yd) (Sz.add (Sz.mul yc yu) yd)) (Sz.mul (Sz.mul yc yv) (Sz.mul yc yv))).mono (by decide)
   have z1 : Sz r1 100000 := by rw [← hr1]; exact (Sz.div (Sz.add (Sz.mul (Sz.add (Sz.mul ya yu) yb) (Sz.add (Sz.mul yc yu) yd)) (Sz.mul (Sz.mul ya yv) (Sz.mul yc yv))) sk hn).mono (by decide)
   have z2 : Sz r2 100000 := by rw [← hr2]; exact (Sz.div yv sk hn).mono (by decide)
   obtain ⟨x, y, x', y', v, hA, b1, b2, b3, b4⟩ := ansG_ex r1 r2 M hM
   refine ⟨x, y, x', y', v, ck, ⟨b1, b2, b3, b4⟩, ?_⟩
   intro Aa Ba na ca ma da Ab Bb nb cb mb db Ac Bc nc cc mc dc Ad Bd nd cd md dd Au Bu nu cu mu du Av Bv nv cv mv dv W ka0 kb0 kc0 kd0 ku0 kv0
   have oa : OkF W ((sa, Aa, na, ca, la), (za, Ba, ma, da, ka)) xa := ⟨ka0, h1, hxa⟩
   have ob : OkF W ((sb, Ab, nb, cb, lb), (zb, Bb, mb, db, kb)) xb := ⟨kb0, h2, hxb⟩
   have oc : OkF W ((sc, Ac, nc, cc, lc), (zc, Bc, mc, dc, kc)) xc := ⟨kc0, h3, hxc⟩
   have od : OkF W ((sd, Ad, nd, cd, ld), (zd, Bd, md, dd, kd)) xd := ⟨kd0, h4, hxd⟩
   have ou : OkF W ((su, Au, nu, cu, lu), (zu, Bu, mu, du, ku)) xu := ⟨ku0, h5, hxu⟩
   have ov : OkF W ((sv, Av, nv, cv, lv), (zv, Bv, mv, dv, kv)) xv := ⟨kv0, h6, hxv⟩
   exact ⟨owb_through_yes sa Aa na ca la za Ba ma da ka xa sb Ab nb cb lb zb Bb mb db kb xb sc Ac nc cc lc zc Bc mc dc kc xc sd Ad nd cd ld zd Bd md dd kd xd su Au nu cu lu zu Bu mu du ku xu sv Av nv cv lv zv Bv mv dv kv xv 2048 r1 r2 x y x' y' v W oa ya ob yb oc yc od yd ou yu ov yv (by decide) hdet hp hn (Lib.hid hr1) (Lib.hid hr2) z1 z2 hA, ref15_through_yes sa Aa na ca la za Ba ma da ka xa sb Ab nb cb lb zb Bb mb db kb xb sc Ac nc cc lc zc Bc mc dc kc xc sd Ad nd cd ld zd Bd md dd kd xd su Au nu cu lu zu Bu mu du ku xu sv Av nv cv lv zv Bv mv dv kv xv 2048 r1 r2 x y x' y' v W oa ya ob yb oc yc od yd ou yu ov yv (by decide) hdet hp hn2 (Lib.hid (q1.trans hr1)) (Lib.hid (q2.trans hr2)) z1 z2 hA, (by have h := beam_check_any su Au nu cu lu zu Bu mu du ku sv Av nv cv lv zv Bv mv dv kv W ku0 kv0; rwa [show chkBm ((su, Au, nu, cu, lu), (zu, Bu, mu, du, ku)) ((sv, Av, nv, cv, lv), (zv, Bv, mv, dv, kv)) = ck from hck] at h), (by have h := ref15_check_any su Au nu cu lu zu Bu mu du ku sv Av nv cv lv zv Bv mv dv kv W ku0 kv0; rwa [show chkBm ((su, Au, nu, cu, lu), (zu, Bu, mu, du, ku)) ((sv, Av, nv, cv, lv), (zv, Bv, mv, dv, kv)) = ck from hck] at h)⟩
  ·refine ⟨0, 0, 0, 0, ck, ck, ⟨zero_bigG, zero_bigG, zero_bigG, zero_bigG⟩, ?_⟩
   intro Aa Ba na ca ma da Ab Bb nb cb mb db Ac Bc nc cc mc dc Ad Bd nd cd md dd Au Bu nu cu mu du Av Bv nv cv mv dv W ka0 kb0 kc0 kd0 ku0 kv0
   have hm : okM ((sa, Aa, na, ca, la), (za, Ba, ma, da, ka)) ((sb, Ab, nb, cb, lb), (zb, Bb, mb, db, kb)) ((sc, Ac, nc, cc, lc), (zc, Bc, mc, dc, kc)) ((sd, Ad, nd, cd, ld), (zd, Bd, md, dd, kd)) = true := hok
   exact ⟨owb_through_no sa Aa na ca la za Ba ma da ka sb Ab nb cb lb zb Bb mb db kb sc Ac nc cc lc zc Bc mc dc kc sd Ad nd cd ld zd Bd md dd kd su Au nu cu lu zu Bu mu du ku sv Av nv cv lv zv Bv mv dv kv ck W ka0 kb0 kc0 kd0 ku0 kv0 hm (Lib.hid hck) h0, ref15_through_no sa Aa na ca la za Ba ma da ka sb Ab nb cb lb zb Bb mb db kb sc Ac nc cc lc zc Bc mc dc kc sd Ad nd cd ld zd Bd md dd kd su Au nu cu lu zu Bu mu du ku sv Av nv cv lv zv Bv mv dv kv ck W ka0 kb0 kc0 kd0 ku0 kv0 hm (Lib.hid hck) h0, (by have h := beam_check_any su Au nu cu lu zu Bu mu du ku sv Av nv cv lv zv Bv mv dv kv W ku0 kv0; rwa [show chkBm ((su, Au, nu, cu, lu), (zu, Bu, mu, du, ku)) ((sv, Av, nv, cv, lv), (zv, Bv, mv, dv, kv)) = ck from hck] at h), (by have h := ref15_check_any su Au nu cu lu zu Bu mu du ku sv Av nv cv lv zv Bv mv dv kv W ku0 kv0; rwa [show chkBm ((su, Au, nu, cu, lu), (zu, Bu, mu, du, ku)) ((sv, Av, nv, cv, lv), (zv, Bv, mv, dv, kv)) = ck from hck] at h)⟩
end Go.Proofs.YtgekmbfmfiikkaaGreatDoor
namespace Go.Proofs.YtgekmbfmfiikkaaGreatDoor
open Go.RowKit
theorem same_int_any (neg : Bool) (A A' : Option Addr) (n c c' : Nat) (l : List Nat) (w : World) (ha : Sl w A n c l) (hb : Sl w A' n c' l) (hn : n ≤ 1000000000) :
  Calls Tryz.prog 123 #[.agg #[.bool neg, .slice A n c], .agg #[.bool neg, .slice A' n c']] w (RetV w (.bool true)) := by
 have K0 := ((Mm.nil w).var (g := w.heap.size) rfl [.bool neg, .slice A n c] 24).var (g := w.heap.size + 1) (by simp) [.bool neg, .slice A' n c'] 24
 have ha0 := ha.below K0.1
 have hb0 := hb.below K0.1
 clear ha hb
 go_enter Tryz.func123, Tryz.ntmps123
 go_wp2_with fail
 generalize (w.alloc (.cells #[.bool neg, .slice A n c] 24)).alloc (.cells #[.bool neg, .slice A' n c'] 24) = w0 at K0 ha0 hb0 ⊢
 go_loopw [5] (fun ix wr => ∃ k : Nat, k ≤ n ∧ ix = .int .i64 (k : Int) ∧ Sl wr A n c l ∧ Sl wr A' n c' l ∧ Mm w [(w.heap.size, [.bool neg, .slice A n c]), (w.heap.size + 1, [.bool neg, .slice A' n c'])] [] wr) (fun ix _ => n - (intOf ix).toNat)
 case atStart => exact ⟨0, Nat.zero_le _, rfl, ha0, hb0, K0.pick (by simp) (by simp)⟩
 case round =>
  clear ha0 hb0 K0
  obtain ⟨k, hk, rfl, ha0, hb0, K0⟩ := hrel
  obtain ⟨_, _, _, _, _⟩ := (K0.blk (g := w.heap.size) (by repeat constructor)).two
  obtain ⟨_, _, _, _, _⟩ := (K0.blk (g := w.heap.size + 1) (by repeat constructor)).two
  by_cases hkn : k = n
  ·subst hkn
   go_wp2_with fail
   go_ret
   exact ⟨rfl, K0.1⟩
  ·have hlt : k < n := by omega
   obtain ⟨ad, rfl, _, hld, hcd, _⟩ := ha0.at_ hlt
   obtain ⟨bd, rfl, _, _, hce, _⟩ := hb0.at_ hlt
   obtain ⟨x, hx⟩ : ∃ x, l[k] = x := ⟨_, rfl⟩
   rw [hx] at hcd hce
   have hlt' : (k : Int) < (n : Int) := by omega
   have hk0 : (0 : Int) ≤ (k : Int) := Int.natCast_nonneg _
   clear hx hkn
   go_wp2_with fail
   go_quiet (fail)
   go_wp2_with fail
   go_roundw
   case rel => exact ⟨k + 1, hlt, congrArg (Value.int .i64) (by omega), ha0.drewN _, hb0.drewN _, K0.drewN _⟩
   case measure => simp [intOf] <;> omega
end Go.Proofs.YtgekmbfmfiikkaaGreatDoor
namespace Go.Proofs.YtgekmbfmfiikkaaGreatDoor
open Go.RowKit
def Twl (w : World) (g n c : Nat) (l : List Nat) : Prop := n + 1 ≤ c ∧ Sl w (some ⟨g, 0, none⟩) n c l ∧ g < w.heap.size ∧ w.cell? ⟨g, n, none⟩ = some (.int .u32 7777)
theorem Twl.below {w w' : World} {g n c : Nat} {l : List Nat} (h : Twl w g n c l) (hb : Below w.heap.size w w') : Twl w' g n c l :=
 ⟨h.1, h.2.1.below hb, Nat.lt_of_lt_of_le h.2.2.1 hb.size, ((bcell hb).1 _ _ h.2.2.1).trans h.2.2.2⟩
theorem left_int_any (neg : Bool) (A : Option Addr) (n c g c' : Nat) (l : List Nat) (w : World) (ha : Sl w A n c l) (ht : Twl w g n c' l) (hn : n ≤ 1000000000) :
  Calls Tryz.prog 176 #[.agg #[.bool neg, .slice (some ⟨g, 0, none⟩) n c'], .agg #[.bool neg, .slice A n c]] w (RetV w (.bool true)) := by
 have K0 := ((Mm.nil w).var (g := w.heap.size) rfl [.bool neg, .slice (some ⟨g, 0, none⟩) n c'] 24).var (g := w.heap.size + 1) (by simp) [.bool neg, .slice A n c] 24
 have ha0 := ha.below K0.1
 have ht0 := ht.below K0.1
 have hcap : (n : Int) < (c' : Int) := by have := ht.1; omega
 have hcap1 : n + 1 ≤ c' := ht.1
 have hcap3 : (n : Int) + 1 ≤ (c' : Int) := by omega
 have hl0 : (0 : Int) ≤ (n : Int) + 1 := by omega
 have hl1 : (n : Int) < (n : Int) + 1 := by omega
 have hwr : IntKind.i64.wrap ((n : Int) + 1) = (n : Int) + 1 := IntWalk.i64_in _ (by omega)
 have hl2 : ((n : Int) + 1).toNat = n + 1 := by omega
 have hcap4 : ¬ (c' : Int) ≤ (n : Int) := by omega
 have hcap5 : ¬ (c' : Int) < (n : Int) + 1 := by omega
 have hcap6 : ¬ c' < n + 1 := by omega
 have hcap7 : n < c' := by omega
 clear ha ht
 go_enter Tryz.func176, Tryz.ntmps176
 go_wp2_with fail
 generalize (w.alloc (.cells #[.bool neg, .slice (some ⟨g, 0, none⟩) n c'] 24)).alloc (.cells #[.bool neg, .slice A n c] 24) = w0 at K0 ha0 ht0 ⊢
 obtain ⟨_, _, _, _, _⟩ := (K0.blk (g := w.heap.size) (by repeat constructor)).two
 obtain ⟨_, _, _, _, _⟩ := (K0.blk (g := w.heap.size + 1) (by repeat constructor)).two
 have qs := ht0.2.2.2
 go_region_held3 (fun w' => w'.cell? ⟨w.heap.size, 0, none⟩ = some (.bool neg) ∧ w'.cell? ⟨w.heap.size, 1, none⟩ = some (.slice (some ⟨g, 0, none⟩) n c') ∧ w'.cell? ⟨w.heap.size + 1, 0, none⟩ = some (.bool neg) ∧ w'.cell? ⟨w.heap.size + 1, 1, none⟩ = some (.slice A n c) ∧ w'.cell? ⟨g, n, none⟩ = some (.int .u32 7777))
  (go_keep)
  (first
   | (go_at_call 123; apply Calls.withMm (w0 := w); (case K => with_reducible repeat (first | exact K0 | apply Mm.drew | apply Mm.drewN)); intro KX; (with_reducible refine (same_int_any neg (some ⟨g, 0, none⟩) A n c' c l _ ?_ ?_ hn).mono ?_); (exact ht0.2.1); (exact ha0); rintro e1 w1 ⟨rfl, hb1⟩; (with_reducible have K1 := KX.next hb1); have ht1 := ht0.below (below_of_drew hb1); obtain ⟨xa0, xb0, xc0, xd0, xe0⟩ := (K1.blk (g := w.heap.size) (by repeat constructor)).two; obtain ⟨xa1, xb1, xc1, xd1, xe1⟩ := (K1.blk (g := w.heap.size + 1) (by repeat constructor)).two; have xs := ht1.2.2.2; clear KX hb1))
 go_wp2_with fail
 go_ret
 exact ⟨rfl, K1.1⟩
end Go.Proofs.YtgekmbfmfiikkaaGreatDoor
namespace Go.Proofs.YtgekmbfmfiikkaaGreatDoor
open Go.RowKit
theorem left_frac_any (neg neg' : Bool) (A A' : Option Addr) (n c n' c' g d g' d' : Nat) (l l' : List Nat) (w : World) (ha : Sl w A n c l) (hb : Sl w A' n' c' l') (ht : Twl w g n d l) (hu : Twl w g' n' d' l') (hn : n ≤ 1000000000) (hn' : n' ≤ 1000000000) :
  Calls Tryz.prog 59 #[.agg #[.bool neg, .slice (some ⟨g, 0, none⟩) n d, .bool neg', .slice (some ⟨g', 0, none⟩) n' d'], .agg #[.bool neg, .slice A n c, .bool neg', .slice A' n' c']] w (RetV w (.bool true)) := by
 have K0 := ((Mm.nil w).var (g := w.heap.size) rfl [.bool neg, .slice (some ⟨g, 0, none⟩) n d, .bool neg', .slice (some ⟨g', 0, none⟩) n' d'] 26).var (g := w.heap.size + 1) (by simp) [.bool neg, .slice A n c, .bool neg', .slice A' n' c'] 26
 have ha0 := ha.below K0.1
 have hb0 := hb.below K0.1
 have ht0 := ht.below K0.1
 have hu0 := hu.below K0.1
 clear ha hb ht hu
 go_enter Tryz.func59, Tryz.ntmps59
 go_wp2_with fail
 refine (left_int_any neg A n c g d l _ ha0 ht0 hn).mono ?_
 rintro e1 w1 ⟨rfl, hb1⟩
 have K1 := K0.next hb1
 have hb2 := hb0.below hb1
 have hu2 := hu0.below hb1
 obtain ⟨⟨_, _, _, _⟩, _, _⟩ := (K1.blk (g := w.heap.size) (by repeat constructor)).four
 obtain ⟨⟨_, _, _, _⟩, _, _⟩ := (K1.blk (g := w.heap.size + 1) (by repeat constructor)).four
 clear K0 ha0 hb0 ht0 hu0 hb1
 go_wp2_with fail
 refine (left_int_any neg' A' n' c' g' d' l' _ hb2 hu2 hn').mono ?_
 rintro e2 w2 ⟨rfl, hb3⟩
 have K2 := K1.next hb3
 go_wp2_with fail
 go_ret
 exact ⟨rfl, K2.1⟩
end Go.Proofs.YtgekmbfmfiikkaaGreatDoor
namespace Go.Proofs.YtgekmbfmfiikkaaGreatDoor
open Go.RowKit
theorem run_append_room1 {P : Program} (w : World) (base : Nat) (t ty e : TypeId) (i : TypeInfo) (ht : P.underlying t = some (.slice e)) (hi : P.info? e = some i) (hsize : i.size = 1)
  (g k cap : Nat) (xs : List Value) (hown : w.ownsRow base e 1 (.slice (some ⟨g, 0, none⟩) k cap) k xs) (B : Nat) (A : Option Addr) (m c : Nat) (news : List Value) (hr : Reads w B A m news) (h1 : ∀ u ∈ news, u.oneCell' = true) (hroom : k + m ≤ cap) :
  ∃ w', (Builtin.append_ #[t, t] ty #[.slice (some ⟨g, 0, none⟩) k cap, .slice A m c]).run P w = .ok (.slice (some ⟨g, 0, none⟩) (k + m) cap) w' ∧ w'.ownsRow base e 1 (.slice (some ⟨g, 0, none⟩) (k + m) cap) (k + m) (xs ++ news) ∧ w.grownBy w' (some g) := by
 rcases A with _ | ad
 ·have hm : m = 0 := by
   rcases Nat.eq_zero_or_pos m with h0 | h0
   ·exact h0
   ·obtain ⟨ad, h, _⟩ := hr.2 h0
    cases h
  subst hm
  have hn : news = [] := List.eq_nil_of_length_eq_zero hr.1
  subst hn
  exact ⟨w, run_append_of_nil w base t ty e i ht hi _ k xs hown c, by simpa using hown, World.grownBy.refl w _⟩
 ·have hcells : ∀ j u, news[j]? = some u → w.cell? (ad.add j) = some u := by
   intro j u hu
   rcases Nat.eq_zero_or_pos m with h0 | h0
   ·subst h0
    have hn : news = [] := List.eq_nil_of_length_eq_zero hr.1
    subst hn
    simp at hu
   ·obtain ⟨ad', h, _, hc⟩ := hr.2 h0
    injection h with h
    subst h
    exact hc j u hu
  exact run_append_fits (P := P) w base t ty e i 1 ht hi hsize g k cap xs hown ad m c news (by rw [hr.1, Nat.mul_one]) hcells h1 hroom
theorem wp_append_room1 {P : Program} (w : World) {o : Oper} {a : Act} {K : Act → World → Prop} {Q : Exit → Act → World → Prop} (s x : Operand) (t : TypeId)
  (ho : o.op = .call { callee := .builtin .append, args := #[s, x], argTypes := #[t, t] })
  (base : Nat) (e : TypeId) (i : TypeInfo) (ht : P.underlying t = some (.slice e)) (hi : P.info? e = some i) (hsize : i.size = 1)
  (g k cap : Nat) (xs : List Value) (hs : a.eval s = .slice (some ⟨g, 0, none⟩) k cap) (hown : w.ownsRow base e 1 (.slice (some ⟨g, 0, none⟩) k cap) k xs) (B : Nat) (A : Option Addr) (m c : Nat) (news : List Value) (hx : a.eval x = .slice A m c) (hr : Reads w B A m news) (h1 : ∀ u ∈ news, u.oneCell' = true) (hroom : k + m ≤ cap)
  (h : ∀ w', w'.ownsRow base e 1 (.slice (some ⟨g, 0, none⟩) (k + m) cap) (k + m) (xs ++ news) → w.grownBy w' (some g) → K (a.put o.dst (.slice (some ⟨g, 0, none⟩) (k + m) cap)) w') : o.wp P a w K Q := by
 obtain ⟨w', hrun, h2, h3⟩ := run_append_room1 (P := P) w base t o.type e i ht hi hsize g k cap xs hown B A m c news hr h1 hroom
 unfold Oper.wp execOp
 simp only [ho, resolve, invoke, builtin, Sem.run_bind, Sem.run_pure, Result.andThen_ok, List.map_toArray, List.map_cons, List.map_nil, hs, hx, hrun]
 exact h w' h2 h3
theorem wpList_append_room1 {P : Program} (w : World) {ops : Array Oper} {rest : List Oper} {o : Oper} {a : Act} {Q : Exit → Act → World → Prop} (hgd : o.guard = none) (s x : Operand) (t : TypeId)
  (ho : o.op = .call { callee := .builtin .append, args := #[s, x], argTypes := #[t, t] })
  (base : Nat) (e : TypeId) (i : TypeInfo) (ht : P.underlying t = some (.slice e)) (hi : P.info? e = some i) (hsize : i.size = 1)
  (g k cap : Nat) (xs : List Value) (hs : a.eval s = .slice (some ⟨g, 0, none⟩) k cap) (hown : w.ownsRow base e 1 (.slice (some ⟨g, 0, none⟩) k cap) k xs) (B : Nat) (A : Option Addr) (m c : Nat) (news : List Value) (hx : a.eval x = .slice A m c) (hr : Reads w B A m news) (h1 : ∀ u ∈ news, u.oneCell' = true) (hroom : k + m ≤ cap)
  (h : ∀ w', w'.ownsRow base e 1 (.slice (some ⟨g, 0, none⟩) (k + m) cap) (k + m) (xs ++ news) → w.grownBy w' (some g) → wpList P ops Q rest (a.put o.dst (.slice (some ⟨g, 0, none⟩) (k + m) cap)) w') : wpList P ops Q (o :: rest) a w :=
 wpList_plain hgd fun _ hK => wp_append_room1 w s x t ho base e i ht hi hsize g k cap xs hs hown B A m c news hx hr h1 hroom fun w' h2 h3 => hK _ _ (h w' h2 h3)
theorem step_append_room1 {P : Program} (w : World) {ops : Array Oper} {o : Oper} {a : Act} {K : Act → World → Prop} {Q : Exit → Act → World → Prop} {E : Prop} (hgd : o.guard = none) (s x : Operand) (t : TypeId)
  (ho : o.op = .call { callee := .builtin .append, args := #[s, x], argTypes := #[t, t] })
  (base : Nat) (e : TypeId) (i : TypeInfo) (ht : P.underlying t = some (.slice e)) (hi : P.info? e = some i) (hsize : i.size = 1)
  (g k cap : Nat) (xs : List Value) (hs : a.eval s = .slice (some ⟨g, 0, none⟩) k cap) (hown : w.ownsRow base e 1 (.slice (some ⟨g, 0, none⟩) k cap) k xs) (B : Nat) (A : Option Addr) (m c : Nat) (news : List Value) (hx : a.eval x = .slice A m c) (hr : Reads w B A m news) (h1 : ∀ u ∈ news, u.oneCell' = true) (hroom : k + m ≤ cap)
  (h : ∀ w', w'.ownsRow base e 1 (.slice (some ⟨g, 0, none⟩) (k + m) cap) (k + m) (xs ++ news) → w.grownBy w' (some g) → K (a.put o.dst (.slice (some ⟨g, 0, none⟩) (k + m) cap)) w') :
  if Region.wanted o (yielded ops a.tmps) = true then Oper.wp P o a w K Q else E := by
 have hw : Region.wanted o (yielded ops a.tmps) = true := by simp [Region.wanted, hgd]
 rw [if_pos hw]
 exact wp_append_room1 w s x t ho base e i ht hi hsize g k cap xs hs hown B A m c news hx hr h1 hroom h
theorem below_to_drew {B : Nat} {a w : World} (h : Below B a w) : Below B a w.drew := ⟨h.os, h.tape, h.output, h.size, h.block⟩
theorem Twl.far {w : World} {g n c : Nat} {l : List Nat} (h : Twl w g n c l) {p : Addr} (v : Value) (hp : p.block ≠ g) : Twl (w.setCell p v) g n c l := by
 refine ⟨h.1, h.2.1.store_far v (fun ad he => ?_), by simpa [World.setCell] using h.2.2.1, ?_⟩
 ·injection he with he
  subst he
  exact fun e => hp e.symm
 ·rw [World.cell?_setCell_other w p ⟨g, n, none⟩ v (by intro e; rw [e] at hp; exact hp rfl)]
  exact h.2.2.2
theorem twl_of_own {w : World} {base g n : Nat} {l : List Nat} (h : w.ownsRow base 164 1 (.slice (some ⟨g, 0, none⟩) (n + 1) (n + 1)) (n + 1) (u32s l ++ [.int .u32 7777])) (hl : l.length = n) (hok : Lm.ok l) : Twl w g n (n + 1) l := by
 have hr := Reads.of_own h
 have hlen : (u32s l).length = n := by unfold u32s; simpa using hl
 have ht := hr.take (Nat.le_succ n)
 rw [List.take_left' hlen] at ht
 obtain ⟨ad, e, hb, hc⟩ := hr.2 (by omega)
 injection e with e
 subst e
 refine ⟨Nat.le_refl _, ⟨ht, Nat.le_succ n, hok⟩, hb, ?_⟩
 have := hc n (.int .u32 7777) (by rw [List.getElem?_append_right (by omega), hlen, Nat.sub_self]; rfl)
 rwa [Addr.add_lit, Nat.zero_add] at this
end Go.Proofs.YtgekmbfmfiikkaaGreatDoor
