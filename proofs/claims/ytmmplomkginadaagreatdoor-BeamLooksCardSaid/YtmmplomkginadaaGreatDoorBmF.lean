/-
  What is told of any complex number as a beam, by both sides.
  The size and the curve of a beam that may be (beam.Size, Curve).
-/
import Derived.Test.YtmmplomkginadaaGreatDoorOwJ
import Derived.Test.YtmmplomkginadaaGreatDoorRlB
import Derived.Test.YtmmplomkginadaaGreatDoorOwI
import Derived.Test.YtmmplomkginadaaGreatDoorBmD
import Derived.Test.YtmmplomkginadaaGreatDoorAnD
namespace Go.Proofs.YtmmplomkginadaaGreatDoor
open Go.RowKit

theorem zero_big {k : Nat} : (0 : Int).natAbs < 2 ^ k := Nat.two_pow_pos k
theorem ans_ex (r : Rat) (M : Nat) (hM : M = 2048) : ∃ x y v, AnsOf r x y v ∧ x.natAbs < 2 ^ (32 * M) ∧ y.natAbs < 2 ^ (32 * M) := by
  by_cases h : Sz r 2048
  · have k : Sz r M := h.mono (by omega)
    exact ⟨r.num, (r.den : Int), 0, .inl ⟨h, rfl, rfl, rfl⟩, k.1, by rw [Int.natAbs_natCast]; exact k.2⟩
  · exact ⟨0, 0, 4, .inr ⟨h, rfl, rfl, rfl⟩, zero_big, zero_big⟩
theorem chkBm_yes0 {a b : LmE} (h : chkBm a b = 0) : okB a = true ∧ okB b = true ∧ 0 < rv b := by
  unfold chkBm at h
  cases ha : okB a <;> cases hb : okB b <;> rw [ha, hb] at h
  · exact absurd h (by simp)
  · exact absurd h (by simp)
  · exact absurd h (by simp)
  · by_cases hp : 0 < rv b
    · exact ⟨rfl, rfl, hp⟩
    · rw [if_neg hp] at h; exact absurd h (by decide)
theorem norm_ne {x y : Rat} (h : 0 < y) : x * x + y * y ≠ 0 := by
  have h1 : 0 < y * y := Rat.mul_pos h h
  have h2 : 0 ≤ x * x := by
    rcases Rat.le_total (a := 0) (b := x) with h | h
    · exact Rat.mul_nonneg h h
    · have := Rat.mul_nonneg (a := -x) (b := -x) (by grind) (by grind)
      grind
  intro e
  have : 0 < x * x + y * y := by grind
  rw [e] at this
  exact absurd this (by decide)
theorem owb_size_any (su : Bool) (Au : Option Addr) (nu cu : Nat) (lu : List Nat) (zu : Bool) (Bu : Option Addr) (mu du : Nat) (ku : List Nat) (sv : Bool) (Av : Option Addr) (nv cv : Nat) (lv : List Nat) (zv : Bool) (Bv : Option Addr) (mv dv : Nat) (kv : List Nat) (xu xv : Rat) (r : Rat) (x y v : Int) (w : World) (ou : OkF w ((su, Au, nu, cu, lu), (zu, Bu, mu, du, ku)) xu) (ov : OkF w ((sv, Av, nv, cv, lv), (zv, Bv, mv, dv, kv)) xv) (hv : 0 < xv) (h0 : xv ≠ 0) (hr : Hid ((((xu * xu) + (xv * xv)) / xv) = r)) (ha : AnsOf r x y v) :
    Calls Tryz.prog 32 #[.agg #[.bool su, .slice Au nu cu, .bool zu, .slice Bu mu du, .bool sv, .slice Av nv cv, .bool zv, .slice Bv mv dv]] w (RetF2 w x y v) :=
  owb_size_of su Au nu cu lu zu Bu mu du ku sv Av nv cv lv zv Bv mv dv kv x y v w ou.1 ov.1 (fun W a b => by
    have pu : OkF W ((su, Au, nu, cu, lu), (zu, Bu, mu, du, ku)) xu := ⟨a, ou.2⟩
    have pv : OkF W ((sv, Av, nv, cv, lv), (zv, Bv, mv, dv, kv)) xv := ⟨b, ov.2⟩
    rcases ha with ⟨hs, rfl, rfl, rfl⟩ | ⟨hs, rfl, rfl, rfl⟩
    · exact owb_asked_size_ok su Au nu cu lu zu Bu mu du ku xu sv Av nv cv lv zv Bv mv dv kv xv 2048 r W pu pu.ints.2.2 pv pv.ints.2.2 (Nat.le_refl _) hv h0 hr hs
    · exact owb_asked_size_long su Au nu cu lu zu Bu mu du ku xu sv Av nv cv lv zv Bv mv dv kv xv 2048 r W pu pu.ints.2.2 pv pv.ints.2.2 (Nat.le_refl _) hv h0 hr hs)
theorem owb_curve_any (su : Bool) (Au : Option Addr) (nu cu : Nat) (lu : List Nat) (zu : Bool) (Bu : Option Addr) (mu du : Nat) (ku : List Nat) (sv : Bool) (Av : Option Addr) (nv cv : Nat) (lv : List Nat) (zv : Bool) (Bv : Option Addr) (mv dv : Nat) (kv : List Nat) (xu xv : Rat) (r : Rat) (x y v : Int) (w : World) (ou : OkF w ((su, Au, nu, cu, lu), (zu, Bu, mu, du, ku)) xu) (ov : OkF w ((sv, Av, nv, cv, lv), (zv, Bv, mv, dv, kv)) xv) (hv : 0 < xv) (h0 : ((xu * xu) + (xv * xv)) ≠ 0) (hr : Hid ((xu / ((xu * xu) + (xv * xv))) = r)) (ha : AnsOf r x y v) :
    Calls Tryz.prog 33 #[.agg #[.bool su, .slice Au nu cu, .bool zu, .slice Bu mu du, .bool sv, .slice Av nv cv, .bool zv, .slice Bv mv dv]] w (RetF2 w x y v) :=
  owb_curve_of su Au nu cu lu zu Bu mu du ku sv Av nv cv lv zv Bv mv dv kv x y v w ou.1 ov.1 (fun W a b => by
    have pu : OkF W ((su, Au, nu, cu, lu), (zu, Bu, mu, du, ku)) xu := ⟨a, ou.2⟩
    have pv : OkF W ((sv, Av, nv, cv, lv), (zv, Bv, mv, dv, kv)) xv := ⟨b, ov.2⟩
    rcases ha with ⟨hs, rfl, rfl, rfl⟩ | ⟨hs, rfl, rfl, rfl⟩
    · exact owb_asked_curve_ok su Au nu cu lu zu Bu mu du ku xu sv Av nv cv lv zv Bv mv dv kv xv 2048 r W pu pu.ints.2.2 pv pv.ints.2.2 (Nat.le_refl _) hv h0 hr hs
    · exact owb_asked_curve_long su Au nu cu lu zu Bu mu du ku xu sv Av nv cv lv zv Bv mv dv kv xv 2048 r W pu pu.ints.2.2 pv pv.ints.2.2 (Nat.le_refl _) hv h0 hr hs)
/-- What is told of a complex number as a beam, by the program and by the document. -/
theorem looks_all (su : Bool) (Au : Option Addr) (nu cu : Nat) (lu : List Nat) (zu : Bool) (Bu : Option Addr) (mu du : Nat) (ku : List Nat) (sv : Bool) (Av : Option Addr) (nv cv : Nat) (lv : List Nat) (zv : Bool) (Bv : Option Addr) (mv dv : Nat) (kv : List Nat) (M : Nat) (hM : M = 2048) (W0 : World) (a0 : LmE.at_ W0 ((su, Au, nu, cu, lu), (zu, Bu, mu, du, ku))) (b0 : LmE.at_ W0 ((sv, Av, nv, cv, lv), (zv, Bv, mv, dv, kv))) : ∃ x1 y1 x2 y2 v sx sy sv' cx cy cv' : Int, (x1.natAbs < 2 ^ (32 * M) ∧ y1.natAbs < 2 ^ (32 * M) ∧ x2.natAbs < 2 ^ (32 * M) ∧ y2.natAbs < 2 ^ (32 * M) ∧ sx.natAbs < 2 ^ (32 * M) ∧ sy.natAbs < 2 ^ (32 * M) ∧ cx.natAbs < 2 ^ (32 * M) ∧ cy.natAbs < 2 ^ (32 * M)) ∧
    ∀ (Au Bu : Option Addr) (nu cu mu du : Nat) (Av Bv : Option Addr) (nv cv mv dv : Nat) (W : World), LmE.at_ W ((su, Au, nu, cu, lu), (zu, Bu, mu, du, ku)) → LmE.at_ W ((sv, Av, nv, cv, lv), (zv, Bv, mv, dv, kv)) →
      Calls Tryz.prog 31 #[.agg #[.bool su, .slice Au nu cu, .bool zu, .slice Bu mu du, .bool sv, .slice Av nv cv, .bool zv, .slice Bv mv dv]] W (RetW2 W x1 y1 x2 y2 v) ∧ Calls Tryz.prog 32 #[.agg #[.bool su, .slice Au nu cu, .bool zu, .slice Bu mu du, .bool sv, .slice Av nv cv, .bool zv, .slice Bv mv dv]] W (RetF2 W sx sy sv') ∧ Calls Tryz.prog 33 #[.agg #[.bool su, .slice Au nu cu, .bool zu, .slice Bu mu du, .bool sv, .slice Av nv cv, .bool zv, .slice Bv mv dv]] W (RetF2 W cx cy cv') ∧
      Calls Tryz.prog 34 #[.agg #[.bool su, .slice Au nu cu, .bool zu, .slice Bu mu du, .bool sv, .slice Av nv cv, .bool zv, .slice Bv mv dv]] W (RetNW W x1 y1 x2 y2 v) ∧ Calls Tryz.prog 35 #[.agg #[.bool su, .slice Au nu cu, .bool zu, .slice Bu mu du, .bool sv, .slice Av nv cv, .bool zv, .slice Bv mv dv]] W (RetN2 W sx sy sv') ∧ Calls Tryz.prog 36 #[.agg #[.bool su, .slice Au nu cu, .bool zu, .slice Bu mu du, .bool sv, .slice Av nv cv, .bool zv, .slice Bv mv dv]] W (RetN2 W cx cy cv') := by
  obtain ⟨ck, hck⟩ : ∃ c, chkBm ((su, none, 0, 0, lu), (zu, none, 0, 0, ku)) ((sv, none, 0, 0, lv), (zv, none, 0, 0, kv)) = c := ⟨_, rfl⟩
  by_cases h0 : ck = 0
  · subst h0
    obtain ⟨h1, h2, h3⟩ := chkBm_yes0 hck
    obtain ⟨xu, hxu⟩ : ∃ x, rv ((su, none, 0, 0, lu), (zu, none, 0, 0, ku)) = x := ⟨_, rfl⟩
    obtain ⟨xv, hxv⟩ : ∃ x, rv ((sv, none, 0, 0, lv), (zv, none, 0, 0, kv)) = x := ⟨_, rfl⟩
    rw [hxv] at h3
    obtain ⟨r1, hr1⟩ : ∃ r, ((xu * xu) + (xv * xv)) / xv = r := ⟨_, rfl⟩
    obtain ⟨r2, hr2⟩ : ∃ r, xu / ((xu * xu) + (xv * xv)) = r := ⟨_, rfl⟩
    obtain ⟨sx, sy, sv', hs, b1, b2⟩ := ans_ex r1 M hM
    obtain ⟨cx, cy, cv', hc, b3, b4⟩ := ans_ex r2 M hM
    have hne : xv ≠ 0 := fun e => by rw [e] at h3; exact absurd h3 (by decide)
    have szu : Sz xu M := (show OkF W0 ((su, Au, nu, cu, lu), (zu, Bu, mu, du, ku)) xu from ⟨a0, h1, hxu⟩).ints.2.2.mono (by omega)
    have szv : Sz xv M := (show OkF W0 ((sv, Av, nv, cv, lv), (zv, Bv, mv, dv, kv)) xv from ⟨b0, h2, hxv⟩).ints.2.2.mono (by omega)
    refine ⟨xu.num, (xu.den : Int), xv.num, (xv.den : Int), 0, sx, sy, sv', cx, cy, cv', ⟨szu.1, by rw [Int.natAbs_natCast]; exact szu.2, szv.1, by rw [Int.natAbs_natCast]; exact szv.2, b1, b2, b3, b4⟩, ?_⟩
    intro Au Bu nu cu mu du Av Bv nv cv mv dv W a b
    have ou : OkF W ((su, Au, nu, cu, lu), (zu, Bu, mu, du, ku)) xu := ⟨a, h1, hxu⟩
    have ov : OkF W ((sv, Av, nv, cv, lv), (zv, Bv, mv, dv, kv)) xv := ⟨b, h2, hxv⟩
    exact ⟨owb_waist_ok su Au nu cu lu zu Bu mu du ku xu sv Av nv cv lv zv Bv mv dv kv xv W ou ov h3, owb_size_any su Au nu cu lu zu Bu mu du ku sv Av nv cv lv zv Bv mv dv kv xu xv r1 sx sy sv' W ou ov h3 hne (Lib.hid hr1) hs, owb_curve_any su Au nu cu lu zu Bu mu du ku sv Av nv cv lv zv Bv mv dv kv xu xv r2 cx cy cv' W ou ov h3 (norm_ne h3) (Lib.hid hr2) hc,
      ref15_waist_ok su Au nu cu lu zu Bu mu du ku xu sv Av nv cv lv zv Bv mv dv kv xv W ou ov h3, ref15_size_ok su Au nu cu lu zu Bu mu du ku xu sv Av nv cv lv zv Bv mv dv kv xv 2048 r1 sx sy sv' W ou ou.ints.2.2 ov ov.ints.2.2 (Nat.le_refl _) h3 hne (Lib.hid hr1) hs, ref15_curve_ok su Au nu cu lu zu Bu mu du ku xu sv Av nv cv lv zv Bv mv dv kv xv 2048 r2 cx cy cv' W ou ou.ints.2.2 ov ov.ints.2.2 (Nat.le_refl _) h3 (norm_ne h3) (Lib.hid hr2) hc⟩
  · refine ⟨0, 0, 0, 0, ck, 0, 0, ck, 0, 0, ck, ⟨zero_big, zero_big, zero_big, zero_big, zero_big, zero_big, zero_big, zero_big⟩, ?_⟩
    intro Au Bu nu cu mu du Av Bv nv cv mv dv W a b
    have hk : Hid (chkBm ((su, Au, nu, cu, lu), (zu, Bu, mu, du, ku)) ((sv, Av, nv, cv, lv), (zv, Bv, mv, dv, kv)) = ck) := Lib.hid hck
    exact ⟨owb_waist_no su Au nu cu lu zu Bu mu du ku sv Av nv cv lv zv Bv mv dv kv ck W a b hk h0, owb_size_of su Au nu cu lu zu Bu mu du ku sv Av nv cv lv zv Bv mv dv kv 0 0 ck W a b (fun W a b => owb_asked_size_no su Au nu cu lu zu Bu mu du ku sv Av nv cv lv zv Bv mv dv kv ck W a b hk h0), owb_curve_of su Au nu cu lu zu Bu mu du ku sv Av nv cv lv zv Bv mv dv kv 0 0 ck W a b (fun W a b => owb_asked_curve_no su Au nu cu lu zu Bu mu du ku sv Av nv cv lv zv Bv mv dv kv ck W a b hk h0),
      ref15_waist_no su Au nu cu lu zu Bu mu du ku sv Av nv cv lv zv Bv mv dv kv ck W a b hk h0, ref15_size_no su Au nu cu lu zu Bu mu du ku sv Av nv cv lv zv Bv mv dv kv ck W a b hk h0, ref15_curve_no su Au nu cu lu zu Bu mu du ku sv Av nv cv lv zv Bv mv dv kv ck W a b hk h0⟩
end Go.Proofs.YtmmplomkginadaaGreatDoor

namespace Go.Proofs.YtmmplomkginadaaGreatDoor
open Go.RowKit

theorem beam_size_ok (su : Bool) (Au : Option Addr) (nu cu : Nat) (lu : List Nat) (zu : Bool) (Bu : Option Addr) (mu du : Nat) (ku : List Nat) (xu : Rat) (sv : Bool) (Av : Option Addr) (nv cv : Nat) (lv : List Nat) (zv : Bool) (Bv : Option Addr) (mv dv : Nat) (kv : List Nat) (xv : Rat) (M : Nat) (r : Rat) (w : World) (ou : OkF w ((su, Au, nu, cu, lu), (zu, Bu, mu, du, ku)) xu) (yu : Sz xu M) (ov : OkF w ((sv, Av, nv, cv, lv), (zv, Bv, mv, dv, kv)) xv) (yv : Sz xv M) (hM : M ≤ 2048) (hv : 0 < xv) (h0 : xv ≠ 0) (hr : Hid ((((xu * xu) + (xv * xv)) / xv) = r)) (hs : Sz r 2048) :
    Calls Tryz.prog 32 #[.agg #[.bool su, .slice Au nu cu, .bool zu, .slice Bu mu du, .bool sv, .slice Av nv cv, .bool zv, .slice Bv mv dv]] w (RetFk w r) := by
  refine (owb_size_of su Au nu cu lu zu Bu mu du ku sv Av nv cv lv zv Bv mv dv kv r.num (r.den : Int) 0 w ou.1 ov.1 (fun W a b => owb_asked_size_ok su Au nu cu lu zu Bu mu du ku xu sv Av nv cv lv zv Bv mv dv kv xv M r W ⟨a, ou.2⟩ yu ⟨b, ov.2⟩ yv hM hv h0 hr hs)).mono ?_
  rintro e w' ⟨s, A, n, c, z, B, m, d, rfl, I, J, _, hb⟩
  obtain ⟨l, k, o⟩ := okF_of I J hs
  exact ⟨_, _, _, _, l, _, _, _, _, k, rfl, o, hb⟩
end Go.Proofs.YtmmplomkginadaaGreatDoor
