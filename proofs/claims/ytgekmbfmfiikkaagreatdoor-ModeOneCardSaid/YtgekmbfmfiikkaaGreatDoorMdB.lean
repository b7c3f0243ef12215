/-
  What is asked of a stable cavity: its beam (in mode.Exact).
-/
import Derived.Test.YtgekmbfmfiikkaaGreatDoorMdA
import Derived.Test.YtgekmbfmfiikkaaGreatDoorOwR
import Derived.Test.YtgekmbfmfiikkaaGreatDoorMoA
set_option maxHeartbeats 6400000
set_option maxRecDepth 100000
namespace Go.Proofs.YtgekmbfmfiikkaaGreatDoor
open Go.RowKit
theorem Below.store {n : Nat} {a b : World} (h : Below n a b) {p : Addr} (v : Value) : Below n (a.setCell p v) (b.setCell p v) := by
 refine ⟨h.os, h.tape, h.output, by simpa [World.setCell] using h.size, fun k hk => ?_⟩
 by_cases e : k = p.block
 ·subst e
  have := h.block p.block hk
  simp only [World.setCell, Array.getElem?_modify, if_true]
  rw [this]
 ·rw [heap_setCell_other a p k v e, heap_setCell_other b p k v e]
  exact h.block k hk
def RetE1 (W : World) (gi : Nat) (oy : List OwnAt) (x y x' y' v : Int) (is : Bool) (e : Ending) (w' : World) : Prop :=
 ∃ (sa : Bool) (Aa : Option Addr) (na ca : Nat) (za : Bool) (Ba : Option Addr) (ma da : Nat) (sb : Bool) (Ab : Option Addr) (nb cb : Nat) (zb : Bool) (Bb : Option Addr) (mb db : Nat), e = .returned (.tuple #[.agg #[.bool sa, .slice Aa na ca, .bool za, .slice Ba ma da, .bool sb, .slice Ab nb cb, .bool zb, .slice Bb mb db], .int .i64 v]) ∧
  IsInt w' sa Aa na ca x ∧ IsInt w' za Ba ma da y ∧ IsInt w' sb Ab nb cb x' ∧ IsInt w' zb Bb mb db y' ∧ (∀ B, B ≤ W.heap.size → Owns B W oy → (∀ q ∈ oy, q.v.ownBlock ≠ some gi) → Owns B w' [(Aa, na, ca), (Ba, ma, da), (Ab, nb, cb), (Bb, mb, db)] ∧ OneOf W.heap.size oy [(Aa, na, ca), (Ba, ma, da), (Ab, nb, cb), (Bb, mb, db)]) ∧ Below W.heap.size (W.setCell ⟨gi, 0, none⟩ (.bool is)) w'
theorem owns_mix {B gi : Nat} {W w' : World} {oy o' : List OwnAt} {v : Value} (hB : B ≤ W.heap.size) (hb : Below W.heap.size (W.setCell ⟨gi, 0, none⟩ v) w') (h' : Owns W.heap.size w' o') (h : Owns B W oy) (hg : ∀ q ∈ oy, q.v.ownBlock ≠ some gi) : Owns B w' (oy ++ o') ∧ OneOf W.heap.size oy (oy ++ o') := by
 have hz : (W.setCell ⟨gi, 0, none⟩ v).heap.size = W.heap.size := by simp [World.setCell]
 refine ⟨⟨fun q hq => ?_, List.pairwise_append.2 ⟨h.2, h'.2, fun a ha b hb' g h1 h2 => ?_⟩⟩, fun q hq g hg' => ?_⟩
 ·rcases List.mem_append.1 hq with k | k
  ·exact ((h.1 q k).set (p := ⟨gi, 0, none⟩) (hg q k) v).below (by rw [hz]; exact hb)
  ·exact (h'.1 q k).base fun g hg' => Nat.le_trans hB ((h'.1 q k).lt hg').1
 ·have := ((h.1 a ha).lt h1).2
  have := ((h'.1 b hb').lt h2).1
  omega
 ·rcases List.mem_append.1 hq with k | k
  ·exact .inl ⟨q, k, hg'⟩
  ·exact .inr ((h'.1 q k).lt hg').1
theorem owns_none4 (B n0 : Nat) (oy : List OwnAt) (w : World) : Owns B w [(none, 0, 0), (none, 0, 0), (none, 0, 0), (none, 0, 0)] ∧ OneOf n0 oy [(none, 0, 0), (none, 0, 0), (none, 0, 0), (none, 0, 0)] := by
 refine ⟨⟨fun q hq => ?_, ?_⟩, fun q hq g hg => ?_⟩
 ·have : q = (none, 0, 0) := by simpa using hq
  rw [this]
  exact OwnR.nil _ _
 ·have hf : FarQ (none, 0, 0) (none, 0, 0) := fun g hg => by cases hg
  simp [hf]
 ·have : q = (none, 0, 0) := by simpa using hq
  rw [this] at hg
  cases hg
theorem Mo.outer {w wr : World} {L : List (Nat × List Value)} {l : List IntAt} {o : List OwnAt} (h : Mo w.heap.size w L l o wr) {gi : Nat} (hg : gi < w.heap.size) {b : Bool} (hc : wr.cell? ⟨gi, 0, none⟩ = some (.bool b)) (v : Value) : Mo w.heap.size (w.setCell ⟨gi, 0, none⟩ v) L l o (wr.setCell ⟨gi, 0, none⟩ v) := by
 have hz : (w.setCell ⟨gi, 0, none⟩ v).heap.size = w.heap.size := by simp [World.setCell]
 refine ⟨?_, fun x hx => ?_, fun p hp => isAt_store (h.2.2.1 p hp) v hc (by simp), ⟨fun q hq => (h.2.2.2.1.1 q hq).set (p := ⟨gi, 0, none⟩) (fun e => ?_) v, h.2.2.2.1.2⟩, h.2.2.2.2.1, by rw [hz]; exact Nat.le_refl _⟩
 ·rw [hz]
  exact Below.store h.1 v
 ·have h1 := h.2.1 x hx
  exact ⟨by rw [hz]; exact h1.1, h1.2.far (by have := h1.1; omega) v⟩
 ·have := ((h.2.2.2.1.1 q hq).lt e).1
  simp only at this
  omega
theorem array_set_same {α : Type} (a : Array α) (i : Nat) (v : α) (h : a[i]? = some v) : a.setIfInBounds i v = a := by
 apply Array.ext_getElem?
 intro j
 rw [Array.getElem?_setIfInBounds]
 split
 ·rename_i e
  subst e
  split
  ·exact h.symm
  ·rename_i hl
   rw [Array.getElem?_eq_none (by omega)] at h
   cases h
 ·rfl
theorem setCell_sameM {w : World} {g j : Nat} {v : Value} (h : w.cell? ⟨g, j, none⟩ = some v) : w.setCell ⟨g, j, none⟩ v = w := by
 unfold World.setCell
 have e : (w.heap.modify g fun
   | .cells c elem frozen => .cells (if (none : Option Nat).isSome then c else c.setIfInBounds j v) elem frozen
   | o => o) = w.heap := by
  apply Array.ext_getElem?
  intro i
  rw [Array.getElem?_modify]
  split
  ·rename_i e
   subst e
   unfold World.cell? at h
   simp only at h
   cases hg : w.heap[g]? with
   | none => rfl
   | some o =>
    rw [hg] at h
    cases o with
    | cells c t fr =>
     simp at h
     simp only [Option.map_some, Option.isSome_none, Bool.false_eq_true, if_false]
     rw [array_set_same c j v h]
    | _ => cases h
  ·rfl
 show ({ w with heap := _ } : World) = w
 exact congrArg (fun hp => ({ w with heap := hp } : World)) e
theorem lim_of {w : World} {neg : Bool} {A : Option Addr} {n c k M : Nat} (h : IsInt w neg A n c (k : Int)) (hn : n ≤ M) : k < 2 ^ (32 * M) := by
 have h1 := isInt_lt h
 rw [Int.natAbs_natCast, show Lm.B ^ n = 2 ^ (32 * n) by rw [Nat.pow_mul]] at h1
 exact Nat.lt_of_lt_of_le h1 (Nat.pow_le_pow_right (by decide) (by omega))
theorem exact1_no1 (sx : Bool) (Ax : Option Addr) (nx cx : Nat) (zx : Bool) (Bx : Option Addr) (mx dx : Nat) (sy : Bool) (Ay : Option Addr) (ny cy : Nat) (ly : List Nat) (zy : Bool) (By : Option Addr) (my dy : Nat) (ky : List Nat) (y : Rat) (X D k1 k2 gi : Nat) (w : World) (ix : IsInt w sx Ax nx cx (X : Int)) (jx : IsInt w zx Bx mx dx (D : Int)) (hX : 0 < X) (hD : 0 < D) (hnx : nx ≤ 100000) (hmx : mx ≤ 100000)
  (ay : LmE.at_ w ((sy, Ay, ny, cy, ly), (zy, By, my, dy, ky))) (iy : IsInt w sy Ay ny cy y.num) (jy : IsInt w zy By my dy (y.den : Int)) (h1 : IsRt X k1) (h2 : IsRt D k2) (_hgi : gi < w.heap.size) (hgc : w.cell? ⟨gi, 0, none⟩ = some (.bool false)) (hgf : w.frozen? ⟨gi, 0, none⟩ = false) (hb1 : decide (k1 * k1 = X) = false) :
  Calls Tryz.prog 112 #[.agg #[.bool sx, .slice Ax nx cx, .bool zx, .slice Bx mx dx], .agg #[.bool sy, .slice Ay ny cy, .bool zy, .slice By my dy], .pointer (some ⟨gi, 0, none⟩)] w (RetE1 w gi [(Ay, ny, cy), (By, my, dy)] 0 0 0 0 0 false) := by
 obtain rfl : sx = false := by have := isInt_neg ix; rw [this]; exact decide_eq_false (by omega)
 obtain rfl : zx = false := by have := isInt_neg jx; rw [this]; exact decide_eq_false (by omega)
 have K0 := (((((((Mo.nil w).int jy).int iy).int jx).int ix).var (g := w.heap.size) rfl [.bool false, .slice Ax nx cx, .bool false, .slice Bx mx dx] 26).var (g := w.heap.size + 1) (by simp) [.bool sy, .slice Ay ny cy, .bool zy, .slice By my dy] 26).var (g := w.heap.size + 1 + 1) (by simp) [.bool false, .slice none 0 0, .bool false, .slice none 0 0, .bool false, .slice none 0 0, .bool false, .slice none 0 0] 30
 replace ay := LmE.at_.below ay K0.1
 have H1 := Lib.hid h1
 have H2 := Lib.hid h2
 have B1 := Lib.hid hb1
 have hsz : w.heap.size ≤ w.heap.size := Nat.le_refl _
 have wsame : w.setCell ⟨gi, 0, none⟩ (.bool false) = w := setCell_sameM hgc
 have WS := Lib.hid wsame
 have GC := Lib.hid (And.intro hgc hgf)
 have g01 : ¬ w.heap.size = w.heap.size + 1 := by omega
 have g02 : ¬ w.heap.size = w.heap.size + 1 + 1 := by omega
 have g10 : ¬ w.heap.size + 1 = w.heap.size := by omega
 have g12 : ¬ w.heap.size + 1 = w.heap.size + 1 + 1 := by omega
 have g20 : ¬ w.heap.size + 1 + 1 = w.heap.size := by omega
 have g21 : ¬ w.heap.size + 1 + 1 = w.heap.size + 1 := by omega
 clear ix jx iy jy h1 h2 hb1 wsame hsz hgc hgf
 go_enter Tryz.func112, Tryz.ntmps112
 go_upto_region 1 with (fail)
 generalize ((w.alloc (.cells #[.bool false, .slice Ax nx cx, .bool false, .slice Bx mx dx] 26)).alloc (.cells #[.bool sy, .slice Ay ny cy, .bool zy, .slice By my dy] 26)).alloc (.cells #[.bool false, .slice none 0 0, .bool false, .slice none 0 0, .bool false, .slice none 0 0, .bool false, .slice none 0 0] 30) = w0 at K0 ay ⊢
 obtain ⟨⟨q0, q1, q2, q3⟩, _, _⟩ := (K0.blk (g := w.heap.size) (by repeat constructor)).four
 go_wp2_with fail
 refine (ow_root_any Ax nx cx X _ (K0.at_ (mE 0 rfl)) hX hnx).mono ?_
 rintro e1 w1 ⟨sr, Ar, nr, cr, kr, rfl, I1, hk1, O1, hb⟩
 obtain rfl : k1 = kr := rt_uniq H1.out hk1
 rw [B1.out]
 have K1 := ((K0.call1 hb O1).int I1).var (g := w1.heap.size) rfl [.bool sr, .slice Ar nr cr] 24
 have hbx : Below w1.heap.size w1 (w1.alloc (.cells #[.bool sr, .slice Ar nr cr] 24)) := (Below.refl _ _).alloc (Nat.le_refl _) _
 replace ay := LmE.at_.below (LmE.at_.below ay hb) hbx
 have z1 : w.heap.size + 1 + 1 < w1.heap.size := ((K0.next hb).blk (mE 0 rfl)).1
 clear K0 hb hbx O1 I1 hk1 q0 q1 q2 q3
 go_upto_region 2 with (fail)
 generalize w1.heap.size = g7 at K1 z1 ⊢
 generalize w1.alloc (.cells #[.bool sr, .slice Ar nr cr] 24) = u1 at K1 ay ⊢
 obtain ⟨⟨q0, q1, q2, q3⟩, _, _⟩ := (K1.blk (g := w.heap.size) (by repeat constructor)).four
 go_wp2_with fail
 refine (ow_root_any Bx mx dx D _ (K1.at_ (mE 2 rfl)) hD hmx).mono ?_
 rintro e2 w2 ⟨sq, Aq, nq, cq, kq, rfl, I2, hk2, O2, hb⟩
 obtain rfl : k2 = kq := rt_uniq H2.out hk2
 obtain ⟨b2, hb2⟩ : ∃ b, decide (k2 * k2 = D) = b := ⟨_, rfl⟩
 rw [hb2]
 clear hb2
 have K2 := ((K1.call1 hb O2).int I2).var (g := w2.heap.size) rfl [.bool sq, .slice Aq nq cq] 24
 have hbx : Below w2.heap.size w2 (w2.alloc (.cells #[.bool sq, .slice Aq nq cq] 24)) := (Below.refl _ _).alloc (Nat.le_refl _) _
 replace ay := LmE.at_.below (LmE.at_.below ay hb) hbx
 have z2 : g7 < w2.heap.size := ((K1.next hb).blk (mE 0 rfl)).1
 clear K1 hb hbx O2 I2 hk2 q0 q1 q2 q3
 go_upto_region 3 with (fail)
 generalize w2.heap.size = g9 at K2 z2 ⊢
 generalize w2.alloc (.cells #[.bool sq, .slice Aq nq cq] 24) = u2 at K2 ay ⊢
 obtain ⟨f0, f1, f2, f3, f4, f5, f6, f7⟩ := (K2.blk (g := w.heap.size + 1 + 1) (by repeat constructor)).c8
 obtain ⟨ff0, ff1, ff2, ff3, ff4, ff5, ff6, ff7, _⟩ := (K2.blk (g := w.heap.size + 1 + 1) (by repeat constructor)).f8
 go_wp2_with fail
 have K9 := (K2.pick (L' := [(w.heap.size + 1 + 1, [.bool false, .slice none 0 0, .bool false, .slice none 0 0, .bool false, .slice none 0 0, .bool false, .slice none 0 0])]) (l' := []) (by simp) (by simp)).set8 (by simp) false none 0 0 false none 0 0 false none 0 0 false none 0 0
 exact bodyPost_ret (v := .tuple #[.agg #[.bool false, .slice none 0 0, .bool false, .slice none 0 0, .bool false, .slice none 0 0, .bool false, .slice none 0 0], .int .i64 0]) (by simp [results, Tryz.results112, go_sem, f0, f1, f2, f3, f4, f5, f6, f7]) rfl ⟨false, none, 0, 0, false, none, 0, 0, false, none, 0, 0, false, none, 0, 0, rfl, isInt_nought, isInt_nought, isInt_nought, isInt_nought, fun B _ _ _ => owns_none4 _ _ _ _, by rw [WS.out]; exact K9.1⟩
theorem exact1_no2 (sx : Bool) (Ax : Option Addr) (nx cx : Nat) (zx : Bool) (Bx : Option Addr) (mx dx : Nat) (sy : Bool) (Ay : Option Addr) (ny cy : Nat) (ly : List Nat) (zy : Bool) (By : Option Addr) (my dy : Nat) (ky : List Nat) (y : Rat) (X D k1 k2 gi : Nat) (w : World) (ix : IsInt w sx Ax nx cx (X : Int)) (jx : IsInt w zx Bx mx dx (D : Int)) (hX : 0 < X) (hD : 0 < D) (hnx : nx ≤ 100000) (hmx : mx ≤ 100000)
  (ay : LmE.at_ w ((sy, Ay, ny, cy, ly), (zy, By, my, dy, ky))) (iy : IsInt w sy Ay ny cy y.num) (jy : IsInt w zy By my dy (y.den : Int)) (h1 : IsRt X k1) (h2 : IsRt D k2) (_hgi : gi < w.heap.size) (hgc : w.cell? ⟨gi, 0, none⟩ = some (.bool false)) (hgf : w.frozen? ⟨gi, 0, none⟩ = false) (hb1 : decide (k1 * k1 = X) = true) (hb2 : decide (k2 * k2 = D) = false) :
  Calls Tryz.prog 112 #[.agg #[.bool sx, .slice Ax nx cx, .bool zx, .slice Bx mx dx], .agg #[.bool sy, .slice Ay ny cy, .bool zy, .slice By my dy], .pointer (some ⟨gi, 0, none⟩)] w (RetE1 w gi [(Ay, ny, cy), (By, my, dy)] 0 0 0 0 0 false) := by
 obtain rfl : sx = false := by have := isInt_neg ix; rw [this]; exact decide_eq_false (by omega)
 obtain rfl : zx = false := by have := isInt_neg jx; rw [this]; exact decide_eq_false (by omega)
 have K0 := (((((((Mo.nil w).int jy).int iy).int jx).int ix).var (g := w.heap.size) rfl [.bool false, .slice Ax nx cx, .bool false, .slice Bx mx dx] 26).var (g := w.heap.size + 1) (by simp) [.bool sy, .slice Ay ny cy, .bool zy, .slice By my dy] 26).var (g := w.heap.size + 1 + 1) (by simp) [.bool false, .slice none 0 0, .bool false, .slice none 0 0, .bool false, .slice none 0 0, .bool false, .slice none 0 0] 30
 replace ay := LmE.at_.below ay K0.1
 have H1 := Lib.hid h1
 have H2 := Lib.hid h2
 have B1 := Lib.hid hb1
 have B2 := Lib.hid hb2
 have hsz : w.heap.size ≤ w.heap.size := Nat.le_refl _
 have wsame : w.setCell ⟨gi, 0, none⟩ (.bool false) = w := setCell_sameM hgc
 have WS := Lib.hid wsame
 have GC := Lib.hid (And.intro hgc hgf)
 have g01 : ¬ w.heap.size = w.heap.size + 1 := by omega
 have g02 : ¬ w.heap.size = w.heap.size + 1 + 1 := by omega
 have g10 : ¬ w.heap.size + 1 = w.heap.size := by omega
 have g12 : ¬ w.heap.size + 1 = w.heap.size + 1 + 1 := by omega
 have g20 : ¬ w.heap.size + 1 + 1 = w.heap.size := by omega
 have g21 : ¬ w.heap.size + 1 + 1 = w.heap.size + 1 := by omega
 clear ix jx iy jy h1 h2 hb1 hb2 wsame hsz hgc hgf
 go_enter Tryz.func112, Tryz.ntmps112
 go_upto_region 1 with (fail)
 generalize ((w.alloc (.cells #[.bool false, .slice Ax nx cx, .bool false, .slice Bx mx dx] 26)).alloc (.cells #[.bool sy, .slice Ay ny cy, .bool zy, .slice By my dy] 26)).alloc (.cells #[.bool false, .slice none 0 0, .bool false, .slice none 0 0, .bool false, .slice none 0 0, .bool false, .slice none 0 0] 30) = w0 at K0 ay ⊢
 obtain ⟨⟨q0, q1, q2, q3⟩, _, _⟩ := (K0.blk (g := w.heap.size) (by repeat constructor)).four
 go_wp2_with fail
 refine (ow_root_any Ax nx cx X _ (K0.at_ (mE 0 rfl)) hX hnx).mono ?_
 rintro e1 w1 ⟨sr, Ar, nr, cr, kr, rfl, I1, hk1, O1, hb⟩
 obtain rfl : k1 = kr := rt_uniq H1.out hk1
 rw [B1.out]
 have K1 := ((K0.call1 hb O1).int I1).var (g := w1.heap.size) rfl [.bool sr, .slice Ar nr cr] 24
 have hbx : Below w1.heap.size w1 (w1.alloc (.cells #[.bool sr, .slice Ar nr cr] 24)) := (Below.refl _ _).alloc (Nat.le_refl _) _
 replace ay := LmE.at_.below (LmE.at_.below ay hb) hbx
 have z1 : w.heap.size + 1 + 1 < w1.heap.size := ((K0.next hb).blk (mE 0 rfl)).1
 clear K0 hb hbx O1 I1 hk1 q0 q1 q2 q3
 go_upto_region 2 with (fail)
 generalize w1.heap.size = g7 at K1 z1 ⊢
 generalize w1.alloc (.cells #[.bool sr, .slice Ar nr cr] 24) = u1 at K1 ay ⊢
 obtain ⟨⟨q0, q1, q2, q3⟩, _, _⟩ := (K1.blk (g := w.heap.size) (by repeat constructor)).four
 go_wp2_with fail
 refine (ow_root_any Bx mx dx D _ (K1.at_ (mE 2 rfl)) hD hmx).mono ?_
 rintro e2 w2 ⟨sq, Aq, nq, cq, kq, rfl, I2, hk2, O2, hb⟩
 obtain rfl : k2 = kq := rt_uniq H2.out hk2
 rw [B2.out]
 have K2 := ((K1.call1 hb O2).int I2).var (g := w2.heap.size) rfl [.bool sq, .slice Aq nq cq] 24
 have hbx : Below w2.heap.size w2 (w2.alloc (.cells #[.bool sq, .slice Aq nq cq] 24)) := (Below.refl _ _).alloc (Nat.le_refl _) _
 replace ay := LmE.at_.below (LmE.at_.below ay hb) hbx
 have z2 : g7 < w2.heap.size := ((K1.next hb).blk (mE 0 rfl)).1
 clear K1 hb hbx O2 I2 hk2 q0 q1 q2 q3
 go_upto_region 3 with (fail)
 generalize w2.heap.size = g9 at K2 z2 ⊢
 generalize w2.alloc (.cells #[.bool sq, .slice Aq nq cq] 24) = u2 at K2 ay ⊢
 obtain ⟨f0, f1, f2, f3, f4, f5, f6, f7⟩ := (K2.blk (g := w.heap.size + 1 + 1) (by repeat constructor)).c8
 obtain ⟨ff0, ff1, ff2, ff3, ff4, ff5, ff6, ff7, _⟩ := (K2.blk (g := w.heap.size + 1 + 1) (by repeat constructor)).f8
 go_wp2_with fail
 have K9 := (K2.pick (L' := [(w.heap.size + 1 + 1, [.bool false, .slice none 0 0, .bool false, .slice none 0 0, .bool false, .slice none 0 0, .bool false, .slice none 0 0])]) (l' := []) (by simp) (by simp)).set8 (by simp) false none 0 0 false none 0 0 false none 0 0 false none 0 0
 exact bodyPost_ret (v := .tuple #[.agg #[.bool false, .slice none 0 0, .bool false, .slice none 0 0, .bool false, .slice none 0 0, .bool false, .slice none 0 0], .int .i64 0]) (by simp [results, Tryz.results112, go_sem, f0, f1, f2, f3, f4, f5, f6, f7]) rfl ⟨false, none, 0, 0, false, none, 0, 0, false, none, 0, 0, false, none, 0, 0, rfl, isInt_nought, isInt_nought, isInt_nought, isInt_nought, fun B _ _ _ => owns_none4 _ _ _ _, by rw [WS.out]; exact K9.1⟩
theorem exact1_lre (sx : Bool) (Ax : Option Addr) (nx cx : Nat) (zx : Bool) (Bx : Option Addr) (mx dx : Nat) (sy : Bool) (Ay : Option Addr) (ny cy : Nat) (ly : List Nat) (zy : Bool) (By : Option Addr) (my dy : Nat) (ky : List Nat) (y : Rat) (X D k1 k2 gi : Nat) (w : World) (ix : IsInt w sx Ax nx cx (X : Int)) (jx : IsInt w zx Bx mx dx (D : Int)) (hX : 0 < X) (hD : 0 < D) (hnx : nx ≤ 100000) (hmx : mx ≤ 100000)
  (ay : LmE.at_ w ((sy, Ay, ny, cy, ly), (zy, By, my, dy, ky))) (iy : IsInt w sy Ay ny cy y.num) (jy : IsInt w zy By my dy (y.den : Int)) (h1 : IsRt X k1) (h2 : IsRt D k2) (_hgi : gi < w.heap.size) (hgc : w.cell? ⟨gi, 0, none⟩ = some (.bool false)) (hgf : w.frozen? ⟨gi, 0, none⟩ = false) (hb1 : decide (k1 * k1 = X) = true) (hb2 : decide (k2 * k2 = D) = true) (hl : lgB ((sy, Ay, ny, cy, ly), (zy, By, my, dy, ky)) = true) :
  Calls Tryz.prog 112 #[.agg #[.bool sx, .slice Ax nx cx, .bool zx, .slice Bx mx dx], .agg #[.bool sy, .slice Ay ny cy, .bool zy, .slice By my dy], .pointer (some ⟨gi, 0, none⟩)] w (RetE1 w gi [(Ay, ny, cy), (By, my, dy)] 0 0 0 0 4 false) := by
 obtain rfl : sx = false := by have := isInt_neg ix; rw [this]; exact decide_eq_false (by omega)
 obtain rfl : zx = false := by have := isInt_neg jx; rw [this]; exact decide_eq_false (by omega)
 have K0 := (((((((Mo.nil w).int jy).int iy).int jx).int ix).var (g := w.heap.size) rfl [.bool false, .slice Ax nx cx, .bool false, .slice Bx mx dx] 26).var (g := w.heap.size + 1) (by simp) [.bool sy, .slice Ay ny cy, .bool zy, .slice By my dy] 26).var (g := w.heap.size + 1 + 1) (by simp) [.bool false, .slice none 0 0, .bool false, .slice none 0 0, .bool false, .slice none 0 0, .bool false, .slice none 0 0] 30
 replace ay := LmE.at_.below ay K0.1
 have H1 := Lib.hid h1
 have H2 := Lib.hid h2
 have B1 := Lib.hid hb1
 have B2 := Lib.hid hb2
 have hsz : w.heap.size ≤ w.heap.size := Nat.le_refl _
 have wsame : w.setCell ⟨gi, 0, none⟩ (.bool false) = w := setCell_sameM hgc
 have WS := Lib.hid wsame
 have GC := Lib.hid (And.intro hgc hgf)
 have g01 : ¬ w.heap.size = w.heap.size + 1 := by omega
 have g02 : ¬ w.heap.size = w.heap.size + 1 + 1 := by omega
 have g10 : ¬ w.heap.size + 1 = w.heap.size := by omega
 have g12 : ¬ w.heap.size + 1 = w.heap.size + 1 + 1 := by omega
 have g20 : ¬ w.heap.size + 1 + 1 = w.heap.size := by omega
 have g21 : ¬ w.heap.size + 1 + 1 = w.heap.size + 1 := by omega
 clear ix jx iy jy h1 h2 hb1 hb2 wsame hsz hgc hgf
 go_enter Tryz.func112, Tryz.ntmps112
 go_upto_region 1 with (fail)
 generalize ((w.alloc (.cells #[.bool false, .slice Ax nx cx, .bool false, .slice Bx mx dx] 26)).alloc (.cells #[.bool sy, .slice Ay ny cy, .bool zy, .slice By my dy] 26)).alloc (.cells #[.bool false, .slice none 0 0, .bool false, .slice none 0 0, .bool false, .slice none 0 0, .bool false, .slice none 0 0] 30) = w0 at K0 ay ⊢
 obtain ⟨⟨q0, q1, q2, q3⟩, _, _⟩ := (K0.blk (g := w.heap.size) (by repeat constructor)).four
 go_wp2_with fail
 refine (ow_root_any Ax nx cx X _ (K0.at_ (mE 0 rfl)) hX hnx).mono ?_
 rintro e1 w1 ⟨sr, Ar, nr, cr, kr, rfl, I1, hk1, O1, hb⟩
 obtain rfl : k1 = kr := rt_uniq H1.out hk1
 rw [B1.out]
 have K1 := ((K0.call1 hb O1).int I1).var (g := w1.heap.size) rfl [.bool sr, .slice Ar nr cr] 24
 have hbx : Below w1.heap.size w1 (w1.alloc (.cells #[.bool sr, .slice Ar nr cr] 24)) := (Below.refl _ _).alloc (Nat.le_refl _) _
 replace ay := LmE.at_.below (LmE.at_.below ay hb) hbx
 have z1 : w.heap.size + 1 + 1 < w1.heap.size := ((K0.next hb).blk (mE 0 rfl)).1
 clear K0 hb hbx O1 I1 hk1 q0 q1 q2 q3
 go_upto_region 2 with (fail)
 generalize w1.heap.size = g7 at K1 z1 ⊢
 generalize w1.alloc (.cells #[.bool sr, .slice Ar nr cr] 24) = u1 at K1 ay ⊢
 obtain ⟨⟨q0, q1, q2, q3⟩, _, _⟩ := (K1.blk (g := w.heap.size) (by repeat constructor)).four
 go_wp2_with fail
 refine (ow_root_any Bx mx dx D _ (K1.at_ (mE 2 rfl)) hD hmx).mono ?_
 rintro e2 w2 ⟨sq, Aq, nq, cq, kq, rfl, I2, hk2, O2, hb⟩
 obtain rfl : k2 = kq := rt_uniq H2.out hk2
 rw [B2.out]
 have K2 := ((K1.call1 hb O2).int I2).var (g := w2.heap.size) rfl [.bool sq, .slice Aq nq cq] 24
 have hbx : Below w2.heap.size w2 (w2.alloc (.cells #[.bool sq, .slice Aq nq cq] 24)) := (Below.refl _ _).alloc (Nat.le_refl _) _
 replace ay := LmE.at_.below (LmE.at_.below ay hb) hbx
 have z2 : g7 < w2.heap.size := ((K1.next hb).blk (mE 0 rfl)).1
 clear K1 hb hbx O2 I2 hk2 q0 q1 q2 q3
 go_upto_region 3 with (fail)
 generalize w2.heap.size = g9 at K2 z2 ⊢
 generalize w2.alloc (.cells #[.bool sq, .slice Aq nq cq] 24) = u2 at K2 ay ⊢
 have HL : Hid (lgAll (fun _ => ((sy, Ay, ny, cy, ly), (zy, By, my, dy, ky))) 1 = true) := Lib.hid (by unfold lgAll lgAll; rw [hl]; rfl)
 have HLF := Lib.hid (lfs_one u2 (g := u2.heap.size) rfl 26 ay)
 go_upto_region 5 with (fail)
 obtain ⟨⟨q0, q1, q2, q3⟩, _, _⟩ := (K2.blk (g := w.heap.size + 1) (by repeat constructor)).four
 go_wp2_with fail
 refine (rat_long_any u2.heap.size 1 1 (fun _ => ((sy, Ay, ny, cy, ly), (zy, By, my, dy, ky))) _ HLF.out (by decide) (by decide)).mono ?_
 rintro e3 w3 ⟨rfl, hb⟩
 rw [HL.out]
 have K3 := K2.next (below_box hb)
 clear K2 hb HLF q0 q1 q2 q3
 obtain ⟨f0, f1, f2, f3, f4, f5, f6, f7⟩ := (K3.blk (g := w.heap.size + 1 + 1) (by repeat constructor)).c8
 obtain ⟨ff0, ff1, ff2, ff3, ff4, ff5, ff6, ff7, _⟩ := (K3.blk (g := w.heap.size + 1 + 1) (by repeat constructor)).f8
 go_wp2_with fail
 have K9 := (K3.pick (L' := [(w.heap.size + 1 + 1, [.bool false, .slice none 0 0, .bool false, .slice none 0 0, .bool false, .slice none 0 0, .bool false, .slice none 0 0])]) (l' := []) (by simp) (by simp)).set8 (by simp) false none 0 0 false none 0 0 false none 0 0 false none 0 0
 exact bodyPost_ret (v := .tuple #[.agg #[.bool false, .slice none 0 0, .bool false, .slice none 0 0, .bool false, .slice none 0 0, .bool false, .slice none 0 0], .int .i64 4]) (by simp [results, Tryz.results112, go_sem, f0, f1, f2, f3, f4, f5, f6, f7]) rfl ⟨false, none, 0, 0, false, none, 0, 0, false, none, 0, 0, false, none, 0, 0, rfl, isInt_nought, isInt_nought, isInt_nought, isInt_nought, fun B _ _ _ => owns_none4 _ _ _ _, by rw [WS.out]; exact K9.1⟩
theorem exact1_lrt (sx : Bool) (Ax : Option Addr) (nx cx : Nat) (zx : Bool) (Bx : Option Addr) (mx dx : Nat) (sy : Bool) (Ay : Option Addr) (ny cy : Nat) (ly : List Nat) (zy : Bool) (By : Option Addr) (my dy : Nat) (ky : List Nat) (y : Rat) (X D k1 k2 gi : Nat) (w : World) (ix : IsInt w sx Ax nx cx (X : Int)) (jx : IsInt w zx Bx mx dx (D : Int)) (hX : 0 < X) (hD : 0 < D) (hnx : nx ≤ 100000) (hmx : mx ≤ 100000)
  (ay : LmE.at_ w ((sy, Ay, ny, cy, ly), (zy, By, my, dy, ky))) (iy : IsInt w sy Ay ny cy y.num) (jy : IsInt w zy By my dy (y.den : Int)) (h1 : IsRt X k1) (h2 : IsRt D k2) (_hgi : gi < w.heap.size) (hgc : w.cell? ⟨gi, 0, none⟩ = some (.bool false)) (hgf : w.frozen? ⟨gi, 0, none⟩ = false) (hb1 : decide (k1 * k1 = X) = true) (hb2 : decide (k2 * k2 = D) = true) (hl : lgB ((sy, Ay, ny, cy, ly), (zy, By, my, dy, ky)) = false) (M : Nat) (hM : M = 2048) (hs : ¬ (k1 < 2 ^ (32 * M) ∧ k2 < 2 ^ (32 * M))) :
  Calls Tryz.prog 112 #[.agg #[.bool sx, .slice Ax nx cx, .bool zx, .slice Bx mx dx], .agg #[.bool sy, .slice Ay ny cy, .bool zy, .slice By my dy], .pointer (some ⟨gi, 0, none⟩)] w (RetE1 w gi [(Ay, ny, cy), (By, my, dy)] 0 0 0 0 4 false) := by
 obtain rfl : sx = false := by have := isInt_neg ix; rw [this]; exact decide_eq_false (by omega)
 obtain rfl : zx = false := by have := isInt_neg jx; rw [this]; exact decide_eq_false (by omega)
 have K0 := (((((((Mo.nil w).int jy).int iy).int jx).int ix).var (g := w.heap.size) rfl [.bool false, .slice Ax nx cx, .bool false, .slice Bx mx dx] 26).var (g := w.heap.size + 1) (by simp) [.bool sy, .slice Ay ny cy, .bool zy, .slice By my dy] 26).var (g := w.heap.size + 1 + 1) (by simp) [.bool false, .slice none 0 0, .bool false, .slice none 0 0, .bool false, .slice none 0 0, .bool false, .slice none 0 0] 30
 replace ay := LmE.at_.below ay K0.1
 have H1 := Lib.hid h1
 have H2 := Lib.hid h2
 have B1 := Lib.hid hb1
 have B2 := Lib.hid hb2
 have hsz : w.heap.size ≤ w.heap.size := Nat.le_refl _
 have wsame : w.setCell ⟨gi, 0, none⟩ (.bool false) = w := setCell_sameM hgc
 have WS := Lib.hid wsame
 have GC := Lib.hid (And.intro hgc hgf)
 have g01 : ¬ w.heap.size = w.heap.size + 1 := by omega
 have g02 : ¬ w.heap.size = w.heap.size + 1 + 1 := by omega
 have g10 : ¬ w.heap.size + 1 = w.heap.size := by omega
 have g12 : ¬ w.heap.size + 1 = w.heap.size + 1 + 1 := by omega
 have g20 : ¬ w.heap.size + 1 + 1 = w.heap.size := by omega
 have g21 : ¬ w.heap.size + 1 + 1 = w.heap.size + 1 := by omega
 clear ix jx iy jy h1 h2 hb1 hb2 wsame hsz hgc hgf
 go_enter Tryz.func112, Tryz.ntmps112
 go_upto_region 1 with (fail)
 generalize ((w.alloc (.cells #[.bool false, .slice Ax nx cx, .bool false, .slice Bx mx dx] 26)).alloc (.cells #[.bool sy, .slice Ay ny cy, .bool zy, .slice By my dy] 26)).alloc (.cells #[.bool false, .slice none 0 0, .bool false, .slice none 0 0, .bool false, .slice none 0 0, .bool false, .slice none 0 0] 30) = w0 at K0 ay ⊢
 obtain ⟨⟨q0, q1, q2, q3⟩, _, _⟩ := (K0.blk (g := w.heap.size) (by repeat constructor)).four
 go_wp2_with fail
 refine (ow_root_any Ax nx cx X _ (K0.at_ (mE 0 rfl)) hX hnx).mono ?_
 rintro e1 w1 ⟨sr, Ar, nr, cr, kr, rfl, I1, hk1, O1, hb⟩
 obtain rfl : k1 = kr := rt_uniq H1.out hk1
 rw [B1.out]
 have K1 := ((K0.call1 hb O1).int I1).var (g := w1.heap.size) rfl [.bool sr, .slice Ar nr cr] 24
 have hbx : Below w1.heap.size w1 (w1.alloc (.cells #[.bool sr, .slice Ar nr cr] 24)) := (Below.refl _ _).alloc (Nat.le_refl _) _
 replace ay := LmE.at_.below (LmE.at_.below ay hb) hbx
 have z1 : w.heap.size + 1 + 1 < w1.heap.size := ((K0.next hb).blk (mE 0 rfl)).1
 clear K0 hb hbx O1 I1 hk1 q0 q1 q2 q3
 go_upto_region 2 with (fail)
 generalize w1.heap.size = g7 at K1 z1 ⊢
 generalize w1.alloc (.cells #[.bool sr, .slice Ar nr cr] 24) = u1 at K1 ay ⊢
 obtain ⟨⟨q0, q1, q2, q3⟩, _, _⟩ := (K1.blk (g := w.heap.size) (by repeat constructor)).four
 go_wp2_with fail
 refine (ow_root_any Bx mx dx D _ (K1.at_ (mE 2 rfl)) hD hmx).mono ?_
 rintro e2 w2 ⟨sq, Aq, nq, cq, kq, rfl, I2, hk2, O2, hb⟩
 obtain rfl : k2 = kq := rt_uniq H2.out hk2
 rw [B2.out]
 have K2 := ((K1.call1 hb O2).int I2).var (g := w2.heap.size) rfl [.bool sq, .slice Aq nq cq] 24
 have hbx : Below w2.heap.size w2 (w2.alloc (.cells #[.bool sq, .slice Aq nq cq] 24)) := (Below.refl _ _).alloc (Nat.le_refl _) _
 replace ay := LmE.at_.below (LmE.at_.below ay hb) hbx
 have z2 : g7 < w2.heap.size := ((K1.next hb).blk (mE 0 rfl)).1
 clear K1 hb hbx O2 I2 hk2 q0 q1 q2 q3
 go_upto_region 3 with (fail)
 generalize w2.heap.size = g9 at K2 z2 ⊢
 generalize w2.alloc (.cells #[.bool sq, .slice Aq nq cq] 24) = u2 at K2 ay ⊢
 have HL : Hid (lgAll (fun _ => ((sy, Ay, ny, cy, ly), (zy, By, my, dy, ky))) 1 = false) := Lib.hid (by unfold lgAll lgAll; rw [hl]; rfl)
 have HLF := Lib.hid (lfs_one u2 (g := u2.heap.size) rfl 26 ay)
 go_upto_region 5 with (fail)
 obtain ⟨⟨q0, q1, q2, q3⟩, _, _⟩ := (K2.blk (g := w.heap.size + 1) (by repeat constructor)).four
 go_wp2_with fail
 refine (rat_long_any u2.heap.size 1 1 (fun _ => ((sy, Ay, ny, cy, ly), (zy, By, my, dy, ky))) _ HLF.out (by decide) (by decide)).mono ?_
 rintro e3 w3 ⟨rfl, hb⟩
 rw [HL.out]
 have K3 := K2.next (below_box hb)
 clear K2 hb HLF q0 q1 q2 q3
 obtain ⟨r70, r71, _, _, _⟩ := (K3.blk (mE 1 rfl)).two
 obtain ⟨r90, r91, _, _, _⟩ := (K3.blk (mE 0 rfl)).two
 obtain ⟨c1, hc1⟩ : ∃ b, decide (2048 < nr) = b := ⟨_, rfl⟩
 obtain ⟨c2, hc2⟩ : ∃ b, decide (2048 < nq) = b := ⟨_, rfl⟩
 have C1 := Lib.hid hc1
 have C2 := Lib.hid hc2
 have IR := K3.at_ (neg := sr) (A := Ar) (n := nr) (c := cr) (z := (k1 : Int)) (mE 1 rfl)
 have IQ := K3.at_ (neg := sq) (A := Aq) (n := nq) (c := cq) (z := (k2 : Int)) (mE 0 rfl)
 have CC : Hid ((c1 || c2) = true) := Lib.hid (by
  rw [← hc1, ← hc2, Bool.or_eq_true, decide_eq_true_eq, decide_eq_true_eq]
  by_cases e1 : 2048 < nr
  ·exact .inl e1
  ·by_cases e2 : 2048 < nq
   ·exact .inr e2
   ·exact absurd ⟨lim_of IR (by omega), lim_of IQ (by omega)⟩ hs)
 clear hc1 hc2 IR IQ hs
 go_wp2_with fail
 refine (ex_long_two w3.heap.size sr Ar nr cr sq Aq nq cq c1 c2 _ (by simp) (by simp [go_sem]) (by simp [go_sem]) (by simp [go_sem]) (by simp [go_sem]) C1 C2).mono ?_
 rintro e4 w4 ⟨rfl, hb⟩
 rw [CC.out]
 have K4 := K3.next (below_box hb)
 clear K3 hb r70 r71 r90 r91
 obtain ⟨f0, f1, f2, f3, f4, f5, f6, f7⟩ := (K4.blk (g := w.heap.size + 1 + 1) (by repeat constructor)).c8
 obtain ⟨ff0, ff1, ff2, ff3, ff4, ff5, ff6, ff7, _⟩ := (K4.blk (g := w.heap.size + 1 + 1) (by repeat constructor)).f8
 go_wp2_with fail
 have K9 := (K4.pick (L' := [(w.heap.size + 1 + 1, [.bool false, .slice none 0 0, .bool false, .slice none 0 0, .bool false, .slice none 0 0, .bool false, .slice none 0 0])]) (l' := []) (by simp) (by simp)).set8 (by simp) false none 0 0 false none 0 0 false none 0 0 false none 0 0
 exact bodyPost_ret (v := .tuple #[.agg #[.bool false, .slice none 0 0, .bool false, .slice none 0 0, .bool false, .slice none 0 0, .bool false, .slice none 0 0], .int .i64 4]) (by simp [results, Tryz.results112, go_sem, f0, f1, f2, f3, f4, f5, f6, f7]) rfl ⟨false, none, 0, 0, false, none, 0, 0, false, none, 0, 0, false, none, 0, 0, rfl, isInt_nought, isInt_nought, isInt_nought, isInt_nought, fun B _ _ _ => owns_none4 _ _ _ _, by rw [WS.out]; exact K9.1⟩
theorem exact1_yes (sx : Bool) (Ax : Option Addr) (nx cx : Nat) (zx : Bool) (Bx : Option Addr) (mx dx : Nat) (sy : Bool) (Ay : Option Addr) (ny cy : Nat) (ly : List Nat) (zy : Bool) (By : Option Addr) (my dy : Nat) (ky : List Nat) (y : Rat) (X D k1 k2 gi : Nat) (w : World) (ix : IsInt w sx Ax nx cx (X : Int)) (jx : IsInt w zx Bx mx dx (D : Int)) (hX : 0 < X) (hD : 0 < D) (hnx : nx ≤ 100000) (hmx : mx ≤ 100000)
  (ay : LmE.at_ w ((sy, Ay, ny, cy, ly), (zy, By, my, dy, ky))) (iy : IsInt w sy Ay ny cy y.num) (jy : IsInt w zy By my dy (y.den : Int)) (h1 : IsRt X k1) (h2 : IsRt D k2) (hgi : gi < w.heap.size) (hgc : w.cell? ⟨gi, 0, none⟩ = some (.bool false)) (hgf : w.frozen? ⟨gi, 0, none⟩ = false) (hb1 : decide (k1 * k1 = X) = true) (hb2 : decide (k2 * k2 = D) = true) (hl : lgB ((sy, Ay, ny, cy, ly), (zy, By, my, dy, ky)) = false) (M : Nat) (hM : M = 2048) (hs1 : k1 < 2 ^ (32 * M)) (hs2 : k2 < 2 ^ (32 * M)) :
  Calls Tryz.prog 112 #[.agg #[.bool sx, .slice Ax nx cx, .bool zx, .slice Bx mx dx], .agg #[.bool sy, .slice Ay ny cy, .bool zy, .slice By my dy], .pointer (some ⟨gi, 0, none⟩)] w (RetE1 w gi [(Ay, ny, cy), (By, my, dy)] y.num (y.den : Int) (k1 : Int) (k2 : Int) 0 true) := by
 obtain rfl : sx = false := by have := isInt_neg ix; rw [this]; exact decide_eq_false (by omega)
 obtain rfl : zx = false := by have := isInt_neg jx; rw [this]; exact decide_eq_false (by omega)
 have K0 := (((((((Mo.nil w).int jy).int iy).int jx).int ix).var (g := w.heap.size) rfl [.bool false, .slice Ax nx cx, .bool false, .slice Bx mx dx] 26).var (g := w.heap.size + 1) (by simp) [.bool sy, .slice Ay ny cy, .bool zy, .slice By my dy] 26).var (g := w.heap.size + 1 + 1) (by simp) [.bool false, .slice none 0 0, .bool false, .slice none 0 0, .bool false, .slice none 0 0, .bool false, .slice none 0 0] 30
 replace ay := LmE.at_.below ay K0.1
 have H1 := Lib.hid h1
 have H2 := Lib.hid h2
 have B1 := Lib.hid hb1
 have B2 := Lib.hid hb2
 have hsz : w.heap.size ≤ w.heap.size := Nat.le_refl _
 have wsame : w.setCell ⟨gi, 0, none⟩ (.bool false) = w := setCell_sameM hgc
 have WS := Lib.hid wsame
 have GC := Lib.hid (And.intro hgc hgf)
 have g01 : ¬ w.heap.size = w.heap.size + 1 := by omega
 have g02 : ¬ w.heap.size = w.heap.size + 1 + 1 := by omega
 have g10 : ¬ w.heap.size + 1 = w.heap.size := by omega
 have g12 : ¬ w.heap.size + 1 = w.heap.size + 1 + 1 := by omega
 have g20 : ¬ w.heap.size + 1 + 1 = w.heap.size := by omega
 have g21 : ¬ w.heap.size + 1 + 1 = w.heap.size + 1 := by omega
 clear ix jx iy jy h1 h2 hb1 hb2 wsame hsz hgc hgf
 go_enter Tryz.func112, Tryz.ntmps112
 go_upto_region 1 with (fail)
 generalize ((w.alloc (.cells #[.bool false, .slice Ax nx cx, .bool false, .slice Bx mx dx] 26)).alloc (.cells #[.bool sy, .slice Ay ny cy, .bool zy, .slice By my dy] 26)).alloc (.cells #[.bool false, .slice none 0 0, .bool false, .slice none 0 0, .bool false, .slice none 0 0, .bool false, .slice none 0 0] 30) = w0 at K0 ay ⊢
 obtain ⟨⟨q0, q1, q2, q3⟩, _, _⟩ := (K0.blk (g := w.heap.size) (by repeat constructor)).four
 go_wp2_with fail
 refine (ow_root_any Ax nx cx X _ (K0.at_ (mE 0 rfl)) hX hnx).mono ?_
 rintro e1 w1 ⟨sr, Ar, nr, cr, kr, rfl, I1, hk1, O1, hb⟩
 obtain rfl : k1 = kr := rt_uniq H1.out hk1
 rw [B1.out]
 have K1 := ((K0.call1 hb O1).int I1).var (g := w1.heap.size) rfl [.bool sr, .slice Ar nr cr] 24
 have hbx : Below w1.heap.size w1 (w1.alloc (.cells #[.bool sr, .slice Ar nr cr] 24)) := (Below.refl _ _).alloc (Nat.le_refl _) _
 replace ay := LmE.at_.below (LmE.at_.below ay hb) hbx
 have z1 : w.heap.size + 1 + 1 < w1.heap.size := ((K0.next hb).blk (mE 0 rfl)).1
 clear K0 hb hbx O1 I1 hk1 q0 q1 q2 q3
 go_upto_region 2 with (fail)
 generalize w1.heap.size = g7 at K1 z1 ⊢
 generalize w1.alloc (.cells #[.bool sr, .slice Ar nr cr] 24) = u1 at K1 ay ⊢
 obtain ⟨⟨q0, q1, q2, q3⟩, _, _⟩ := (K1.blk (g := w.heap.size) (by repeat constructor)).four
 go_wp2_with fail
 refine (ow_root_any Bx mx dx D _ (K1.at_ (mE 2 rfl)) hD hmx).mono ?_
 rintro e2 w2 ⟨sq, Aq, nq, cq, kq, rfl, I2, hk2, O2, hb⟩
 obtain rfl : k2 = kq := rt_uniq H2.out hk2
 rw [B2.out]
 have K2 := ((K1.call1 hb O2).int I2).var (g := w2.heap.size) rfl [.bool sq, .slice Aq nq cq] 24
 have hbx : Below w2.heap.size w2 (w2.alloc (.cells #[.bool sq, .slice Aq nq cq] 24)) := (Below.refl _ _).alloc (Nat.le_refl _) _
 replace ay := LmE.at_.below (LmE.at_.below ay hb) hbx
 have z2 : g7 < w2.heap.size := ((K1.next hb).blk (mE 0 rfl)).1
 clear K1 hb hbx O2 I2 hk2 q0 q1 q2 q3
 go_upto_region 3 with (fail)
 generalize w2.heap.size = g9 at K2 z2 ⊢
 generalize w2.alloc (.cells #[.bool sq, .slice Aq nq cq] 24) = u2 at K2 ay ⊢
 have HL : Hid (lgAll (fun _ => ((sy, Ay, ny, cy, ly), (zy, By, my, dy, ky))) 1 = false) := Lib.hid (by unfold lgAll lgAll; rw [hl]; rfl)
 have HLF := Lib.hid (lfs_one u2 (g := u2.heap.size) rfl 26 ay)
 go_upto_region 5 with (fail)
 obtain ⟨⟨q0, q1, q2, q3⟩, _, _⟩ := (K2.blk (g := w.heap.size + 1) (by repeat constructor)).four
 go_wp2_with fail
 refine (rat_long_any u2.heap.size 1 1 (fun _ => ((sy, Ay, ny, cy, ly), (zy, By, my, dy, ky))) _ HLF.out (by decide) (by decide)).mono ?_
 rintro e3 w3 ⟨rfl, hb⟩
 rw [HL.out]
 have K3 := K2.next (below_box hb)
 clear K2 hb HLF q0 q1 q2 q3
 obtain ⟨r70, r71, _, _, _⟩ := (K3.blk (mE 1 rfl)).two
 obtain ⟨r90, r91, _, _, _⟩ := (K3.blk (mE 0 rfl)).two
 obtain ⟨c1, hc1⟩ : ∃ b, decide (2048 < nr) = b := ⟨_, rfl⟩
 obtain ⟨c2, hc2⟩ : ∃ b, decide (2048 < nq) = b := ⟨_, rfl⟩
 have C1 := Lib.hid hc1
 have C2 := Lib.hid hc2
 have IR := K3.at_ (neg := sr) (A := Ar) (n := nr) (c := cr) (z := (k1 : Int)) (mE 1 rfl)
 have IQ := K3.at_ (neg := sq) (A := Aq) (n := nq) (c := cq) (z := (k2 : Int)) (mE 0 rfl)
 have CC : Hid ((c1 || c2) = false) := Lib.hid (by
  have e1 := int_len IR (m := M) (by rw [Int.natAbs_natCast]; exact hs1)
  have e2 := int_len IQ (m := M) (by rw [Int.natAbs_natCast]; exact hs2)
  rw [← hc1, ← hc2, decide_eq_false (by omega), decide_eq_false (by omega)]
  rfl)
 clear hc1 hc2 IR IQ hs1 hs2
 go_wp2_with fail
 refine (ex_long_two w3.heap.size sr Ar nr cr sq Aq nq cq c1 c2 _ (by simp) (by simp [go_sem]) (by simp [go_sem]) (by simp [go_sem]) (by simp [go_sem]) C1 C2).mono ?_
 rintro e4 w4 ⟨rfl, hb⟩
 rw [CC.out]
 have K4 := K3.next (below_box hb)
 clear K3 hb r70 r71 r90 r91
 have gcw := (K4.1.cell (p := ⟨gi, 0, none⟩) hgi).trans GC.out.1
 have gfw := ((bcell K4.1).2 gi 0 hgi).trans GC.out.2
 go_upto_region 8 with (fail)
 have K5 := K4.outer hgi gcw (.bool true)
 generalize w4.setCell ⟨gi, 0, none⟩ (.bool true) = w5 at K5 ⊢
 clear K4 gcw gfw
 obtain ⟨⟨q0, q1, q2, q3⟩, _, _⟩ := (K5.blk (g := w.heap.size + 1) (by repeat constructor)).four
 obtain ⟨r70, r71, _, _, _⟩ := (K5.blk (mE 1 rfl)).two
 obtain ⟨r90, r91, _, _, _⟩ := (K5.blk (mE 0 rfl)).two
 obtain ⟨f0, f1, f2, f3, f4, f5, f6, f7⟩ := (K5.blk (g := w.heap.size + 1 + 1) (by repeat constructor)).c8
 obtain ⟨ff0, ff1, ff2, ff3, ff4, ff5, ff6, ff7, _⟩ := (K5.blk (g := w.heap.size + 1 + 1) (by repeat constructor)).f8
 go_wp2_with fail
 have K9 := (K5.pick (L' := [(w.heap.size + 1 + 1, [.bool false, .slice none 0 0, .bool false, .slice none 0 0, .bool false, .slice none 0 0, .bool false, .slice none 0 0])]) (l' := [(sy, Ay, ny, cy, y.num), (zy, By, my, dy, (y.den : Int)), (sr, Ar, nr, cr, (k1 : Int)), (sq, Aq, nq, cq, (k2 : Int))]) (by simp) (by simp)).set8 (by simp) sy Ay ny cy zy By my dy sr Ar nr cr sq Aq nq cq
 have O9 : Owns w.heap.size _ [(Ar, nr, cr), (Aq, nq, cq)] := K9.own2 1 0 rfl rfl (by decide)
 have hb9 := K9.1
 rw [show (w.setCell ⟨gi, 0, none⟩ (.bool true)).heap.size = w.heap.size by simp [World.setCell]] at hb9
 exact bodyPost_ret (v := .tuple #[.agg #[.bool sy, .slice Ay ny cy, .bool zy, .slice By my dy, .bool sr, .slice Ar nr cr, .bool sq, .slice Aq nq cq], .int .i64 0]) (by simp [results, Tryz.results112, go_sem, f0, f1, f2, f3, f4, f5, f6, f7]) rfl ⟨_, _, _, _, _, _, _, _, _, _, _, _, _, _, _, _, rfl, K9.at_ (by simp), K9.at_ (by simp), K9.at_ (by simp), K9.at_ (by simp), fun B hB hO hg => owns_mix hB hb9 O9 hO hg, hb9⟩
end Go.Proofs.YtgekmbfmfiikkaaGreatDoor
