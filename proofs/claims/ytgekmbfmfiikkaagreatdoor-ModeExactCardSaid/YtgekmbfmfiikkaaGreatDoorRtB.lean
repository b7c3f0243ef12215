/-
  polestarref16.gate.
  The root of a whole number, of the reference (polestarref01.Root), of more limbs.
-/
import Derived.Test.YtgekmbfmfiikkaaGreatDoorMdN
import Derived.Test.YtgekmbfmfiikkaaGreatDoorRootR
namespace Go.Proofs.YtgekmbfmfiikkaaGreatDoor
open Go.RowKit

set_option maxRecDepth 100000 in
set_option maxHeartbeats 6400000 in
theorem gate_arg (sa : Bool) (Aa : Option Addr) (na ca : Nat) (la : List Nat) (za : Bool) (Ba : Option Addr) (ma da : Nat) (ka : List Nat) (sb : Bool) (Ab : Option Addr) (nb cb : Nat) (lb : List Nat) (zb : Bool) (Bb : Option Addr) (mb db : Nat) (kb : List Nat) (sc : Bool) (Ac : Option Addr) (nc cc : Nat) (lc : List Nat) (zc : Bool) (Bc : Option Addr) (mc dc : Nat) (kc : List Nat) (sd : Bool) (Ad : Option Addr) (nd cd : Nat) (ld : List Nat) (zd : Bool) (Bd : Option Addr) (md dd : Nat) (kd : List Nat) (w : World) (aa : LmE.at_ w ((sa, Aa, na, ca, la), (za, Ba, ma, da, ka))) (ab : LmE.at_ w ((sb, Ab, nb, cb, lb), (zb, Bb, mb, db, kb))) (ac : LmE.at_ w ((sc, Ac, nc, cc, lc), (zc, Bc, mc, dc, kc))) (ad : LmE.at_ w ((sd, Ad, nd, cd, ld), (zd, Bd, md, dd, kd))) (hm : okM ((sa, Aa, na, ca, la), (za, Ba, ma, da, ka)) ((sb, Ab, nb, cb, lb), (zb, Bb, mb, db, kb)) ((sc, Ac, nc, cc, lc), (zc, Bc, mc, dc, kc)) ((sd, Ad, nd, cd, ld), (zd, Bd, md, dd, kd)) = false) :
  Calls Tryz.prog 118 #[.agg #[.bool sa, .slice Aa na ca, .bool za, .slice Ba ma da, .bool sb, .slice Ab nb cb, .bool zb, .slice Bb mb db, .bool sc, .slice Ac nc cc, .bool zc, .slice Bc mc dc, .bool sd, .slice Ad nd cd, .bool zd, .slice Bd md dd]] w (RetV w (.int .i64 1)) := by
 have K0 := (Mm.nil w).var (g := w.heap.size) rfl [.bool sa, .slice Aa na ca, .bool za, .slice Ba ma da, .bool sb, .slice Ab nb cb, .bool zb, .slice Bb mb db, .bool sc, .slice Ac nc cc, .bool zc, .slice Bc mc dc, .bool sd, .slice Ad nd cd, .bool zd, .slice Bd md dd] 28
 replace aa := LmE.at_.below aa K0.1
 replace ab := LmE.at_.below ab K0.1
 replace ac := LmE.at_.below ac K0.1
 replace ad := LmE.at_.below ad K0.1
 go_enter Tryz.func118, Tryz.ntmps118
 go_upto_region 1 with (fail)
 generalize w.alloc (.cells #[.bool sa, .slice Aa na ca, .bool za, .slice Ba ma da, .bool sb, .slice Ab nb cb, .bool zb, .slice Bb mb db, .bool sc, .slice Ac nc cc, .bool zc, .slice Bc mc dc, .bool sd, .slice Ad nd cd, .bool zd, .slice Bd md dd] 28) = w0 at K0 aa ab ac ad ⊢
 obtain ⟨_, _, _, _, _, _, _, _, _, _, _, _, _, _, _, _⟩ := (K0.blk (g := w.heap.size) (by repeat constructor)).c16
 go_wp2_with fail
 refine (kind_arg sa Aa na ca la za Ba ma da ka sb Ab nb cb lb zb Bb mb db kb sc Ac nc cc lc zc Bc mc dc kc sd Ad nd cd ld zd Bd md dd kd _ aa ab ac ad hm).mono ?_
 rintro e1 w1 ⟨rfl, hb⟩
 all_goals (
  go_wp2_with fail
  go_ret
  exact ⟨rfl, (K0.next hb).1⟩)

set_option maxRecDepth 100000 in
set_option maxHeartbeats 6400000 in
theorem gate_light (sa : Bool) (Aa : Option Addr) (na ca : Nat) (la : List Nat) (za : Bool) (Ba : Option Addr) (ma da : Nat) (ka : List Nat) (xa : Rat) (sb : Bool) (Ab : Option Addr) (nb cb : Nat) (lb : List Nat) (zb : Bool) (Bb : Option Addr) (mb db : Nat) (kb : List Nat) (xb : Rat) (sc : Bool) (Ac : Option Addr) (nc cc : Nat) (lc : List Nat) (zc : Bool) (Bc : Option Addr) (mc dc : Nat) (kc : List Nat) (xc : Rat) (sd : Bool) (Ad : Option Addr) (nd cd : Nat) (ld : List Nat) (zd : Bool) (Bd : Option Addr) (md dd : Nat) (kd : List Nat) (xd : Rat) (M : Nat) (hM : M = 2048) (w : World) (oa : OkF w ((sa, Aa, na, ca, la), (za, Ba, ma, da, ka)) xa) (ob : OkF w ((sb, Ab, nb, cb, lb), (zb, Bb, mb, db, kb)) xb) (oc : OkF w ((sc, Ac, nc, cc, lc), (zc, Bc, mc, dc, kc)) xc) (od : OkF w ((sd, Ad, nd, cd, ld), (zd, Bd, md, dd, kd)) xd) (hdet : xa * xd - xb * xc = 1) (h4 : ¬ 0 < 4 - (xa + xd) * (xa + xd)) :
  Calls Tryz.prog 118 #[.agg #[.bool sa, .slice Aa na ca, .bool za, .slice Ba ma da, .bool sb, .slice Ab nb cb, .bool zb, .slice Bb mb db, .bool sc, .slice Ac nc cc, .bool zc, .slice Bc mc dc, .bool sd, .slice Ad nd cd, .bool zd, .slice Bd md dd]] w (RetV w (.int .i64 8)) := by
 have K0 := (Mm.nil w).var (g := w.heap.size) rfl [.bool sa, .slice Aa na ca, .bool za, .slice Ba ma da, .bool sb, .slice Ab nb cb, .bool zb, .slice Bb mb db, .bool sc, .slice Ac nc cc, .bool zc, .slice Bc mc dc, .bool sd, .slice Ad nd cd, .bool zd, .slice Bd md dd] 28
 replace oa := oa.next K0.1
 replace ob := ob.next K0.1
 replace oc := oc.next K0.1
 replace od := od.next K0.1
 go_enter Tryz.func118, Tryz.ntmps118
 go_upto_region 1 with (fail)
 generalize w.alloc (.cells #[.bool sa, .slice Aa na ca, .bool za, .slice Ba ma da, .bool sb, .slice Ab nb cb, .bool zb, .slice Bb mb db, .bool sc, .slice Ac nc cc, .bool zc, .slice Bc mc dc, .bool sd, .slice Ad nd cd, .bool zd, .slice Bd md dd] 28) = w0 at K0 oa ob oc od ⊢
 obtain ⟨_, _, _, _, _, _, _, _, _, _, _, _, _, _, _, _⟩ := (K0.blk (g := w.heap.size) (by repeat constructor)).c16
 go_wp2_with fail
 refine (kind_un sa Aa na ca la za Ba ma da ka xa sb Ab nb cb lb zb Bb mb db kb xb sc Ac nc cc lc zc Bc mc dc kc xc sd Ad nd cd ld zd Bd md dd kd xd M hM _ oa ob oc od hdet h4).mono ?_
 rintro e1 w1 ⟨k, rfl, hk, hb⟩
 rcases hk with rfl | rfl | rfl
 all_goals (
  go_wp2_with fail
  go_ret
  exact ⟨rfl, (K0.next hb).1⟩)

set_option maxRecDepth 100000 in
set_option maxHeartbeats 6400000 in
theorem gate_ok (sa : Bool) (Aa : Option Addr) (na ca : Nat) (la : List Nat) (za : Bool) (Ba : Option Addr) (ma da : Nat) (ka : List Nat) (xa : Rat) (sb : Bool) (Ab : Option Addr) (nb cb : Nat) (lb : List Nat) (zb : Bool) (Bb : Option Addr) (mb db : Nat) (kb : List Nat) (xb : Rat) (sc : Bool) (Ac : Option Addr) (nc cc : Nat) (lc : List Nat) (zc : Bool) (Bc : Option Addr) (mc dc : Nat) (kc : List Nat) (xc : Rat) (sd : Bool) (Ad : Option Addr) (nd cd : Nat) (ld : List Nat) (zd : Bool) (Bd : Option Addr) (md dd : Nat) (kd : List Nat) (xd : Rat) (M : Nat) (hM : M = 2048) (w : World) (oa : OkF w ((sa, Aa, na, ca, la), (za, Ba, ma, da, ka)) xa) (ob : OkF w ((sb, Ab, nb, cb, lb), (zb, Bb, mb, db, kb)) xb) (oc : OkF w ((sc, Ac, nc, cc, lc), (zc, Bc, mc, dc, kc)) xc) (od : OkF w ((sd, Ad, nd, cd, ld), (zd, Bd, md, dd, kd)) xd) (hdet : xa * xd - xb * xc = 1) (h4 : 0 < 4 - (xa + xd) * (xa + xd)) :
  Calls Tryz.prog 118 #[.agg #[.bool sa, .slice Aa na ca, .bool za, .slice Ba ma da, .bool sb, .slice Ab nb cb, .bool zb, .slice Bb mb db, .bool sc, .slice Ac nc cc, .bool zc, .slice Bc mc dc, .bool sd, .slice Ad nd cd, .bool zd, .slice Bd md dd]] w (RetV w (.int .i64 0)) := by
 have K0 := (Mm.nil w).var (g := w.heap.size) rfl [.bool sa, .slice Aa na ca, .bool za, .slice Ba ma da, .bool sb, .slice Ab nb cb, .bool zb, .slice Bb mb db, .bool sc, .slice Ac nc cc, .bool zc, .slice Bc mc dc, .bool sd, .slice Ad nd cd, .bool zd, .slice Bd md dd] 28
 replace oa := oa.next K0.1
 replace ob := ob.next K0.1
 replace oc := oc.next K0.1
 replace od := od.next K0.1
 go_enter Tryz.func118, Tryz.ntmps118
 go_upto_region 1 with (fail)
 generalize w.alloc (.cells #[.bool sa, .slice Aa na ca, .bool za, .slice Ba ma da, .bool sb, .slice Ab nb cb, .bool zb, .slice Bb mb db, .bool sc, .slice Ac nc cc, .bool zc, .slice Bc mc dc, .bool sd, .slice Ad nd cd, .bool zd, .slice Bd md dd] 28) = w0 at K0 oa ob oc od ⊢
 obtain ⟨_, _, _, _, _, _, _, _, _, _, _, _, _, _, _, _⟩ := (K0.blk (g := w.heap.size) (by repeat constructor)).c16
 go_wp2_with fail
 refine (kind_st sa Aa na ca la za Ba ma da ka xa sb Ab nb cb lb zb Bb mb db kb xb sc Ac nc cc lc zc Bc mc dc kc xc sd Ad nd cd ld zd Bd md dd kd xd M hM _ oa ob oc od hdet h4).mono ?_
 rintro e1 w1 ⟨rfl, hb⟩
 all_goals (
  go_wp2_with fail
  go_ret
  exact ⟨rfl, (K0.next hb).1⟩)
end Go.Proofs.YtgekmbfmfiikkaaGreatDoor

namespace Go.Proofs.YtgekmbfmfiikkaaGreatDoor
open Go.RowKit

set_option maxRecDepth 100000 in
set_option maxHeartbeats 3200000 in
theorem ref_root_big (A : Option Addr) (n c X : Nat) (w : World) (hx : IsInt w false A n c (X : Int)) (hX : 0 < X) (hn : n ≤ 100000) :
  Calls Tryz.prog 225 #[.agg #[.bool false, .slice A n c]] w (RetRoot w X) := by
 have hne : ((n : Int) == 0) = false := by
  rw [beq_eq_false_iff_ne]
  intro h
  have := (isInt_zero hx).1 (by omega)
  omega
 have hlt := isInt_lt hx
 rw [Int.natAbs_natCast, show Lm.B ^ n = 2 ^ (32 * n) by rw [Nat.pow_mul]] at hlt
 obtain ⟨L, hL⟩ : ∃ L, L = bitLen X := ⟨_, rfl⟩
 have hLb : L ≤ 32 * n := by
  rw [hL]; unfold bitLen; rw [if_neg (by omega)]
  have := (Nat.log2_lt (show X ≠ 0 by omega)).2 hlt
  omega
 obtain ⟨H, hH⟩ : ∃ H, H = (L + 1) / 2 := ⟨_, rfl⟩
 have HST := Lib.hid (rt_start (by omega) hL hH)
 have HL1 : Hid (bitLen (X : Int).natAbs = L) := by rw [hL]; exact rfl
 have HW : Hid (IntKind.i64.wrap ((IntKind.i64.wrap ((L : Int) + 1)).tdiv 2) = (H : Int)) := Lib.hid (by
  rw [hH]
  have e1 : IntKind.i64.wrap ((L : Int) + 1) = ((L + 1 : Nat) : Int) := by unfold IntKind.wrap; simp [IntKind.bits, IntKind.signed]; omega
  rw [e1, show (2 : Int) = ((2 : Nat) : Int) from rfl, ← Int.ofNat_tdiv]
  unfold IntKind.wrap; simp [IntKind.bits, IntKind.signed]; omega)
 have hHb : H ≤ 32 * n := by omega
 have HK : Hid (∀ k : Nat, k ≤ 2 ^ H → k < Lm.B ^ (n + 1)) := Lib.hid (by
  intro k hk
  rw [show Lm.B ^ (n + 1) = 2 ^ (32 * (n + 1)) by rw [Nat.pow_mul]]
  exact Nat.lt_of_le_of_lt hk (Nat.pow_lt_pow_right (by decide) (by omega)))
 have HK2 : Hid (∀ k : Nat, k ≤ 2 ^ H → ∀ q : Nat, q ≤ X → k + q < Lm.B ^ (n + 2)) := Lib.hid (by
  intro k hk q hq
  have h1 := HK.out k hk
  have h2 : 2 ^ (32 * n) ≤ Lm.B ^ (n + 1) := by
   rw [show Lm.B ^ (n + 1) = 2 ^ (32 * (n + 1)) by rw [Nat.pow_mul]]
   exact Nat.pow_le_pow_right (by decide) (by omega)
  have h3 : Lm.B ^ (n + 2) = Lm.B ^ (n + 1) * 4294967296 := rfl
  omega)
 have HK3 : Hid (X < Lm.B ^ (n + 1)) := Lib.hid (by
  rw [show Lm.B ^ (n + 1) = 2 ^ (32 * (n + 1)) by rw [Nat.pow_mul]]
  exact Nat.lt_of_lt_of_le hlt (Nat.pow_le_pow_right (by decide) (by omega)))
 have HP0 : Hid (0 < 2 ^ H) := Lib.hid (Nat.two_pow_pos _)
 obtain ⟨P, hP⟩ : ∃ P, P = 2 ^ H := ⟨_, rfl⟩
 rw [← hP] at HST HK HK2 HP0
 have HPP : Hid (((1 : Int) * 2 ^ H) = (P : Int)) := Lib.hid (by rw [hP, Int.one_mul, p2])
 clear hlt hL hLb hH hP
 have hmag := run_mag
 go_enter Tryz.func225, Tryz.ntmps225
 go_upto_region 3 with (fail)
 obtain ⟨W0, hW0⟩ : ∃ W0, W0 = (w.alloc (.cells #[.bool false, .slice A n c] 24)).alloc (.cells #[.bool false, .slice none 0 0] 24) := ⟨_, rfl⟩
 rw [← hW0]
 have i0 : W0.cell? ⟨w.heap.size, 0, none⟩ = some (.bool false) := by rw [hW0]; simp [go_sem]
 have i1 : W0.cell? ⟨w.heap.size, 1, none⟩ = some (.slice A n c) := by rw [hW0]; simp [go_sem]
 have i2 : W0.cell? ⟨w.heap.size + 1, 0, none⟩ = some (.bool false) := by rw [hW0]; simp [go_sem]
 have i3 : W0.cell? ⟨w.heap.size + 1, 1, none⟩ = some (.slice none 0 0) := by rw [hW0]; simp [go_sem]
 have i4 : w.heap.size + 1 < W0.heap.size := by rw [hW0]; simp
 have v00 : W0.frozen? ⟨w.heap.size + 1, 0, none⟩ = false := by rw [hW0]; simp [go_sem]
 have v01 : W0.frozen? ⟨w.heap.size + 1, 1, none⟩ = false := by rw [hW0]; simp [go_sem]
 have hbw0 : Below w.heap.size w W0 := by rw [hW0]; exact ((Below.refl _ _).alloc (Nat.le_refl _) _).alloc (by simp) _
 clear hW0
 have ne00a : ¬ W0.heap.size = w.heap.size := (by omega)
 have ne00b : ¬ w.heap.size = W0.heap.size := (by omega)
 have ne01a : ¬ W0.heap.size = w.heap.size + 1 := (by omega)
 have ne01b : ¬ w.heap.size + 1 = W0.heap.size := (by omega)
 go_cut [4] from 8 (fun s4 wx => ∃ R, s4 = .pointer (some ⟨R, 0, none⟩) ∧ RtIn w A n c P R wx)
 case first =>
  go_region_held3 (fun w' => w'.cell? ⟨w.heap.size, 0, none⟩ = some (.bool false) ∧ w'.cell? ⟨w.heap.size, 1, none⟩ = some (.slice A n c))
   (go_keep)
   (first
   | (go_at_call 284; refine (ref_of_any 1 _ (by omega)).mono ?_; rintro e1 w1 ⟨neg1, A1, n1, c1, rfl, hI1, hb1⟩; obtain ⟨hc1, hf1⟩ := bcell hb1; have hbw1 : Below w.heap.size w w1 := (by first | exact below_next hbw0 hb1 | exact below_next hbw0 (below_box hb1) | exact below_next hbw0 (below_of_drew hb1) | exact below_next hbw0 (below_box (below_of_drew hb1)) | exact below_next hbw0 (below_of_drew (below_box hb1))); have x10 := hc1 (w.heap.size) 0 (by first | omega | (simp <;> omega)); have y10 := (by first | exact x10.trans i0 | exact x10.trans (cell_alloc _ _ (by omega) i0) : w1.cell? ⟨w.heap.size, 0, none⟩ = some (.bool false)); have x11 := hc1 (w.heap.size) 1 (by first | omega | (simp <;> omega)); have y11 := (by first | exact x11.trans i1 | exact x11.trans (cell_alloc _ _ (by omega) i1) : w1.cell? ⟨w.heap.size, 1, none⟩ = some (.slice A n c)); have x12 := hc1 (w.heap.size + 1) 0 (by first | omega | (simp <;> omega)); have y12 := (by first | exact x12.trans i2 | exact x12.trans (cell_alloc _ _ (by omega) i2) : w1.cell? ⟨w.heap.size + 1, 0, none⟩ = some (.bool false)); have x13 := hc1 (w.heap.size + 1) 1 (by first | omega | (simp <;> omega)); have y13 := (by first | exact x13.trans i3 | exact x13.trans (cell_alloc _ _ (by omega) i3) : w1.cell? ⟨w.heap.size + 1, 1, none⟩ = some (.slice none 0 0)); have v10 := (by first | exact (hf1 (w.heap.size + 1) 0 (by first | omega | (simp <;> omega))).trans v00 | exact (hf1 (w.heap.size + 1) 0 (by first | omega | (simp <;> omega))).trans ((frozen_alloc _ (by omega)).trans v00) : w1.frozen? ⟨w.heap.size + 1, 0, none⟩ = false); have v11 := (by first | exact (hf1 (w.heap.size + 1) 1 (by first | omega | (simp <;> omega))).trans v01 | exact (hf1 (w.heap.size + 1) 1 (by first | omega | (simp <;> omega))).trans ((frozen_alloc _ (by omega)).trans v01) : w1.frozen? ⟨w.heap.size + 1, 1, none⟩ = false); have s1 : w.heap.size + 1 < w1.heap.size := (by have := hb1.size; first | omega | (simp at this; omega)); obtain ⟨ne10a, ne10b⟩ := nq (a := w1.heap.size) (b := w.heap.size) (by omega); obtain ⟨ne11a, ne11b⟩ := nq (a := w1.heap.size) (b := w.heap.size + 1) (by omega); (try (have kr1c00 := hc1 W0.heap.size 0 ?_; rotate_left; (first | omega | (focus (simp; done)) | (focus (simp; omega))))); (try (have kr1c01 := hc1 W0.heap.size 1 ?_; rotate_left; (first | omega | (focus (simp; done)) | (focus (simp; omega))))); (try (have kr1f00 := hf1 W0.heap.size 0 ?_; rotate_left; (first | omega | (focus (simp; done)) | (focus (simp; omega))))); (try (have kr1f01 := hf1 W0.heap.size 1 ?_; rotate_left; (first | omega | (focus (simp; done)) | (focus (simp; omega))))); (try (have sr10 : W0.heap.size < w1.heap.size := ?_; rotate_left; ((have := hb1.size); first | omega | (simp at this; omega)))); have hX1 := hx.below hbw1)
   | (go_at_call 285; (with_reducible refine (ref_bits_of _ A _ _ _ L _ ?_ ?_ HL1).mono ?_); (first | exact hX1 | exact hX1.alloc _); omega; rintro e2 w2 ⟨rfl, hb2⟩; obtain ⟨hc2, hf2⟩ := bcell hb2; have hbw2 : Below w.heap.size w w2 := (by first | exact below_next hbw1 hb2 | exact below_next hbw1 (below_box hb2) | exact below_next hbw1 (below_of_drew hb2) | exact below_next hbw1 (below_box (below_of_drew hb2)) | exact below_next hbw1 (below_of_drew (below_box hb2))); have x20 := hc2 (w.heap.size) 0 (by first | omega | (simp <;> omega)); have y20 := (by first | exact x20.trans y10 | exact x20.trans (cell_alloc _ _ (by omega) y10) : w2.cell? ⟨w.heap.size, 0, none⟩ = some (.bool false)); have x21 := hc2 (w.heap.size) 1 (by first | omega | (simp <;> omega)); have y21 := (by first | exact x21.trans y11 | exact x21.trans (cell_alloc _ _ (by omega) y11) : w2.cell? ⟨w.heap.size, 1, none⟩ = some (.slice A n c)); have x22 := hc2 (w.heap.size + 1) 0 (by first | omega | (simp <;> omega)); have y22 := (by first | exact x22.trans y12 | exact x22.trans (cell_alloc _ _ (by omega) y12) : w2.cell? ⟨w.heap.size + 1, 0, none⟩ = some (.bool false)); have x23 := hc2 (w.heap.size + 1) 1 (by first | omega | (simp <;> omega)); have y23 := (by first | exact x23.trans y13 | exact x23.trans (cell_alloc _ _ (by omega) y13) : w2.cell? ⟨w.heap.size + 1, 1, none⟩ = some (.slice none 0 0)); have v20 := (by first | exact (hf2 (w.heap.size + 1) 0 (by first | omega | (simp <;> omega))).trans v10 | exact (hf2 (w.heap.size + 1) 0 (by first | omega | (simp <;> omega))).trans ((frozen_alloc _ (by omega)).trans v10) : w2.frozen? ⟨w.heap.size + 1, 0, none⟩ = false); have v21 := (by first | exact (hf2 (w.heap.size + 1) 1 (by first | omega | (simp <;> omega))).trans v11 | exact (hf2 (w.heap.size + 1) 1 (by first | omega | (simp <;> omega))).trans ((frozen_alloc _ (by omega)).trans v11) : w2.frozen? ⟨w.heap.size + 1, 1, none⟩ = false); have s2 : w.heap.size + 1 < w2.heap.size := (by have := hb2.size; first | omega | (simp at this; omega)); obtain ⟨ne20a, ne20b⟩ := nq (a := w2.heap.size) (b := w.heap.size) (by omega); obtain ⟨ne21a, ne21b⟩ := nq (a := w2.heap.size) (b := w.heap.size + 1) (by omega); (try (have kr2c00 := hc2 W0.heap.size 0 ?_; rotate_left; (first | omega | (focus (simp; done)) | (focus (simp; omega))))); (try (have kr2c01 := hc2 W0.heap.size 1 ?_; rotate_left; (first | omega | (focus (simp; done)) | (focus (simp; omega))))); (try (have kr2f00 := hf2 W0.heap.size 0 ?_; rotate_left; (first | omega | (focus (simp; done)) | (focus (simp; omega))))); (try (have kr2f01 := hf2 W0.heap.size 1 ?_; rotate_left; (first | omega | (focus (simp; done)) | (focus (simp; omega))))); (try (have sr20 : W0.heap.size < w2.heap.size := ?_; rotate_left; ((have := hb2.size); first | omega | (simp at this; omega)))); (try (have kr2c10 := hc2 w1.heap.size 0 ?_; rotate_left; (first | omega | (focus (simp; done)) | (focus (simp; omega))))); (try (have kr2c11 := hc2 w1.heap.size 1 ?_; rotate_left; (first | omega | (focus (simp; done)) | (focus (simp; omega))))); (try (have kr2f10 := hf2 w1.heap.size 0 ?_; rotate_left; (first | omega | (focus (simp; done)) | (focus (simp; omega))))); (try (have kr2f11 := hf2 w1.heap.size 1 ?_; rotate_left; (first | omega | (focus (simp; done)) | (focus (simp; omega))))); (try (have sr21 : w1.heap.size < w2.heap.size := ?_; rotate_left; ((have := hb2.size); first | omega | (simp at this; omega)))); have hI2 := (by first | exact hI1.below hb2 | exact (hI1.alloc _).below hb2 : IsInt w2 neg1 A1 n1 c1 1); have hn1 := isInt_len_le hI1 (show (1 : Int).natAbs < Lm.B ^ 1 by decide))
   | (go_at_call 283; rw [HW.out]; have hh : ∀ W, IsInt W neg1 A1 n1 c1 1 → Calls Tryz.prog 283 #[.agg #[.bool neg1, .slice A1 n1 c1], .int .i64 (H : Int)] W (RetInt W (1 * 2 ^ H)) := (fun W h => ref_double_any _ _ _ _ _ _ _ h (by omega) (by omega)); refine (hh _ ?_).mono ?_; (first | exact hI2 | exact hI2.alloc _); clear hh; rintro e3 w3 ⟨neg3, A3, n3, c3, rfl, hI3, hb3⟩; obtain ⟨hc3, hf3⟩ := bcell hb3; have hbw3 : Below w.heap.size w w3 := (by first | exact below_next hbw2 hb3 | exact below_next hbw2 (below_box hb3) | exact below_next hbw2 (below_of_drew hb3) | exact below_next hbw2 (below_box (below_of_drew hb3)) | exact below_next hbw2 (below_of_drew (below_box hb3))); have x30 := hc3 (w.heap.size) 0 (by first | omega | (simp <;> omega)); have y30 := (by first | exact x30.trans y20 | exact x30.trans (cell_alloc _ _ (by omega) y20) : w3.cell? ⟨w.heap.size, 0, none⟩ = some (.bool false)); have x31 := hc3 (w.heap.size) 1 (by first | omega | (simp <;> omega)); have y31 := (by first | exact x31.trans y21 | exact x31.trans (cell_alloc _ _ (by omega) y21) : w3.cell? ⟨w.heap.size, 1, none⟩ = some (.slice A n c)); have x32 := hc3 (w.heap.size + 1) 0 (by first | omega | (simp <;> omega)); have y32 := (by first | exact x32.trans y22 | exact x32.trans (cell_alloc _ _ (by omega) y22) : w3.cell? ⟨w.heap.size + 1, 0, none⟩ = some (.bool false)); have x33 := hc3 (w.heap.size + 1) 1 (by first | omega | (simp <;> omega)); have y33 := (by first | exact x33.trans y23 | exact x33.trans (cell_alloc _ _ (by omega) y23) : w3.cell? ⟨w.heap.size + 1, 1, none⟩ = some (.slice none 0 0)); have v30 := (by first | exact (hf3 (w.heap.size + 1) 0 (by first | omega | (simp <;> omega))).trans v20 | exact (hf3 (w.heap.size + 1) 0 (by first | omega | (simp <;> omega))).trans ((frozen_alloc _ (by omega)).trans v20) : w3.frozen? ⟨w.heap.size + 1, 0, none⟩ = false); have v31 := (by first | exact (hf3 (w.heap.size + 1) 1 (by first | omega | (simp <;> omega))).trans v21 | exact (hf3 (w.heap.size + 1) 1 (by first | omega | (simp <;> omega))).trans ((frozen_alloc _ (by omega)).trans v21) : w3.frozen? ⟨w.heap.size + 1, 1, none⟩ = false); have s3 : w.heap.size + 1 < w3.heap.size := (by have := hb3.size; first | omega | (simp at this; omega)); obtain ⟨ne30a, ne30b⟩ := nq (a := w3.heap.size) (b := w.heap.size) (by omega); obtain ⟨ne31a, ne31b⟩ := nq (a := w3.heap.size) (b := w.heap.size + 1) (by omega); (try (have kr3c00 := hc3 W0.heap.size 0 ?_; rotate_left; (first | omega | (focus (simp; done)) | (focus (simp; omega))))); (try (have kr3c01 := hc3 W0.heap.size 1 ?_; rotate_left; (first | omega | (focus (simp; done)) | (focus (simp; omega))))); (try (have kr3f00 := hf3 W0.heap.size 0 ?_; rotate_left; (first | omega | (focus (simp; done)) | (focus (simp; omega))))); (try (have kr3f01 := hf3 W0.heap.size 1 ?_; rotate_left; (first | omega | (focus (simp; done)) | (focus (simp; omega))))); (try (have sr30 : W0.heap.size < w3.heap.size := ?_; rotate_left; ((have := hb3.size); first | omega | (simp at this; omega)))); (try (have kr3c10 := hc3 w1.heap.size 0 ?_; rotate_left; (first | omega | (focus (simp; done)) | (focus (simp; omega))))); (try (have kr3c11 := hc3 w1.heap.size 1 ?_; rotate_left; (first | omega | (focus (simp; done)) | (focus (simp; omega))))); (try (have kr3f10 := hf3 w1.heap.size 0 ?_; rotate_left; (first | omega | (focus (simp; done)) | (focus (simp; omega))))); (try (have kr3f11 := hf3 w1.heap.size 1 ?_; rotate_left; (first | omega | (focus (simp; done)) | (focus (simp; omega))))); (try (have sr31 : w1.heap.size < w3.heap.size := ?_; rotate_left; ((have := hb3.size); first | omega | (simp at this; omega)))); (try (have kr3c20 := hc3 w2.heap.size 0 ?_; rotate_left; (first | omega | (focus (simp; done)) | (focus (simp; omega))))); (try (have kr3c21 := hc3 w2.heap.size 1 ?_; rotate_left; (first | omega | (focus (simp; done)) | (focus (simp; omega))))); (try (have kr3f20 := hf3 w2.heap.size 0 ?_; rotate_left; (first | omega | (focus (simp; done)) | (focus (simp; omega))))); (try (have kr3f21 := hf3 w2.heap.size 1 ?_; rotate_left; (first | omega | (focus (simp; done)) | (focus (simp; omega))))); (try (have sr32 : w2.heap.size < w3.heap.size := ?_; rotate_left; ((have := hb3.size); first | omega | (simp at this; omega))))))
  all_goals (go_wp2_with fail)
  all_goals go_meet
  ·rw [HPP.out] at hI3
   exact ⟨_, rfl, RtIn.new _ hI3 y30 y31 y32 y33 s3 hbw3 v30 v31⟩
  ·rw [HPP.out] at hI3
   have t0 : w3.cell? ⟨w2.heap.size, 0, none⟩ = some (.bool false) := by rw [kr3c20]; simp [go_sem]
   have t1 : w3.cell? ⟨w2.heap.size, 1, none⟩ = some (.slice none 0 0) := by rw [kr3c21]; simp [go_sem]
   have t2 : w3.frozen? ⟨w2.heap.size, 0, none⟩ = false := by rw [kr3f20]; simp [go_sem]
   have t3 : w3.frozen? ⟨w2.heap.size, 1, none⟩ = false := by rw [kr3f21]; simp [go_sem]
   have hR : w2.heap.size < w3.heap.size := by first | exact sr32 | omega
   exact ⟨_, rfl, RtIn.set hI3 t0 t1 y30 y31 y32 y33 hR (by omega) hbw3 t2 t3 v30 v31⟩
  ·rw [HPP.out] at hI3
   have t0 : w3.cell? ⟨w1.heap.size, 0, none⟩ = some (.bool false) := by rw [kr3c10, kr2c10]; simp [go_sem]
   have t1 : w3.cell? ⟨w1.heap.size, 1, none⟩ = some (.slice none 0 0) := by rw [kr3c11, kr2c11]; simp [go_sem]
   have t2 : w3.frozen? ⟨w1.heap.size, 0, none⟩ = false := by rw [kr3f10, kr2f10]; simp [go_sem]
   have t3 : w3.frozen? ⟨w1.heap.size, 1, none⟩ = false := by rw [kr3f11, kr2f11]; simp [go_sem]
   have hR : w1.heap.size < w3.heap.size := by first | exact sr31 | omega
   exact ⟨_, rfl, RtIn.set hI3 t0 t1 y30 y31 y32 y33 hR (by omega) hbw3 t2 t3 v30 v31⟩
  ·rw [HPP.out] at hI3
   have t0 : w3.cell? ⟨W0.heap.size, 0, none⟩ = some (.bool false) := by rw [kr3c00, kr2c00, kr1c00]; simp [go_sem]
   have t1 : w3.cell? ⟨W0.heap.size, 1, none⟩ = some (.slice none 0 0) := by rw [kr3c01, kr2c01, kr1c01]; simp [go_sem]
   have t2 : w3.frozen? ⟨W0.heap.size, 0, none⟩ = false := by rw [kr3f00, kr2f00, kr1f00]; simp [go_sem]
   have t3 : w3.frozen? ⟨W0.heap.size, 1, none⟩ = false := by rw [kr3f01, kr2f01, kr1f01]; simp [go_sem]
   have hR : W0.heap.size < w3.heap.size := by first | exact sr30 | omega
   exact ⟨_, rfl, RtIn.set hI3 t0 t1 y30 y31 y32 y33 hR (by omega) hbw3 t2 t3 v30 v31⟩
 case rest =>
  obtain ⟨R, rfl, hRt⟩ := hcut
  clear i0 i1 i2 i3 i4 hbw0 ne00a ne00b ne01a ne01b
  go_wp2
  go_loopg [5] P (fun k p5 wr => RtIn w A n c k R wr ∧ Hid (0 < k ∧ X < (k + 1) * (k + 1) ∧ k ≤ P))
  case atStart => exact ⟨hRt, Lib.hid ⟨HP0.out, HST.out, Nat.le_refl _⟩⟩
  case round =>
   clear hRt
   obtain ⟨⟨negr, Ar, nr, cr, gr0, gr1, hIr, gr2, gr3, gr4, gr5, hR, hs, hbr, zr0, zr1, zr2, zr3⟩, HG⟩ := hrel
   have : ¬ R = w.heap.size + 1 := by omega
   have : ¬ w.heap.size + 1 = R := by omega
   have hXr := hx.below hbr
   have hgk := HG.out.1
   have hnr : nr ≤ n + 1 := isInt_len_le hIr (by rw [Int.natAbs_natCast]; exact HK.out gk HG.out.2.2)
   go_wp2_with fail
   refine (ref_Divide_any _ _ _ _ _ _ _ _ _ _ _ hXr hIr (by omega) (by omega) (by omega)).mono ?_
   rintro e4 w4 ⟨neg4, A4, n4, c4, neg5, A5, n5, c5, rfl, hI4, hI5, hb4⟩
   obtain ⟨q, hq⟩ : ∃ q, X / gk = q := ⟨_, rfl⟩
   have e4 : ((X : Int).tdiv (gk : Int)) = (q : Int) := by rw [← Int.ofNat_tdiv, hq]
   rw [e4] at hI4
   have hqX : q ≤ X := by rw [← hq]; exact Nat.div_le_self _ _
   have hn4 : n4 ≤ n := isInt_len_mono hI4 hx (by rw [Int.natAbs_natCast, Int.natAbs_natCast]; exact hqX)
   have HQ := Lib.hid hq
   have HS6 := HK2.out gk HG.out.2.2 q hqX
   have HSB := Lib.hid HS6
   obtain ⟨hc4, hf4⟩ := bcell hb4
   have g40 : w4.cell? ⟨R, 0, none⟩ = some (.bool negr) := (hc4 R 0 (by first | omega | (simp <;> omega))).trans (gr0)
   have g41 : w4.cell? ⟨R, 1, none⟩ = some (.slice Ar nr cr) := (hc4 R 1 (by first | omega | (simp <;> omega))).trans (gr1)
   have g42 : w4.cell? ⟨w.heap.size, 0, none⟩ = some (.bool false) := (hc4 w.heap.size 0 (by first | omega | (simp <;> omega))).trans (gr2)
   have g43 : w4.cell? ⟨w.heap.size, 1, none⟩ = some (.slice A n c) := (hc4 w.heap.size 1 (by first | omega | (simp <;> omega))).trans (gr3)
   have g44 : w4.cell? ⟨(w.heap.size + 1), 0, none⟩ = some (.bool false) := (hc4 (w.heap.size + 1) 0 (by first | omega | (simp <;> omega))).trans (gr4)
   have g45 : w4.cell? ⟨(w.heap.size + 1), 1, none⟩ = some (.slice none 0 0) := (hc4 (w.heap.size + 1) 1 (by first | omega | (simp <;> omega))).trans (gr5)
   have z40 : w4.frozen? ⟨R, 0, none⟩ = false := (hf4 R 0 (by first | omega | (simp <;> omega))).trans (zr0)
   have z41 : w4.frozen? ⟨R, 1, none⟩ = false := (hf4 R 1 (by first | omega | (simp <;> omega))).trans (zr1)
   have z42 : w4.frozen? ⟨(w.heap.size + 1), 0, none⟩ = false := (hf4 (w.heap.size + 1) 0 (by first | omega | (simp <;> omega))).trans (zr2)
   have z43 : w4.frozen? ⟨(w.heap.size + 1), 1, none⟩ = false := (hf4 (w.heap.size + 1) 1 (by first | omega | (simp <;> omega))).trans (zr3)
   have s4 : R < w4.heap.size := by have := hb4.size; first | omega | (simp at this; omega)
   have : ¬ R = w4.heap.size := by omega
   have : ¬ w4.heap.size = R := by omega
   have : ¬ R = w4.heap.size + 1 := by omega
   have : ¬ w4.heap.size + 1 = R := by omega
   have : ¬ w.heap.size = w4.heap.size := by omega
   have : ¬ w4.heap.size = w.heap.size := by omega
   have : ¬ w.heap.size = w4.heap.size + 1 := by omega
   have : ¬ w4.heap.size + 1 = w.heap.size := by omega
   have : ¬ w.heap.size + 1 = w4.heap.size := by omega
   have : ¬ w4.heap.size = w.heap.size + 1 := by omega
   have : ¬ w.heap.size + 1 = w4.heap.size + 1 := by omega
   have : ¬ w4.heap.size + 1 = w.heap.size + 1 := by omega
   have hIr4 := hIr.below hb4
   have hbw4 := below_next hbr hb4
   clear hq e4 hI5 hc4 hf4 HS6 hqX hXr
   go_wp2_with fail
   refine (ref_plus_any negr neg4 Ar A4 nr cr n4 c4 (gk : Int) (q : Int) _ ((hIr4.alloc _).alloc _) ((hI4.alloc _).alloc _) (by omega) (by omega)).mono ?_
   rintro e6 w6 ⟨neg6, A6, n6, c6, rfl, hI6, hb6⟩
   obtain ⟨hc6, hf6⟩ := bcell hb6
   have g60 : w6.cell? ⟨R, 0, none⟩ = some (.bool negr) := (hc6 R 0 (by first | omega | (simp <;> omega))).trans (cell_alloc _ _ (by simp <;> omega) (cell_alloc _ _ (by omega) g40))
   have g61 : w6.cell? ⟨R, 1, none⟩ = some (.slice Ar nr cr) := (hc6 R 1 (by first | omega | (simp <;> omega))).trans (cell_alloc _ _ (by simp <;> omega) (cell_alloc _ _ (by omega) g41))
   have g62 : w6.cell? ⟨w.heap.size, 0, none⟩ = some (.bool false) := (hc6 w.heap.size 0 (by first | omega | (simp <;> omega))).trans (cell_alloc _ _ (by simp <;> omega) (cell_alloc _ _ (by omega) g42))
   have g63 : w6.cell? ⟨w.heap.size, 1, none⟩ = some (.slice A n c) := (hc6 w.heap.size 1 (by first | omega | (simp <;> omega))).trans (cell_alloc _ _ (by simp <;> omega) (cell_alloc _ _ (by omega) g43))
   have g64 : w6.cell? ⟨(w.heap.size + 1), 0, none⟩ = some (.bool false) := (hc6 (w.heap.size + 1) 0 (by first | omega | (simp <;> omega))).trans (cell_alloc _ _ (by simp <;> omega) (cell_alloc _ _ (by omega) g44))
   have g65 : w6.cell? ⟨(w.heap.size + 1), 1, none⟩ = some (.slice none 0 0) := (hc6 (w.heap.size + 1) 1 (by first | omega | (simp <;> omega))).trans (cell_alloc _ _ (by simp <;> omega) (cell_alloc _ _ (by omega) g45))
   have z60 : w6.frozen? ⟨R, 0, none⟩ = false := (hf6 R 0 (by first | omega | (simp <;> omega))).trans ((frozen_alloc _ (by simp <;> omega)).trans ((frozen_alloc _ (by omega)).trans z40))
   have z61 : w6.frozen? ⟨R, 1, none⟩ = false := (hf6 R 1 (by first | omega | (simp <;> omega))).trans ((frozen_alloc _ (by simp <;> omega)).trans ((frozen_alloc _ (by omega)).trans z41))
   have z62 : w6.frozen? ⟨(w.heap.size + 1), 0, none⟩ = false := (hf6 (w.heap.size + 1) 0 (by first | omega | (simp <;> omega))).trans ((frozen_alloc _ (by simp <;> omega)).trans ((frozen_alloc _ (by omega)).trans z42))
   have z63 : w6.frozen? ⟨(w.heap.size + 1), 1, none⟩ = false := (hf6 (w.heap.size + 1) 1 (by first | omega | (simp <;> omega))).trans ((frozen_alloc _ (by simp <;> omega)).trans ((frozen_alloc _ (by omega)).trans z43))
   have s6 : R < w6.heap.size := by have := hb6.size; first | omega | (simp at this; omega)
   have hIr6 := ((hIr4.alloc _).alloc _).below hb6
   have hbw6 := below_next hbw4 (below_box (below_box hb6))
   have hn6 : n6 ≤ n + 2 := isInt_len_le hI6 (by rw [show ((gk : Int) + (q : Int)).natAbs = gk + q by omega]; exact HSB.out)
   obtain ⟨l6, hS6, hcan6, _, hv6⟩ := hI6
   have hlv6 : Hid (Lm.lv l6 = gk + q) := Lib.hid (by unfold sgnd at hv6; split at hv6 <;> omega)
   clear hv6 hc6 hf6
   go_wp2_with fail
   refine (ref_half_any _ _ _ _ _ hS6 (by omega)).mono ?_
   rintro e7 w7 ⟨A7, n7, c7, l7, rfl, hS7, ⟨hv7, hl7⟩, hb7⟩
   obtain ⟨hc7, hf7⟩ := bcell hb7
   have g70 : w7.cell? ⟨R, 0, none⟩ = some (.bool negr) := (hc7 R 0 (by first | omega | (simp <;> omega))).trans (g60)
   have g71 : w7.cell? ⟨R, 1, none⟩ = some (.slice Ar nr cr) := (hc7 R 1 (by first | omega | (simp <;> omega))).trans (g61)
   have g72 : w7.cell? ⟨w.heap.size, 0, none⟩ = some (.bool false) := (hc7 w.heap.size 0 (by first | omega | (simp <;> omega))).trans (g62)
   have g73 : w7.cell? ⟨w.heap.size, 1, none⟩ = some (.slice A n c) := (hc7 w.heap.size 1 (by first | omega | (simp <;> omega))).trans (g63)
   have g74 : w7.cell? ⟨(w.heap.size + 1), 0, none⟩ = some (.bool false) := (hc7 (w.heap.size + 1) 0 (by first | omega | (simp <;> omega))).trans (g64)
   have g75 : w7.cell? ⟨(w.heap.size + 1), 1, none⟩ = some (.slice none 0 0) := (hc7 (w.heap.size + 1) 1 (by first | omega | (simp <;> omega))).trans (g65)
   have z70 : w7.frozen? ⟨R, 0, none⟩ = false := (hf7 R 0 (by first | omega | (simp <;> omega))).trans (z60)
   have z71 : w7.frozen? ⟨R, 1, none⟩ = false := (hf7 R 1 (by first | omega | (simp <;> omega))).trans (z61)
   have z72 : w7.frozen? ⟨(w.heap.size + 1), 0, none⟩ = false := (hf7 (w.heap.size + 1) 0 (by first | omega | (simp <;> omega))).trans (z62)
   have z73 : w7.frozen? ⟨(w.heap.size + 1), 1, none⟩ = false := (hf7 (w.heap.size + 1) 1 (by first | omega | (simp <;> omega))).trans (z63)
   have s7 : R < w7.heap.size := by have := hb7.size; first | omega | (simp at this; omega)
   have hIr7 := hIr6.below hb7
   have hbw7 := below_next hbw6 hb7
   have HV7 := Lib.hid hv7
   have hn7 := hS7.len
   clear hv7 hc7 hf7
   go_wp2_with fail
   refine (ref_signed_any false _ _ _ _ _ hS7 (by omega)).mono ?_
   rintro e8 w8 ⟨neg8, A8, n8, c8, rfl, hI8, hb8⟩
   obtain ⟨hc8, hf8⟩ := bcell hb8
   have g80 : w8.cell? ⟨R, 0, none⟩ = some (.bool negr) := (hc8 R 0 (by first | omega | (simp <;> omega))).trans (g70)
   have g81 : w8.cell? ⟨R, 1, none⟩ = some (.slice Ar nr cr) := (hc8 R 1 (by first | omega | (simp <;> omega))).trans (g71)
   have g82 : w8.cell? ⟨w.heap.size, 0, none⟩ = some (.bool false) := (hc8 w.heap.size 0 (by first | omega | (simp <;> omega))).trans (g72)
   have g83 : w8.cell? ⟨w.heap.size, 1, none⟩ = some (.slice A n c) := (hc8 w.heap.size 1 (by first | omega | (simp <;> omega))).trans (g73)
   have g84 : w8.cell? ⟨(w.heap.size + 1), 0, none⟩ = some (.bool false) := (hc8 (w.heap.size + 1) 0 (by first | omega | (simp <;> omega))).trans (g74)
   have g85 : w8.cell? ⟨(w.heap.size + 1), 1, none⟩ = some (.slice none 0 0) := (hc8 (w.heap.size + 1) 1 (by first | omega | (simp <;> omega))).trans (g75)
   have z80 : w8.frozen? ⟨R, 0, none⟩ = false := (hf8 R 0 (by first | omega | (simp <;> omega))).trans (z70)
   have z81 : w8.frozen? ⟨R, 1, none⟩ = false := (hf8 R 1 (by first | omega | (simp <;> omega))).trans (z71)
   have z82 : w8.frozen? ⟨(w.heap.size + 1), 0, none⟩ = false := (hf8 (w.heap.size + 1) 0 (by first | omega | (simp <;> omega))).trans (z72)
   have z83 : w8.frozen? ⟨(w.heap.size + 1), 1, none⟩ = false := (hf8 (w.heap.size + 1) 1 (by first | omega | (simp <;> omega))).trans (z73)
   have s8 : R < w8.heap.size := by have := hb8.size; first | omega | (simp at this; omega)
   have : ¬ R = w8.heap.size := by omega
   have : ¬ w8.heap.size = R := by omega
   have : ¬ w.heap.size = w8.heap.size := by omega
   have : ¬ w8.heap.size = w.heap.size := by omega
   have : ¬ w.heap.size + 1 = w8.heap.size := by omega
   have : ¬ w8.heap.size = w.heap.size + 1 := by omega
   have hIr8 := hIr7.below hb8
   have hbw8 := below_next hbw7 hb8
   obtain ⟨m, hm⟩ : ∃ m, (gk + q) / 2 = m := ⟨_, rfl⟩
   have hv8 : sgnd false (Lm.lv l7) = (m : Int) := by rw [HV7.out, hlv6.out, hm]; rfl
   rw [hv8] at hI8
   have hn8 : n8 ≤ n + 2 := isInt_len_le hI8 (by rw [Int.natAbs_natCast]; have := HSB.out; omega)
   have HM := Lib.hid hm
   clear hv8 hm hc8 hf8
   have hI8a := hI8.alloc (.cells #[.bool neg8, .slice A8 n8 c8] 24)
   have hIr8a := hIr8.alloc (.cells #[.bool neg8, .slice A8 n8 c8] 24)
   by_cases hge : gk ≤ m
   ·go_wp2_with fail
    refine (ref_cmp_ge _ _ _ _ _ _ _ _ _ _ _ hI8a hIr8a (by omega) (by omega) (by omega)).mono ?_
    rintro e9 w9 ⟨v9, rfl, hv9, hb9⟩
    obtain ⟨hc9, hf9⟩ := bcell hb9
    have g90 : w9.cell? ⟨R, 0, none⟩ = some (.bool negr) := (hc9 R 0 (by first | omega | (simp <;> omega))).trans (cell_alloc _ _ (by omega) g80)
    have g91 : w9.cell? ⟨R, 1, none⟩ = some (.slice Ar nr cr) := (hc9 R 1 (by first | omega | (simp <;> omega))).trans (cell_alloc _ _ (by omega) g81)
    have g92 : w9.cell? ⟨w.heap.size, 0, none⟩ = some (.bool false) := (hc9 w.heap.size 0 (by first | omega | (simp <;> omega))).trans (cell_alloc _ _ (by omega) g82)
    have g93 : w9.cell? ⟨w.heap.size, 1, none⟩ = some (.slice A n c) := (hc9 w.heap.size 1 (by first | omega | (simp <;> omega))).trans (cell_alloc _ _ (by omega) g83)
    have g94 : w9.cell? ⟨(w.heap.size + 1), 0, none⟩ = some (.bool false) := (hc9 (w.heap.size + 1) 0 (by first | omega | (simp <;> omega))).trans (cell_alloc _ _ (by omega) g84)
    have g95 : w9.cell? ⟨(w.heap.size + 1), 1, none⟩ = some (.slice none 0 0) := (hc9 (w.heap.size + 1) 1 (by first | omega | (simp <;> omega))).trans (cell_alloc _ _ (by omega) g85)
    have z90 : w9.frozen? ⟨R, 0, none⟩ = false := (hf9 R 0 (by first | omega | (simp <;> omega))).trans ((frozen_alloc _ (by omega)).trans z80)
    have z91 : w9.frozen? ⟨R, 1, none⟩ = false := (hf9 R 1 (by first | omega | (simp <;> omega))).trans ((frozen_alloc _ (by omega)).trans z81)
    have z92 : w9.frozen? ⟨(w.heap.size + 1), 0, none⟩ = false := (hf9 (w.heap.size + 1) 0 (by first | omega | (simp <;> omega))).trans ((frozen_alloc _ (by omega)).trans z82)
    have z93 : w9.frozen? ⟨(w.heap.size + 1), 1, none⟩ = false := (hf9 (w.heap.size + 1) 1 (by first | omega | (simp <;> omega))).trans ((frozen_alloc _ (by omega)).trans z83)
    have s9 : R < w9.heap.size := by have := hb9.size; first | omega | (simp at this; omega)
    have hIr9 := hIr8a.below hb9
    have hbw9 := below_next hbw8 (below_box hb9)
    have hX9 := hx.below hbw9
    have HEND : Hid (IsRt X gk) := Lib.hid ⟨rt_stop hgk (by rw [HQ.out, HM.out]; exact hge), HG.out.2.1⟩
    clear hc9 hf9 hge
    have HSQB : Hid (((gk : Int) * (gk : Int)).natAbs < Lm.B ^ (n + 1)) := Lib.hid (by have h1 := HEND.out.1; have h2 := HK3.out; have h3 : ((gk : Int) * (gk : Int)) = ((gk * gk : Nat) : Int) := (Int.natCast_mul _ _).symm; rw [h3, Int.natAbs_natCast]; omega)
    obtain ⟨v, hv⟩ : ∃ v, icmp ((gk : Int) * (gk : Int)) (X : Int) = v := ⟨_, rfl⟩
    have HVV := Lib.hid hv
    have HSQ : Hid ((v == 0) = decide (gk * gk = X)) := Lib.hid (by
     rw [← hv]; unfold icmp
     have h1 : ((gk : Int) * (gk : Int)) = ((gk * gk : Nat) : Int) := (Int.natCast_mul _ _).symm
     rw [h1]
     by_cases he : gk * gk = X
     ·rw [decide_eq_true he, if_neg (by omega), if_neg (by omega)]; rfl
     ·rw [decide_eq_false he]; split <;> (try split) <;> first | rfl | omega)
    clear hv
    go_wp2_with fail
    go_region_held3 (fun w' => w'.cell? ⟨R, 0, none⟩ = some (.bool negr) ∧ w'.cell? ⟨R, 1, none⟩ = some (.slice Ar nr cr) ∧ w'.cell? ⟨w.heap.size, 0, none⟩ = some (.bool false) ∧ w'.cell? ⟨w.heap.size, 1, none⟩ = some (.slice A n c))
     (go_keep)
     (first
     | (go_at_call 291; refine (ref_times_int negr negr Ar Ar nr cr nr cr (gk : Int) (gk : Int) _ (by exact hIr9.drewN 1) (by exact hIr9.drewN 1) (by omega) (by omega)).mono ?_; rintro e10 w10 ⟨neg10, A10, n10, c10, rfl, hI10, hb10⟩; obtain ⟨hc10, hf10⟩ := bcell hb10; have g100 := (hc10 R 0 (by first | omega | (simp <;> omega))).trans g90; have g101 := (hc10 R 1 (by first | omega | (simp <;> omega))).trans g91; have g102 := (hc10 w.heap.size 0 (by first | omega | (simp <;> omega))).trans g92; have g103 := (hc10 w.heap.size 1 (by first | omega | (simp <;> omega))).trans g93; have g104 := (hc10 (w.heap.size + 1) 0 (by first | omega | (simp <;> omega))).trans g94; have g105 := (hc10 (w.heap.size + 1) 1 (by first | omega | (simp <;> omega))).trans g95; have z100 := (hf10 R 0 (by first | omega | (simp <;> omega))).trans z90; have z101 := (hf10 R 1 (by first | omega | (simp <;> omega))).trans z91; have z102 := (hf10 (w.heap.size + 1) 0 (by first | omega | (simp <;> omega))).trans z92; have z103 := (hf10 (w.heap.size + 1) 1 (by first | omega | (simp <;> omega))).trans z93; have s10 : R < w10.heap.size := (by have := hb10.size; first | omega | (simp at this; omega)); have hIr10 := (hIr9.drewN 1).below hb10; have hX10 := (hX9.drewN 1).below hb10; have hbw10 := below_next hbw9 (below_of_drew hb10); have hn10 := isInt_len_le hI10 HSQB.out)
     | (go_at_call 290; refine (ref_cmp_of neg10 false A10 A n10 c10 n c ((gk : Int) * (gk : Int)) (X : Int) v _ hI10 hX10 (by omega) (by omega) HVV).mono ?_; rintro e11 w11 ⟨rfl, hb11⟩; obtain ⟨hc11, hf11⟩ := bcell hb11; have g110 := (hc11 R 0 (by first | omega | (simp <;> omega))).trans g100; have g111 := (hc11 R 1 (by first | omega | (simp <;> omega))).trans g101; have g112 := (hc11 w.heap.size 0 (by first | omega | (simp <;> omega))).trans g102; have g113 := (hc11 w.heap.size 1 (by first | omega | (simp <;> omega))).trans g103; have g114 := (hc11 (w.heap.size + 1) 0 (by first | omega | (simp <;> omega))).trans g104; have g115 := (hc11 (w.heap.size + 1) 1 (by first | omega | (simp <;> omega))).trans g105; have z110 := (hf11 R 0 (by first | omega | (simp <;> omega))).trans z100; have z111 := (hf11 R 1 (by first | omega | (simp <;> omega))).trans z101; have z112 := (hf11 (w.heap.size + 1) 0 (by first | omega | (simp <;> omega))).trans z102; have z113 := (hf11 (w.heap.size + 1) 1 (by first | omega | (simp <;> omega))).trans z103; have s11 : R < w11.heap.size := (by have := hb11.size; first | omega | (simp at this; omega)); have hIr11 := hIr10.below hb11; have hbw11 := below_next hbw10 hb11))
    go_wp2_with fail
    exact bodyPost_ret (v := .tuple #[.agg #[.bool negr, .slice Ar nr cr], .bool (v == 0)]) (by simp [results, Tryz.results225, go_sem, g114, g115]) rfl
     ⟨negr, Ar, nr, cr, gk, by rw [HSQ.out], isInt_result hIr11 g114 g115 _ _, HEND.out, below_result hbw11 (by omega) _ _⟩
   ·go_wp2_with fail
    refine (ref_cmp_of _ _ _ _ _ _ _ _ _ _ (-1) _ hI8a hIr8a (by omega) (by omega) (Lib.hid (by unfold icmp; rw [if_pos (by omega)]))).mono ?_
    rintro e9 w9 ⟨rfl, hb9⟩
    obtain ⟨hc9, hf9⟩ := bcell hb9
    have g90 : w9.cell? ⟨R, 0, none⟩ = some (.bool negr) := (hc9 R 0 (by first | omega | (simp <;> omega))).trans (cell_alloc _ _ (by omega) g80)
    have g91 : w9.cell? ⟨R, 1, none⟩ = some (.slice Ar nr cr) := (hc9 R 1 (by first | omega | (simp <;> omega))).trans (cell_alloc _ _ (by omega) g81)
    have g92 : w9.cell? ⟨w.heap.size, 0, none⟩ = some (.bool false) := (hc9 w.heap.size 0 (by first | omega | (simp <;> omega))).trans (cell_alloc _ _ (by omega) g82)
    have g93 : w9.cell? ⟨w.heap.size, 1, none⟩ = some (.slice A n c) := (hc9 w.heap.size 1 (by first | omega | (simp <;> omega))).trans (cell_alloc _ _ (by omega) g83)
    have g94 : w9.cell? ⟨(w.heap.size + 1), 0, none⟩ = some (.bool false) := (hc9 (w.heap.size + 1) 0 (by first | omega | (simp <;> omega))).trans (cell_alloc _ _ (by omega) g84)
    have g95 : w9.cell? ⟨(w.heap.size + 1), 1, none⟩ = some (.slice none 0 0) := (hc9 (w.heap.size + 1) 1 (by first | omega | (simp <;> omega))).trans (cell_alloc _ _ (by omega) g85)
    have z90 : w9.frozen? ⟨R, 0, none⟩ = false := (hf9 R 0 (by first | omega | (simp <;> omega))).trans ((frozen_alloc _ (by omega)).trans z80)
    have z91 : w9.frozen? ⟨R, 1, none⟩ = false := (hf9 R 1 (by first | omega | (simp <;> omega))).trans ((frozen_alloc _ (by omega)).trans z81)
    have z92 : w9.frozen? ⟨(w.heap.size + 1), 0, none⟩ = false := (hf9 (w.heap.size + 1) 0 (by first | omega | (simp <;> omega))).trans ((frozen_alloc _ (by omega)).trans z82)
    have z93 : w9.frozen? ⟨(w.heap.size + 1), 1, none⟩ = false := (hf9 (w.heap.size + 1) 1 (by first | omega | (simp <;> omega))).trans ((frozen_alloc _ (by omega)).trans z83)
    have s9 : R < w9.heap.size := by have := hb9.size; first | omega | (simp at this; omega)
    have h90 := (hc9 w8.heap.size 0 (by simp)).trans (show _ = some (.bool neg8) by simp [go_sem])
    have h91 := (hc9 w8.heap.size 1 (by simp)).trans (show _ = some (.slice A8 n8 c8) by simp [go_sem])
    have hI9 := hI8a.below hb9
    have hbw9 := below_next hbw8 (below_box hb9)
    have HST2 : Hid (0 < m ∧ X < (m + 1) * (m + 1)) := Lib.hid (by have := rt_step (X := X) (k := gk) hX hgk; rw [HQ.out, HM.out] at this; exact this)
    clear hc9 hf9
    go_wp2_with fail
    go_roundg m
    case measure => omega
    case rel => exact ⟨RtIn.set hI9 g90 g91 g92 g93 g94 g95 s9 hs hbw9 z90 z91 z92 z93, Lib.hid ⟨HST2.out.1, HST2.out.2, by have := HG.out.2.2; omega⟩⟩
end Go.Proofs.YtgekmbfmfiikkaaGreatDoor
