/-
  Of the program: how far a complex number is from nought (argand.Norm); a z + b (beam.line).
  The program's fractions (package ratio): quotients.
  More of a walk's memory that tells what is owned.
  All of a list written out, one by one.
-/
import Derived.Test.YtgekmbfmfiikkaaGreatDoorBey
import Derived.Test.YtgekmbfmfiikkaaGreatDoorMeg
import Derived.Test.YtgekmbfmfiikkaaGreatDoorOwH
import Derived.Test.YtgekmbfmfiikkaaGreatDoorRaL
import Derived.Test.YtgekmbfmfiikkaaGreatDoorOwn
set_option maxHeartbeats 6400000
set_option maxRecDepth 100000
namespace Go.Proofs.YtgekmbfmfiikkaaGreatDoor
open Go.RowKit
theorem arg_norm_any (sa za : Bool) (Aa Ba : Option Addr) (na ca ma da : Nat) (xa : Rat) (sb zb : Bool) (Ab Bb : Option Addr) (nb cb mb db : Nat) (xb : Rat) (M : Nat) (w : World) (ha : IsInt w sa Aa na ca xa.num) (ia : IsInt w za Ba ma da (xa.den : Int)) (ya : Sz xa M) (hb : IsInt w sb Ab nb cb xb.num) (ib : IsInt w zb Bb mb db (xb.den : Int)) (yb : Sz xb M) (hM : M ≤ 100000) :
    Calls Tryz.prog 163 #[.agg #[.bool sa, .slice Aa na ca, .bool za, .slice Ba ma da, .bool sb, .slice Ab nb cb, .bool zb, .slice Bb mb db]] w (RetFr w ((xa * xa) + (xb * xb))) := by
  have K0 := (((((((Mm.nil w).int ha).int ia).int hb).int ib).var (g := w.heap.size) rfl [.bool sa, .slice Aa na ca, .bool za, .slice Ba ma da, .bool sb, .slice Ab nb cb, .bool zb, .slice Bb mb db] 30).var (g := w.heap.size + 1) (by simp) [.bool false, .slice none 0 0, .bool false, .slice none 0 0] 26)
  have Ya := Lib.hid ya
  have Yb := Lib.hid yb
  have HS1 : Hid (Sz (xa * xa) (2 * M + 0)) := Lib.hid ((Sz.mul Ya.out Ya.out).mono (by omega))
  have HS2 : Hid (Sz (xb * xb) (2 * M + 0)) := Lib.hid ((Sz.mul Yb.out Yb.out).mono (by omega))
  have HS3 : Hid (Sz ((xa * xa) + (xb * xb)) (4 * M + 1)) := Lib.hid ((Sz.add HS1.out HS2.out).mono (by omega))
  clear ha ia ya hb ib yb
  have ne01 : ¬ w.heap.size = w.heap.size + 1 := by omega
  have ne10 : ¬ w.heap.size + 1 = w.heap.size := by omega
  go_enter Tryz.func163, Tryz.ntmps163
  go_wp2_with fail
  generalize (w.alloc (.cells #[.bool sa, .slice Aa na ca, .bool za, .slice Ba ma da, .bool sb, .slice Ab nb cb, .bool zb, .slice Bb mb db] 30)).alloc (.cells #[.bool false, .slice none 0 0, .bool false, .slice none 0 0] 26) = w0 at K0 ⊢
  obtain ⟨_, _, _, _, _, _, _, _⟩ := (K0.blk (g := w.heap.size) (by repeat constructor)).c8
  go_region_held3 (fun w' => w'.cell? ⟨w.heap.size, 0, none⟩ = some (.bool sa) ∧ w'.cell? ⟨w.heap.size, 1, none⟩ = some (.slice Aa na ca) ∧ w'.cell? ⟨w.heap.size, 2, none⟩ = some (.bool za) ∧ w'.cell? ⟨w.heap.size, 3, none⟩ = some (.slice Ba ma da) ∧ w'.cell? ⟨w.heap.size, 4, none⟩ = some (.bool sb) ∧ w'.cell? ⟨w.heap.size, 5, none⟩ = some (.slice Ab nb cb) ∧ w'.cell? ⟨w.heap.size, 6, none⟩ = some (.bool zb) ∧ w'.cell? ⟨w.heap.size, 7, none⟩ = some (.slice Bb mb db))
    (go_keep)
    (first
      | (go_at_call 140; apply Calls.withMm (w0 := w); (case K => with_reducible repeat (first | exact K0 | apply Mm.drew | apply Mm.drewN)); intro KX; (with_reducible refine (rat_times_any sa za Aa Ba na ca ma da sa za Aa Ba na ca ma da xa xa (xa * xa) M M _ (KX.at_ (mE 3 rfl)) (KX.at_ (mE 2 rfl)) (KX.at_ (mE 3 rfl)) (KX.at_ (mE 2 rfl)) Ya.out Ya.out (by omega) (Lib.hid rfl)).mono ?_); rintro e1 w1 ⟨neg1, A1, n1, c1, ne1, B1, m1, d1, rfl, IHS1, JHS1, hb1⟩; (with_reducible have K1 := (((KX.next hb1).int JHS1).int IHS1)); obtain ⟨_, _, _, _, _, _, _, _⟩ := (K1.blk (mE 1 rfl)).c8; clear KX IHS1 JHS1 hb1)
      | (go_at_call 140; apply Calls.withMm (w0 := w); (case K => with_reducible repeat (first | exact K1 | apply Mm.drew | apply Mm.drewN)); intro KX; (with_reducible refine (rat_times_any sb zb Ab Bb nb cb mb db sb zb Ab Bb nb cb mb db xb xb (xb * xb) M M _ (KX.at_ (mE 3 rfl)) (KX.at_ (mE 2 rfl)) (KX.at_ (mE 3 rfl)) (KX.at_ (mE 2 rfl)) Yb.out Yb.out (by omega) (Lib.hid rfl)).mono ?_); rintro e2 w2 ⟨neg2, A2, n2, c2, ne2, B2, m2, d2, rfl, IHS2, JHS2, hb2⟩; (with_reducible have K2 := (((KX.next hb2).int JHS2).int IHS2)); obtain ⟨_, _, _, _, _, _, _, _⟩ := (K2.blk (mE 1 rfl)).c8; clear KX IHS2 JHS2 hb2)
      | (go_at_call 141; apply Calls.withMm (w0 := w); (case K => with_reducible repeat (first | exact K2 | apply Mm.drew | apply Mm.drewN)); intro KX; (with_reducible refine (rat_plus_any neg1 ne1 A1 B1 n1 c1 m1 d1 neg2 ne2 A2 B2 n2 c2 m2 d2 (xa * xa) (xb * xb) ((xa * xa) + (xb * xb)) (2 * M + 0) (2 * M + 0) _ (KX.at_ (mE 2 rfl)) (KX.at_ (mE 3 rfl)) (KX.at_ (mE 0 rfl)) (KX.at_ (mE 1 rfl)) HS1.out HS2.out (by omega) (Lib.hid rfl)).mono ?_); rintro e3 w3 ⟨neg3, A3, n3, c3, ne3, B3, m3, d3, rfl, IHS3, JHS3, hb3⟩; (with_reducible have K3 := (((KX.next hb3).int JHS3).int IHS3)); obtain ⟨_, _, _, _, _, _, _, _⟩ := (K3.blk (mE 1 rfl)).c8; obtain ⟨⟨qa3r, qb3r, qc3r, qd3r⟩, ⟨_, _, _, _⟩, _⟩ := (K3.blk (mE 0 rfl)).four; clear KX IHS3 JHS3 hb3))
  all_goals
   go_wp2_with fail
   have KE := (K3.pick (L' := [(w.heap.size + 1, [.bool false, .slice none 0 0, .bool false, .slice none 0 0])]) (l' := [(neg3, A3, n3, c3, (((xa * xa) + (xb * xb)) : Rat).num), (ne3, B3, m3, d3, (((((xa * xa) + (xb * xb)) : Rat).den : Nat) : Int))]) (by simp) (by simp)).set4 (by simp <;> omega) neg3 A3 n3 c3 ne3 B3 m3 d3
   exact bodyPost_ret (v := .agg #[.bool neg3, .slice A3 n3 c3, .bool ne3, .slice B3 m3 d3]) (by simp [results, Tryz.results163, go_sem, qa3r, qb3r, qc3r, qd3r]) rfl ⟨_, _, _, _, _, _, _, _, rfl, KE.at_ (by simp), KE.at_ (by simp), KE.1⟩
theorem beam_line_any (sa za : Bool) (Aa Ba : Option Addr) (na ca ma da : Nat) (xa : Rat) (sb zb : Bool) (Ab Bb : Option Addr) (nb cb mb db : Nat) (xb : Rat) (su zu : Bool) (Au Bu : Option Addr) (nu cu mu du : Nat) (xu : Rat) (sv zv : Bool) (Av Bv : Option Addr) (nv cv mv dv : Nat) (xv : Rat) (M : Nat) (w : World) (ha : IsInt w sa Aa na ca xa.num) (ia : IsInt w za Ba ma da (xa.den : Int)) (ya : Sz xa M) (hb : IsInt w sb Ab nb cb xb.num) (ib : IsInt w zb Bb mb db (xb.den : Int)) (yb : Sz xb M) (hu : IsInt w su Au nu cu xu.num) (iu : IsInt w zu Bu mu du (xu.den : Int)) (yu : Sz xu M) (hv : IsInt w sv Av nv cv xv.num) (iv : IsInt w zv Bv mv dv (xv.den : Int)) (yv : Sz xv M) (hM : M ≤ 100000) :
    Calls Tryz.prog 162 #[.agg #[.bool sa, .slice Aa na ca, .bool za, .slice Ba ma da], .agg #[.bool sb, .slice Ab nb cb, .bool zb, .slice Bb mb db], .agg #[.bool su, .slice Au nu cu, .bool zu, .slice Bu mu du, .bool sv, .slice Av nv cv, .bool zv, .slice Bv mv dv]] w (RetGa w ((xa * xu) + xb) (xa * xv)) := by
  have K0 := (((((((((((((Mm.nil w).int ha).int ia).int hb).int ib).int hu).int iu).int hv).int iv).var (g := w.heap.size) rfl [.bool sa, .slice Aa na ca, .bool za, .slice Ba ma da] 26).var (g := w.heap.size + 1) (by simp) [.bool sb, .slice Ab nb cb, .bool zb, .slice Bb mb db] 26).var (g := w.heap.size + 1 + 1) (by simp) [.bool su, .slice Au nu cu, .bool zu, .slice Bu mu du, .bool sv, .slice Av nv cv, .bool zv, .slice Bv mv dv] 30).var (g := w.heap.size + 1 + 1 + 1) (by simp) [.bool false, .slice none 0 0, .bool false, .slice none 0 0, .bool false, .slice none 0 0, .bool false, .slice none 0 0] 30)
  have Ya := Lib.hid ya
  have Yb := Lib.hid yb
  have Yu := Lib.hid yu
  have Yv := Lib.hid yv
  have HS1 : Hid (Sz (xa * xu) (2 * M + 0)) := Lib.hid ((Sz.mul Ya.out Yu.out).mono (by omega))
  have HS2 : Hid (Sz ((xa * xu) + xb) (3 * M + 1)) := Lib.hid ((Sz.add HS1.out Yb.out).mono (by omega))
  have HS3 : Hid (Sz (xa * xv) (2 * M + 0)) := Lib.hid ((Sz.mul Ya.out Yv.out).mono (by omega))
  clear ha ia ya hb ib yb hu iu yu hv iv yv
  have ne01 : ¬ w.heap.size = w.heap.size + 1 := by omega
  have ne02 : ¬ w.heap.size = w.heap.size + 1 + 1 := by omega
  have ne03 : ¬ w.heap.size = w.heap.size + 1 + 1 + 1 := by omega
  have ne10 : ¬ w.heap.size + 1 = w.heap.size := by omega
  have ne12 : ¬ w.heap.size + 1 = w.heap.size + 1 + 1 := by omega
  have ne13 : ¬ w.heap.size + 1 = w.heap.size + 1 + 1 + 1 := by omega
  have ne20 : ¬ w.heap.size + 1 + 1 = w.heap.size := by omega
  have ne21 : ¬ w.heap.size + 1 + 1 = w.heap.size + 1 := by omega
  have ne23 : ¬ w.heap.size + 1 + 1 = w.heap.size + 1 + 1 + 1 := by omega
  have ne30 : ¬ w.heap.size + 1 + 1 + 1 = w.heap.size := by omega
  have ne31 : ¬ w.heap.size + 1 + 1 + 1 = w.heap.size + 1 := by omega
  have ne32 : ¬ w.heap.size + 1 + 1 + 1 = w.heap.size + 1 + 1 := by omega
  go_enter Tryz.func162, Tryz.ntmps162
  go_wp2_with fail
  generalize (((w.alloc (.cells #[.bool sa, .slice Aa na ca, .bool za, .slice Ba ma da] 26)).alloc (.cells #[.bool sb, .slice Ab nb cb, .bool zb, .slice Bb mb db] 26)).alloc (.cells #[.bool su, .slice Au nu cu, .bool zu, .slice Bu mu du, .bool sv, .slice Av nv cv, .bool zv, .slice Bv mv dv] 30)).alloc (.cells #[.bool false, .slice none 0 0, .bool false, .slice none 0 0, .bool false, .slice none 0 0, .bool false, .slice none 0 0] 30) = w0 at K0 ⊢
  obtain ⟨⟨_, _, _, _⟩, ⟨_, _, _, _⟩, _⟩ := (K0.blk (g := w.heap.size) (by repeat constructor)).four
  obtain ⟨⟨_, _, _, _⟩, ⟨_, _, _, _⟩, _⟩ := (K0.blk (g := w.heap.size + 1) (by repeat constructor)).four
  obtain ⟨_, _, _, _, _, _, _, _⟩ := (K0.blk (g := w.heap.size + 1 + 1) (by repeat constructor)).c8
  go_region_held3 (fun w' => w'.cell? ⟨w.heap.size, 0, none⟩ = some (.bool sa) ∧ w'.cell? ⟨w.heap.size, 1, none⟩ = some (.slice Aa na ca) ∧ w'.cell? ⟨w.heap.size, 2, none⟩ = some (.bool za) ∧ w'.cell? ⟨w.heap.size, 3, none⟩ = some (.slice Ba ma da) ∧ w'.cell? ⟨w.heap.size + 1, 0, none⟩ = some (.bool sb) ∧ w'.cell? ⟨w.heap.size + 1, 1, none⟩ = some (.slice Ab nb cb) ∧ w'.cell? ⟨w.heap.size + 1, 2, none⟩ = some (.bool zb) ∧ w'.cell? ⟨w.heap.size + 1, 3, none⟩ = some (.slice Bb mb db) ∧ w'.cell? ⟨w.heap.size + 1 + 1, 0, none⟩ = some (.bool su) ∧ w'.cell? ⟨w.heap.size + 1 + 1, 1, none⟩ = some (.slice Au nu cu) ∧ w'.cell? ⟨w.heap.size + 1 + 1, 2, none⟩ = some (.bool zu) ∧ w'.cell? ⟨w.heap.size + 1 + 1, 3, none⟩ = some (.slice Bu mu du) ∧ w'.cell? ⟨w.heap.size + 1 + 1, 4, none⟩ = some (.bool sv) ∧ w'.cell? ⟨w.heap.size + 1 + 1, 5, none⟩ = some (.slice Av nv cv) ∧ w'.cell? ⟨w.heap.size + 1 + 1, 6, none⟩ = some (.bool zv) ∧ w'.cell? ⟨w.heap.size + 1 + 1, 7, none⟩ = some (.slice Bv mv dv))
    (go_keep)
    (first
      | (go_at_call 140; apply Calls.withMm (w0 := w); (case K => with_reducible repeat (first | exact K0 | apply Mm.drew | apply Mm.drewN)); intro KX; (with_reducible refine (rat_times_any sa za Aa Ba na ca ma da su zu Au Bu nu cu mu du xa xu (xa * xu) M M _ (KX.at_ (mE 7 rfl)) (KX.at_ (mE 6 rfl)) (KX.at_ (mE 3 rfl)) (KX.at_ (mE 2 rfl)) Ya.out Yu.out (by omega) (Lib.hid rfl)).mono ?_); rintro e1 w1 ⟨neg1, A1, n1, c1, ne1, B1, m1, d1, rfl, IHS1, JHS1, hb1⟩; (with_reducible have K1 := (((KX.next hb1).int JHS1).int IHS1)); obtain ⟨⟨_, _, _, _⟩, ⟨_, _, _, _⟩, _⟩ := (K1.blk (mE 3 rfl)).four; obtain ⟨⟨_, _, _, _⟩, ⟨_, _, _, _⟩, _⟩ := (K1.blk (mE 2 rfl)).four; obtain ⟨_, _, _, _, _, _, _, _⟩ := (K1.blk (mE 1 rfl)).c8; clear KX IHS1 JHS1 hb1)
      | (go_at_call 141; apply Calls.withMm (w0 := w); (case K => with_reducible repeat (first | exact K1 | apply Mm.drew | apply Mm.drewN)); intro KX; (with_reducible refine (rat_plus_any neg1 ne1 A1 B1 n1 c1 m1 d1 sb zb Ab Bb nb cb mb db (xa * xu) xb ((xa * xu) + xb) (2 * M + 0) M _ (KX.at_ (mE 0 rfl)) (KX.at_ (mE 1 rfl)) (KX.at_ (mE 7 rfl)) (KX.at_ (mE 6 rfl)) HS1.out Yb.out (by omega) (Lib.hid rfl)).mono ?_); rintro e2 w2 ⟨neg2, A2, n2, c2, ne2, B2, m2, d2, rfl, IHS2, JHS2, hb2⟩; (with_reducible have K2 := (((KX.next hb2).int JHS2).int IHS2)); obtain ⟨⟨_, _, _, _⟩, ⟨_, _, _, _⟩, _⟩ := (K2.blk (mE 3 rfl)).four; obtain ⟨⟨_, _, _, _⟩, ⟨_, _, _, _⟩, _⟩ := (K2.blk (mE 2 rfl)).four; obtain ⟨_, _, _, _, _, _, _, _⟩ := (K2.blk (mE 1 rfl)).c8; clear KX IHS2 JHS2 hb2)
      | (go_at_call 140; apply Calls.withMm (w0 := w); (case K => with_reducible repeat (first | exact K2 | apply Mm.drew | apply Mm.drewN)); intro KX; (with_reducible refine (rat_times_any sa za Aa Ba na ca ma da sv zv Av Bv nv cv mv dv xa xv (xa * xv) M M _ (KX.at_ (mE 11 rfl)) (KX.at_ (mE 10 rfl)) (KX.at_ (mE 5 rfl)) (KX.at_ (mE 4 rfl)) Ya.out Yv.out (by omega) (Lib.hid rfl)).mono ?_); rintro e3 w3 ⟨neg3, A3, n3, c3, ne3, B3, m3, d3, rfl, IHS3, JHS3, hb3⟩; (with_reducible have K3 := (((KX.next hb3).int JHS3).int IHS3)); obtain ⟨⟨_, _, _, _⟩, ⟨_, _, _, _⟩, _⟩ := (K3.blk (mE 3 rfl)).four; obtain ⟨⟨_, _, _, _⟩, ⟨_, _, _, _⟩, _⟩ := (K3.blk (mE 2 rfl)).four; obtain ⟨_, _, _, _, _, _, _, _⟩ := (K3.blk (mE 1 rfl)).c8; obtain ⟨q0_3r, q1_3r, q2_3r, q3_3r, q4_3r, q5_3r, q6_3r, q7_3r⟩ := (K3.blk (mE 0 rfl)).c8; obtain ⟨_, _, _, _, _, _, _, _, _⟩ := (K3.blk (mE 0 rfl)).f8; clear KX IHS3 JHS3 hb3))
  all_goals
   go_wp2_with fail
   have KE := (K3.pick (L' := [(w.heap.size + 1 + 1 + 1, [.bool false, .slice none 0 0, .bool false, .slice none 0 0, .bool false, .slice none 0 0, .bool false, .slice none 0 0])]) (l' := [(neg2, A2, n2, c2, (((xa * xu) + xb) : Rat).num), (ne2, B2, m2, d2, (((((xa * xu) + xb) : Rat).den : Nat) : Int)), (neg3, A3, n3, c3, ((xa * xv) : Rat).num), (ne3, B3, m3, d3, ((((xa * xv) : Rat).den : Nat) : Int))]) (by simp) (by simp)).set8 (by simp <;> omega) neg2 A2 n2 c2 ne2 B2 m2 d2 neg3 A3 n3 c3 ne3 B3 m3 d3
   exact bodyPost_ret (v := .agg #[.bool neg2, .slice A2 n2 c2, .bool ne2, .slice B2 m2 d2, .bool neg3, .slice A3 n3 c3, .bool ne3, .slice B3 m3 d3]) (by simp [results, Tryz.results162, go_sem, q0_3r, q1_3r, q2_3r, q3_3r, q4_3r, q5_3r, q6_3r, q7_3r]) rfl ⟨_, _, _, _, _, _, _, _, _, _, _, _, _, _, _, _, rfl, KE.at_ (by simp), KE.at_ (by simp), KE.at_ (by simp), KE.at_ (by simp), KE.1⟩
end Go.Proofs.YtgekmbfmfiikkaaGreatDoor
namespace Go.Proofs.YtgekmbfmfiikkaaGreatDoor
open Go.RowKit
theorem rat_over_any (neg neg' : Bool) (A A' : Option Addr) (n c n' c' : Nat) (nfg nfg' : Bool) (C C' : Option Addr) (p q p' q' : Nat) (x y : Rat) (r : Rat) (m k : Nat) (w : World) (hx : IsInt w neg A n c x.num) (hx' : IsInt w neg' A' n' c' (x.den : Int)) (hy : IsInt w nfg C p q y.num) (hy' : IsInt w nfg' C' p' q' (y.den : Int)) (sx : Sz x m) (sy : Sz y k) (hm : m + k < 1000000) (h0 : y ≠ 0) (hr : Hid (x / y = r)) :
  Calls Tryz.prog 164 #[.agg #[.bool neg, .slice A n c, .bool neg', .slice A' n' c'], .agg #[.bool nfg, .slice C p q, .bool nfg', .slice C' p' q']] w (RetFr w r) :=
 (owr_over_any neg neg' A A' n c n' c' nfg nfg' C C' p q p' q' x y r m k w hx hx' hy hy' sx sy hm h0 hr).mono fun _ _ h => h.fg
end Go.Proofs.YtgekmbfmfiikkaaGreatDoor
namespace Go.Proofs.YtgekmbfmfiikkaaGreatDoor
open Go.RowKit
theorem Mm.mo {w wr : World} {L : List (Nat × List Value)} {l : List IntAt} (h : Mm w L l wr) : Mo w.heap.size w L l [] wr := ⟨h.1, h.2.1, h.2.2, Owns.nil _ _, fun _ hq => absurd hq (by simp), Nat.le_refl _⟩
theorem Mo.all {B : Nat} {w wr : World} {L : List (Nat × List Value)} {l : List IntAt} {o : List OwnAt} (h : Mo B w L l o wr) : Owns B wr o := h.2.2.2.1
theorem Mo.set8 {B9 : Nat} {w wr : World} {L : List (Nat × List Value)} {l : List IntAt} {o : List OwnAt} {g : Nat} {b0 b0' : Bool} {o0 o0' : Option Addr} {n0 c0 n0' c0' : Nat} {b1 b1' : Bool} {o1 o1' : Option Addr} {n1 c1 n1' c1' : Nat} (h : Mo B9 w ((g, [.bool b0, .slice o0 n0 c0, .bool b0', .slice o0' n0' c0', .bool b1, .slice o1 n1 c1, .bool b1', .slice o1' n1' c1']) :: L) l o wr) (hne : ∀ b ∈ L, g ≠ b.1) (s0 : Bool) (A0 : Option Addr) (p0 q0 : Nat) (z0 : Bool) (B0 : Option Addr) (m0 d0 : Nat) (s1 : Bool) (A1 : Option Addr) (p1 q1 : Nat) (z1 : Bool) (B1 : Option Addr) (m1 d1 : Nat) :
  Mo B9 w ((g, [.bool s0, .slice A0 p0 q0, .bool z0, .slice B0 m0 d0, .bool s1, .slice A1 p1 q1, .bool z1, .slice B1 m1 d1]) :: L) l o ((((((((wr.setCell ⟨g, 0, none⟩ (.bool s0)).setCell ⟨g, 1, none⟩ (.slice A0 p0 q0)).setCell ⟨g, 2, none⟩ (.bool z0)).setCell ⟨g, 3, none⟩ (.slice B0 m0 d0)).setCell ⟨g, 4, none⟩ (.bool s1)).setCell ⟨g, 5, none⟩ (.slice A1 p1 q1)).setCell ⟨g, 6, none⟩ (.bool z1)).setCell ⟨g, 7, none⟩ (.slice B1 m1 d1)) :=
 ((((((((h.set hne (.bool b0) (.bool s0) rfl (by simp)).set hne (.slice o0 n0 c0) (.slice A0 p0 q0) rfl (by simp)).set hne (.bool b0') (.bool z0) rfl (by simp)).set hne (.slice o0' n0' c0') (.slice B0 m0 d0) rfl (by simp)).set hne (.bool b1) (.bool s1) rfl (by simp)).set hne (.slice o1 n1 c1) (.slice A1 p1 q1) rfl (by simp)).set hne (.bool b1') (.bool z1) rfl (by simp)).set hne (.slice o1' n1' c1') (.slice B1 m1 d1) rfl (by simp))
theorem Mo.own4 {B : Nat} {w wr : World} {L : List (Nat × List Value)} {l : List IntAt} {o : List OwnAt} (h : Mo B w L l o wr) {q1 q2 q3 q4 : OwnAt} (i j k m : Nat) (hi : o[i]? = some q1) (hj : o[j]? = some q2) (hk : o[k]? = some q3) (hm : o[m]? = some q4) (hne : (i ≠ j ∧ i ≠ k ∧ i ≠ m) ∧ (j ≠ k ∧ j ≠ m) ∧ k ≠ m) : Owns B wr [q1, q2, q3, q4] := by
 obtain ⟨⟨n1, n2, n3⟩, ⟨n4, n5⟩, n6⟩ := hne
 have hP := h.2.2.2.1.2
 refine ⟨fun q hq => ?_, ?_⟩
 ·simp only [List.mem_cons, List.not_mem_nil, or_false] at hq
  rcases hq with rfl | rfl | rfl | rfl
  ·exact h.2.2.2.1.1 _ (List.mem_of_getElem? hi)
  ·exact h.2.2.2.1.1 _ (List.mem_of_getElem? hj)
  ·exact h.2.2.2.1.1 _ (List.mem_of_getElem? hk)
  ·exact h.2.2.2.1.1 _ (List.mem_of_getElem? hm)
 ·simp [far_at hP hi hj n1, far_at hP hi hk n2, far_at hP hi hm n3, far_at hP hj hk n4, far_at hP hj hm n5, far_at hP hk hm n6]
end Go.Proofs.YtgekmbfmfiikkaaGreatDoor
namespace Go.Proofs.YtgekmbfmfiikkaaGreatDoor
theorem all_nil {α : Type} {p : α → Prop} : ∀ b ∈ ([] : List α), p b := fun _ h => absurd h (by simp)
theorem all_cons {α : Type} {p : α → Prop} {a : α} {l : List α} (h : p a) (k : ∀ b ∈ l, p b) : ∀ b ∈ a :: l, p b := fun b hb => by
 rcases List.mem_cons.1 hb with rfl | hb
 ·exact h
 ·exact k b hb
end Go.Proofs.YtgekmbfmfiikkaaGreatDoor
