/-
  Of the references: the waist, the size, the curve of a beam (polestarref15).
-/
import Derived.Test.YtmmplomkginadaaGreatDoorRlA
import Derived.Test.YtmmplomkginadaaGreatDoorMoA
import Derived.Test.YtmmplomkginadaaGreatDoorMaR
import Derived.Test.YtmmplomkginadaaGreatDoorOwI
import Derived.Test.YtmmplomkginadaaGreatDoorBmD
namespace Go.Proofs.YtmmplomkginadaaGreatDoor
open Go.RowKit

/-- A fraction as an answer, or the limit. -/
def AnsOf (r : Rat) (x y v : Int) : Prop := (Sz r 2048 ∧ x = r.num ∧ y = (r.den : Int) ∧ v = 0) ∨ (¬ Sz r 2048 ∧ x = 0 ∧ y = 0 ∧ v = 4)
def RetN2 (W : World) (x y v : Int) (e : Ending) (w' : World) : Prop :=
  ∃ (neg : Bool) (A : Option Addr) (n c : Nat) (neg' : Bool) (A' : Option Addr) (n' c' : Nat), e = .returned (.tuple #[.agg #[.bool neg, .slice A n c, .bool neg', .slice A' n' c'], .int .i64 v]) ∧ IsInt w' neg A n c x ∧ IsInt w' neg' A' n' c' y ∧ Below W.heap.size W w'
def RetNW (W : World) (x y x' y' v : Int) (e : Ending) (w' : World) : Prop :=
  ∃ (sa : Bool) (Aa : Option Addr) (na ca : Nat) (za : Bool) (Ba : Option Addr) (ma da : Nat) (sb : Bool) (Ab : Option Addr) (nb cb : Nat) (zb : Bool) (Bb : Option Addr) (mb db : Nat), e = .returned (.tuple #[.agg #[.bool sa, .slice Aa na ca, .bool za, .slice Ba ma da], .agg #[.bool sb, .slice Ab nb cb, .bool zb, .slice Bb mb db], .int .i64 v]) ∧
    IsInt w' sa Aa na ca x ∧ IsInt w' za Ba ma da y ∧ IsInt w' sb Ab nb cb x' ∧ IsInt w' zb Bb mb db y' ∧ Below W.heap.size W w'

set_option maxRecDepth 100000 in
set_option maxHeartbeats 6400000 in
theorem ref15_one_ok (sx zx : Bool) (Ax Bx : Option Addr) (nx cx mx dx : Nat) (r : Rat) (w : World) (ix : IsInt w sx Ax nx cx r.num) (jx : IsInt w zx Bx mx dx (r.den : Int)) (hn : nx ≤ 1000000 ∧ mx ≤ 1000000) (hs : Sz r 2048) :
    Calls Tryz.prog 138 #[.agg #[.bool sx, .slice Ax nx cx, .bool zx, .slice Bx mx dx]] w (RetN2 w r.num (r.den : Int) 0) := by
  have K0 := ((((Mm.nil w).int jx).int ix).var (g := w.heap.size) rfl [.bool sx, .slice Ax nx cx, .bool zx, .slice Bx mx dx] 26).var (g := w.heap.size + 1) (by simp) [.bool false, .slice none 0 0, .bool false, .slice none 0 0] 26
  obtain ⟨lx, S1, _⟩ := id ix
  obtain ⟨kx, S2, _⟩ := id jx
  have ox : LmE.at_ w ((sx, Ax, nx, cx, lx), (zx, Bx, mx, dx, kx)) := ⟨S1, S2, by show nx ≤ _; omega, by show mx ≤ _; omega⟩
  have HLG : Hid ((if lgAll (fun _ => ((sx, Ax, nx, cx, lx), (zx, Bx, mx, dx, kx))) 1 then (4 : Int) else 0) = 0) := Lib.hid (by rw [show lgAll (fun _ => ((sx, Ax, nx, cx, lx), (zx, Bx, mx, dx, kx))) 1 = false by unfold lgAll lgAll lgB; have h1 := int_len ix hs.1; have h2 := int_len jx hs.2; simp only [Bool.false_or, Bool.or_eq_false_iff, decide_eq_false_iff_not]; omega]; rfl)
  replace ox := LmE.at_.below ox K0.1
  have g01 : ¬ w.heap.size = w.heap.size + 1 := by omega
  have g10 : ¬ w.heap.size + 1 = w.heap.size := by omega
  clear ix jx hs S1 S2 hn
  go_enter Tryz.func138, Tryz.ntmps138
  go_upto_region 1 with (fail)
  generalize (w.alloc (.cells #[.bool sx, .slice Ax nx cx, .bool zx, .slice Bx mx dx] 26)).alloc (.cells #[.bool false, .slice none 0 0, .bool false, .slice none 0 0] 26) = w0 at K0 ox ⊢
  have HLF := Lib.hid (lfs_one w0 (g := w0.heap.size) rfl 26 ox)
  obtain ⟨⟨q0, q1, q2, q3⟩, _, _⟩ := (K0.blk (g := w.heap.size) (vs := [.bool sx, .slice Ax nx cx, .bool zx, .slice Bx mx dx]) (by simp)).four
  go_wp2_with fail
  refine (ref2_answer_any w0.heap.size 1 1 (fun _ => ((sx, Ax, nx, cx, lx), (zx, Bx, mx, dx, kx))) 0 _ HLF.out (by decide) (by decide) HLG).mono ?_
  rintro e1 w1 ⟨rfl, hb1⟩
  have K1 := K0.next (below_box hb1)
  clear K0 hb1 ox HLF q0 q1 q2 q3
  obtain ⟨⟨q0, q1, q2, q3⟩, _, _⟩ := (K1.blk (g := w.heap.size) (vs := [.bool sx, .slice Ax nx cx, .bool zx, .slice Bx mx dx]) (by simp)).four
  obtain ⟨⟨f0, f1, f2, f3⟩, ⟨ff0, ff1, ff2, ff3⟩, _⟩ := (K1.blk (g := w.heap.size + 1) (vs := [.bool false, .slice none 0 0, .bool false, .slice none 0 0]) (by simp)).four
  go_wp2_with fail
  have K9 := (K1.pick (L' := [(w.heap.size + 1, [.bool false, .slice none 0 0, .bool false, .slice none 0 0])]) (l' := [(sx, Ax, nx, cx, r.num), (zx, Bx, mx, dx, (r.den : Int))]) (by simp) (by simp)).set4 (by simp) sx Ax nx cx zx Bx mx dx
  exact bodyPost_ret (v := .tuple #[.agg #[.bool sx, .slice Ax nx cx, .bool zx, .slice Bx mx dx], .int .i64 0]) (by simp [results, Tryz.results138, go_sem, f0, f1, f2, f3]) rfl ⟨_, _, _, _, _, _, _, _, rfl, K9.at_ (by simp), K9.at_ (by simp), K9.1⟩

set_option maxRecDepth 100000 in
set_option maxHeartbeats 6400000 in
theorem ref15_one_long (sx zx : Bool) (Ax Bx : Option Addr) (nx cx mx dx : Nat) (r : Rat) (w : World) (ix : IsInt w sx Ax nx cx r.num) (jx : IsInt w zx Bx mx dx (r.den : Int)) (hn : nx ≤ 1000000 ∧ mx ≤ 1000000) (hs : ¬ Sz r 2048) :
    Calls Tryz.prog 138 #[.agg #[.bool sx, .slice Ax nx cx, .bool zx, .slice Bx mx dx]] w (RetN2 w 0 0 4) := by
  have K0 := ((((Mm.nil w).int jx).int ix).var (g := w.heap.size) rfl [.bool sx, .slice Ax nx cx, .bool zx, .slice Bx mx dx] 26).var (g := w.heap.size + 1) (by simp) [.bool false, .slice none 0 0, .bool false, .slice none 0 0] 26
  obtain ⟨lx, S1, _⟩ := id ix
  obtain ⟨kx, S2, _⟩ := id jx
  have ox : LmE.at_ w ((sx, Ax, nx, cx, lx), (zx, Bx, mx, dx, kx)) := ⟨S1, S2, by show nx ≤ _; omega, by show mx ≤ _; omega⟩
  have HLG : Hid ((if lgAll (fun _ => ((sx, Ax, nx, cx, lx), (zx, Bx, mx, dx, kx))) 1 then (4 : Int) else 0) = 4) := Lib.hid (by rw [show lgAll (fun _ => ((sx, Ax, nx, cx, lx), (zx, Bx, mx, dx, kx))) 1 = true by unfold lgAll lgAll; rw [lg_of ix jx hs]; rfl]; rfl)
  replace ox := LmE.at_.below ox K0.1
  have g01 : ¬ w.heap.size = w.heap.size + 1 := by omega
  have g10 : ¬ w.heap.size + 1 = w.heap.size := by omega
  clear ix jx hs S1 S2 hn
  go_enter Tryz.func138, Tryz.ntmps138
  go_upto_region 1 with (fail)
  generalize (w.alloc (.cells #[.bool sx, .slice Ax nx cx, .bool zx, .slice Bx mx dx] 26)).alloc (.cells #[.bool false, .slice none 0 0, .bool false, .slice none 0 0] 26) = w0 at K0 ox ⊢
  have HLF := Lib.hid (lfs_one w0 (g := w0.heap.size) rfl 26 ox)
  obtain ⟨⟨q0, q1, q2, q3⟩, _, _⟩ := (K0.blk (g := w.heap.size) (vs := [.bool sx, .slice Ax nx cx, .bool zx, .slice Bx mx dx]) (by simp)).four
  go_wp2_with fail
  refine (ref2_answer_any w0.heap.size 1 1 (fun _ => ((sx, Ax, nx, cx, lx), (zx, Bx, mx, dx, kx))) 4 _ HLF.out (by decide) (by decide) HLG).mono ?_
  rintro e1 w1 ⟨rfl, hb1⟩
  have K1 := K0.next (below_box hb1)
  clear K0 hb1 ox HLF q0 q1 q2 q3
  obtain ⟨⟨q0, q1, q2, q3⟩, _, _⟩ := (K1.blk (g := w.heap.size) (vs := [.bool sx, .slice Ax nx cx, .bool zx, .slice Bx mx dx]) (by simp)).four
  obtain ⟨⟨f0, f1, f2, f3⟩, ⟨ff0, ff1, ff2, ff3⟩, _⟩ := (K1.blk (g := w.heap.size + 1) (vs := [.bool false, .slice none 0 0, .bool false, .slice none 0 0]) (by simp)).four
  go_wp2_with fail
  have K9 := (K1.pick (L' := [(w.heap.size + 1, [.bool false, .slice none 0 0, .bool false, .slice none 0 0])]) (l' := []) (by simp) (by simp)).set4 (by simp) false none 0 0 false none 0 0
  exact bodyPost_ret (v := .tuple #[.agg #[.bool false, .slice none 0 0, .bool false, .slice none 0 0], .int .i64 4]) (by simp [results, Tryz.results138, go_sem, f0, f1, f2, f3]) rfl ⟨false, none, 0, 0, false, none, 0, 0, rfl, isInt_nought, isInt_nought, K9.1⟩

theorem ref15_one_any (sx zx : Bool) (Ax Bx : Option Addr) (nx cx mx dx : Nat) (r : Rat) (x y v : Int) (w : World) (ix : IsInt w sx Ax nx cx r.num) (jx : IsInt w zx Bx mx dx (r.den : Int)) (hn : nx ≤ 1000000 ∧ mx ≤ 1000000) (ha : AnsOf r x y v) :
    Calls Tryz.prog 138 #[.agg #[.bool sx, .slice Ax nx cx, .bool zx, .slice Bx mx dx]] w (RetN2 w x y v) := by
  rcases ha with ⟨hs, rfl, rfl, rfl⟩ | ⟨hs, rfl, rfl, rfl⟩
  · exact ref15_one_ok sx zx Ax Bx nx cx mx dx r w ix jx hn hs
  · exact ref15_one_long sx zx Ax Bx nx cx mx dx r w ix jx hn hs

set_option maxRecDepth 100000 in
set_option maxHeartbeats 6400000 in
theorem ref15_waist_no (su : Bool) (Au : Option Addr) (nu cu : Nat) (lu : List Nat) (zu : Bool) (Bu : Option Addr) (mu du : Nat) (ku : List Nat) (sv : Bool) (Av : Option Addr) (nv cv : Nat) (lv : List Nat) (zv : Bool) (Bv : Option Addr) (mv dv : Nat) (kv : List Nat) (v : Int) (w : World) (au : LmE.at_ w ((su, Au, nu, cu, lu), (zu, Bu, mu, du, ku))) (av : LmE.at_ w ((sv, Av, nv, cv, lv), (zv, Bv, mv, dv, kv))) (hv : Hid (chkBm ((su, Au, nu, cu, lu), (zu, Bu, mu, du, ku)) ((sv, Av, nv, cv, lv), (zv, Bv, mv, dv, kv)) = v)) (h0 : v ≠ 0) :
    Calls Tryz.prog 34 #[.agg #[.bool su, .slice Au nu cu, .bool zu, .slice Bu mu du, .bool sv, .slice Av nv cv, .bool zv, .slice Bv mv dv]] w (RetNW w 0 0 0 0 v) := by
  have K0 := (((Mm.nil w).var (g := w.heap.size) rfl [.bool su, .slice Au nu cu, .bool zu, .slice Bu mu du, .bool sv, .slice Av nv cv, .bool zv, .slice Bv mv dv] 30).var (g := w.heap.size + 1) (by simp) [.bool false, .slice none 0 0, .bool false, .slice none 0 0] 26).var (g := w.heap.size + 1 + 1) (by simp) [.bool false, .slice none 0 0, .bool false, .slice none 0 0] 26
  have hv0 : (v == 0) = false := by rw [beq_eq_false_iff_ne]; exact h0
  replace au := LmE.at_.below au K0.1
  replace av := LmE.at_.below av K0.1
  clear h0
  have g01 : ¬ w.heap.size = w.heap.size + 1 := by omega
  have g02 : ¬ w.heap.size = w.heap.size + 1 + 1 := by omega
  have g10 : ¬ w.heap.size + 1 = w.heap.size := by omega
  have g12 : ¬ w.heap.size + 1 = w.heap.size + 1 + 1 := by omega
  have g20 : ¬ w.heap.size + 1 + 1 = w.heap.size := by omega
  have g21 : ¬ w.heap.size + 1 + 1 = w.heap.size + 1 := by omega
  go_enter Tryz.func34, Tryz.ntmps34
  go_upto_region 1 with (fail)
  generalize ((w.alloc (.cells #[.bool su, .slice Au nu cu, .bool zu, .slice Bu mu du, .bool sv, .slice Av nv cv, .bool zv, .slice Bv mv dv] 30)).alloc (.cells #[.bool false, .slice none 0 0, .bool false, .slice none 0 0] 26)).alloc (.cells #[.bool false, .slice none 0 0, .bool false, .slice none 0 0] 26) = w0 at K0 au av ⊢
  obtain ⟨q0, q1, q2, q3, q4, q5, q6, q7⟩ := (K0.blk (g := w.heap.size) (vs := [.bool su, .slice Au nu cu, .bool zu, .slice Bu mu du, .bool sv, .slice Av nv cv, .bool zv, .slice Bv mv dv]) (by simp)).c8
  go_wp2_with fail
  refine (ref15_check_any su Au nu cu lu zu Bu mu du ku sv Av nv cv lv zv Bv mv dv kv _ au av).mono ?_
  rintro e4 w4 ⟨rfl, hb4⟩
  rw [hv.out]
  have K1 := K0.next hb4
  clear K0 hb4 au av q0 q1 q2 q3 q4 q5 q6 q7
  obtain ⟨⟨r0, r1, r2, r3⟩, ⟨rf0, rf1, rf2, rf3⟩, _⟩ := (K1.blk (g := w.heap.size + 1) (vs := [.bool false, .slice none 0 0, .bool false, .slice none 0 0]) (by simp)).four
  obtain ⟨⟨s0, s1, s2, s3⟩, ⟨sf0, sf1, sf2, sf3⟩, _⟩ := (K1.blk (g := w.heap.size + 1 + 1) (vs := [.bool false, .slice none 0 0, .bool false, .slice none 0 0]) (by simp)).four
  go_wp2_with fail
  have K9 := ((((K1).pick (L' := [(w.heap.size + 1, [.bool false, .slice none 0 0, .bool false, .slice none 0 0]), (w.heap.size + 1 + 1, [.bool false, .slice none 0 0, .bool false, .slice none 0 0])]) (l' := []) (by simp) (by simp)).set4 (by simp) false none 0 0 false none 0 0).pick (L' := [(w.heap.size + 1 + 1, [.bool false, .slice none 0 0, .bool false, .slice none 0 0]), (w.heap.size + 1, [.bool false, .slice none 0 0, .bool false, .slice none 0 0])]) (l' := []) (by simp) (by simp)).set4 (by simp) false none 0 0 false none 0 0
  exact bodyPost_ret (v := .tuple #[.agg #[.bool false, .slice none 0 0, .bool false, .slice none 0 0], .agg #[.bool false, .slice none 0 0, .bool false, .slice none 0 0], .int .i64 v]) (by simp [results, Tryz.results34, go_sem, r0, r1, r2, r3, s0, s1, s2, s3]) rfl ⟨false, none, 0, 0, false, none, 0, 0, false, none, 0, 0, false, none, 0, 0, rfl, isInt_nought, isInt_nought, isInt_nought, isInt_nought, K9.1⟩
set_option maxRecDepth 100000 in
set_option maxHeartbeats 6400000 in
theorem ref15_size_no (su : Bool) (Au : Option Addr) (nu cu : Nat) (lu : List Nat) (zu : Bool) (Bu : Option Addr) (mu du : Nat) (ku : List Nat) (sv : Bool) (Av : Option Addr) (nv cv : Nat) (lv : List Nat) (zv : Bool) (Bv : Option Addr) (mv dv : Nat) (kv : List Nat) (v : Int) (w : World) (au : LmE.at_ w ((su, Au, nu, cu, lu), (zu, Bu, mu, du, ku))) (av : LmE.at_ w ((sv, Av, nv, cv, lv), (zv, Bv, mv, dv, kv))) (hv : Hid (chkBm ((su, Au, nu, cu, lu), (zu, Bu, mu, du, ku)) ((sv, Av, nv, cv, lv), (zv, Bv, mv, dv, kv)) = v)) (h0 : v ≠ 0) :
    Calls Tryz.prog 35 #[.agg #[.bool su, .slice Au nu cu, .bool zu, .slice Bu mu du, .bool sv, .slice Av nv cv, .bool zv, .slice Bv mv dv]] w (RetN2 w 0 0 v) := by
  have K0 := ((Mm.nil w).var (g := w.heap.size) rfl [.bool su, .slice Au nu cu, .bool zu, .slice Bu mu du, .bool sv, .slice Av nv cv, .bool zv, .slice Bv mv dv] 30).var (g := w.heap.size + 1) (by simp) [.bool false, .slice none 0 0, .bool false, .slice none 0 0] 26
  have hv0 : (v == 0) = false := by rw [beq_eq_false_iff_ne]; exact h0
  replace au := LmE.at_.below au K0.1
  replace av := LmE.at_.below av K0.1
  clear h0
  have g01 : ¬ w.heap.size = w.heap.size + 1 := by omega
  have g10 : ¬ w.heap.size + 1 = w.heap.size := by omega
  go_enter Tryz.func35, Tryz.ntmps35
  go_upto_region 1 with (fail)
  generalize (w.alloc (.cells #[.bool su, .slice Au nu cu, .bool zu, .slice Bu mu du, .bool sv, .slice Av nv cv, .bool zv, .slice Bv mv dv] 30)).alloc (.cells #[.bool false, .slice none 0 0, .bool false, .slice none 0 0] 26) = w0 at K0 au av ⊢
  obtain ⟨q0, q1, q2, q3, q4, q5, q6, q7⟩ := (K0.blk (g := w.heap.size) (vs := [.bool su, .slice Au nu cu, .bool zu, .slice Bu mu du, .bool sv, .slice Av nv cv, .bool zv, .slice Bv mv dv]) (by simp)).c8
  go_wp2_with fail
  refine (ref15_check_any su Au nu cu lu zu Bu mu du ku sv Av nv cv lv zv Bv mv dv kv _ au av).mono ?_
  rintro e4 w4 ⟨rfl, hb4⟩
  rw [hv.out]
  have K1 := K0.next hb4
  clear K0 hb4 au av q0 q1 q2 q3 q4 q5 q6 q7
  obtain ⟨⟨r0, r1, r2, r3⟩, ⟨rf0, rf1, rf2, rf3⟩, _⟩ := (K1.blk (g := w.heap.size + 1) (vs := [.bool false, .slice none 0 0, .bool false, .slice none 0 0]) (by simp)).four
  go_wp2_with fail
  have K9 := ((K1).pick (L' := [(w.heap.size + 1, [.bool false, .slice none 0 0, .bool false, .slice none 0 0])]) (l' := []) (by simp) (by simp)).set4 (by simp) false none 0 0 false none 0 0
  exact bodyPost_ret (v := .tuple #[.agg #[.bool false, .slice none 0 0, .bool false, .slice none 0 0], .int .i64 v]) (by simp [results, Tryz.results35, go_sem, r0, r1, r2, r3]) rfl ⟨false, none, 0, 0, false, none, 0, 0, rfl, isInt_nought, isInt_nought, K9.1⟩
set_option maxRecDepth 100000 in
set_option maxHeartbeats 6400000 in
theorem ref15_curve_no (su : Bool) (Au : Option Addr) (nu cu : Nat) (lu : List Nat) (zu : Bool) (Bu : Option Addr) (mu du : Nat) (ku : List Nat) (sv : Bool) (Av : Option Addr) (nv cv : Nat) (lv : List Nat) (zv : Bool) (Bv : Option Addr) (mv dv : Nat) (kv : List Nat) (v : Int) (w : World) (au : LmE.at_ w ((su, Au, nu, cu, lu), (zu, Bu, mu, du, ku))) (av : LmE.at_ w ((sv, Av, nv, cv, lv), (zv, Bv, mv, dv, kv))) (hv : Hid (chkBm ((su, Au, nu, cu, lu), (zu, Bu, mu, du, ku)) ((sv, Av, nv, cv, lv), (zv, Bv, mv, dv, kv)) = v)) (h0 : v ≠ 0) :
    Calls Tryz.prog 36 #[.agg #[.bool su, .slice Au nu cu, .bool zu, .slice Bu mu du, .bool sv, .slice Av nv cv, .bool zv, .slice Bv mv dv]] w (RetN2 w 0 0 v) := by
  have K0 := ((Mm.nil w).var (g := w.heap.size) rfl [.bool su, .slice Au nu cu, .bool zu, .slice Bu mu du, .bool sv, .slice Av nv cv, .bool zv, .slice Bv mv dv] 30).var (g := w.heap.size + 1) (by simp) [.bool false, .slice none 0 0, .bool false, .slice none 0 0] 26
  have hv0 : (v == 0) = false := by rw [beq_eq_false_iff_ne]; exact h0
  replace au := LmE.at_.below au K0.1
  replace av := LmE.at_.below av K0.1
  clear h0
  have g01 : ¬ w.heap.size = w.heap.size + 1 := by omega
  have g10 : ¬ w.heap.size + 1 = w.heap.size := by omega
  go_enter Tryz.func36, Tryz.ntmps36
  go_upto_region 1 with (fail)
  generalize (w.alloc (.cells #[.bool su, .slice Au nu cu, .bool zu, .slice Bu mu du, .bool sv, .slice Av nv cv, .bool zv, .slice Bv mv dv] 30)).alloc (.cells #[.bool false, .slice none 0 0, .bool false, .slice none 0 0] 26) = w0 at K0 au av ⊢
  obtain ⟨q0, q1, q2, q3, q4, q5, q6, q7⟩ := (K0.blk (g := w.heap.size) (vs := [.bool su, .slice Au nu cu, .bool zu, .slice Bu mu du, .bool sv, .slice Av nv cv, .bool zv, .slice Bv mv dv]) (by simp)).c8
  go_wp2_with fail
  refine (ref15_check_any su Au nu cu lu zu Bu mu du ku sv Av nv cv lv zv Bv mv dv kv _ au av).mono ?_
  rintro e4 w4 ⟨rfl, hb4⟩
  rw [hv.out]
  have K1 := K0.next hb4
  clear K0 hb4 au av q0 q1 q2 q3 q4 q5 q6 q7
  obtain ⟨⟨r0, r1, r2, r3⟩, ⟨rf0, rf1, rf2, rf3⟩, _⟩ := (K1.blk (g := w.heap.size + 1) (vs := [.bool false, .slice none 0 0, .bool false, .slice none 0 0]) (by simp)).four
  go_wp2_with fail
  have K9 := ((K1).pick (L' := [(w.heap.size + 1, [.bool false, .slice none 0 0, .bool false, .slice none 0 0])]) (l' := []) (by simp) (by simp)).set4 (by simp) false none 0 0 false none 0 0
  exact bodyPost_ret (v := .tuple #[.agg #[.bool false, .slice none 0 0, .bool false, .slice none 0 0], .int .i64 v]) (by simp [results, Tryz.results36, go_sem, r0, r1, r2, r3]) rfl ⟨false, none, 0, 0, false, none, 0, 0, rfl, isInt_nought, isInt_nought, K9.1⟩

set_option maxRecDepth 100000 in
set_option maxHeartbeats 6400000 in
theorem ref15_waist_ok (su : Bool) (Au : Option Addr) (nu cu : Nat) (lu : List Nat) (zu : Bool) (Bu : Option Addr) (mu du : Nat) (ku : List Nat) (xu : Rat) (sv : Bool) (Av : Option Addr) (nv cv : Nat) (lv : List Nat) (zv : Bool) (Bv : Option Addr) (mv dv : Nat) (kv : List Nat) (xv : Rat) (w : World) (ou : OkF w ((su, Au, nu, cu, lu), (zu, Bu, mu, du, ku)) xu) (ov : OkF w ((sv, Av, nv, cv, lv), (zv, Bv, mv, dv, kv)) xv) (hv : 0 < xv) :
    Calls Tryz.prog 34 #[.agg #[.bool su, .slice Au nu cu, .bool zu, .slice Bu mu du, .bool sv, .slice Av nv cv, .bool zv, .slice Bv mv dv]] w (RetNW w xu.num (xu.den : Int) xv.num (xv.den : Int) 0) := by
  have K0 := (((Mm.nil w).var (g := w.heap.size) rfl [.bool su, .slice Au nu cu, .bool zu, .slice Bu mu du, .bool sv, .slice Av nv cv, .bool zv, .slice Bv mv dv] 30).var (g := w.heap.size + 1) (by simp) [.bool false, .slice none 0 0, .bool false, .slice none 0 0] 26).var (g := w.heap.size + 1 + 1) (by simp) [.bool false, .slice none 0 0, .bool false, .slice none 0 0] 26
  have HC := Lib.hid (chkBm_ok ou ov hv)
  have AU : Hid (xu + 0 = xu) := Lib.hid (Rat.add_zero _)
  have AV : Hid (xv + 0 = xv) := Lib.hid (Rat.add_zero _)
  replace ou := ou.next K0.1
  replace ov := ov.next K0.1
  have g01 : ¬ w.heap.size = w.heap.size + 1 := by omega
  have g02 : ¬ w.heap.size = w.heap.size + 1 + 1 := by omega
  have g10 : ¬ w.heap.size + 1 = w.heap.size := by omega
  have g12 : ¬ w.heap.size + 1 = w.heap.size + 1 + 1 := by omega
  have g20 : ¬ w.heap.size + 1 + 1 = w.heap.size := by omega
  have g21 : ¬ w.heap.size + 1 + 1 = w.heap.size + 1 := by omega
  clear hv
  go_enter Tryz.func34, Tryz.ntmps34
  go_upto_region 1 with (fail)
  generalize ((w.alloc (.cells #[.bool su, .slice Au nu cu, .bool zu, .slice Bu mu du, .bool sv, .slice Av nv cv, .bool zv, .slice Bv mv dv] 30)).alloc (.cells #[.bool false, .slice none 0 0, .bool false, .slice none 0 0] 26)).alloc (.cells #[.bool false, .slice none 0 0, .bool false, .slice none 0 0] 26) = w0 at K0 ou ov ⊢
  obtain ⟨q0, q1, q2, q3, q4, q5, q6, q7⟩ := (K0.blk (g := w.heap.size) (vs := [.bool su, .slice Au nu cu, .bool zu, .slice Bu mu du, .bool sv, .slice Av nv cv, .bool zv, .slice Bv mv dv]) (by simp)).c8
  go_wp2_with fail
  refine (ref15_check_any su Au nu cu lu zu Bu mu du ku sv Av nv cv lv zv Bv mv dv kv _ ou.1 ov.1).mono ?_
  rintro e4 w4 ⟨rfl, hb4⟩
  rw [HC.out]
  have K1 := K0.next hb4
  replace ou := ou.next hb4
  replace ov := ov.next hb4
  clear K0 hb4 q0 q1 q2 q3 q4 q5 q6 q7
  have SU := Lib.hid ou.ints.2.2
  have SV := Lib.hid ov.ints.2.2
  replace K1 := (((K1.int ov.ints.2.1).int ov.ints.1).int ou.ints.2.1).int ou.ints.1
  clear ou ov
  obtain ⟨q0, q1, q2, q3, q4, q5, q6, q7⟩ := (K1.blk (g := w.heap.size) (vs := [.bool su, .slice Au nu cu, .bool zu, .slice Bu mu du, .bool sv, .slice Av nv cv, .bool zv, .slice Bv mv dv]) (by simp)).c8
  have sz4 : w.heap.size + 1 + 1 < w4.heap.size := (K1.blk (g := w.heap.size + 1 + 1) (vs := [.bool false, .slice none 0 0, .bool false, .slice none 0 0]) (by simp)).1
  go_upto_region 4 with (fail)
  go_region_held3 (fun w' => w'.cell? ⟨w.heap.size, 0, none⟩ = some (.bool su) ∧ w'.cell? ⟨w.heap.size, 1, none⟩ = some (.slice Au nu cu) ∧ w'.cell? ⟨w.heap.size, 2, none⟩ = some (.bool zu) ∧ w'.cell? ⟨w.heap.size, 3, none⟩ = some (.slice Bu mu du) ∧ w'.cell? ⟨w.heap.size, 4, none⟩ = some (.bool sv) ∧ w'.cell? ⟨w.heap.size, 5, none⟩ = some (.slice Av nv cv) ∧ w'.cell? ⟨w.heap.size, 6, none⟩ = some (.bool zv) ∧ w'.cell? ⟨w.heap.size, 7, none⟩ = some (.slice Bv mv dv))
    (go_keep)
    (first
      | (go_at_call 136; (with_reducible refine (ref2_plus_any sv zv Av Bv nv cv mv dv sh zh Ah Bh nh ch mh dh xv 0 xv 2048 1 _ ?_ ?_ ?_ ?_ SV.out Sz.zero (by decide) AV).mono ?_); (first | (with_reducible exact K7.at_ (List.mem_of_getElem? (i := 8) rfl)) | (with_reducible exact K7.drew.at_ (List.mem_of_getElem? (i := 8) rfl)) | (with_reducible exact (K7.drewN _).at_ (List.mem_of_getElem? (i := 8) rfl))); (first | (with_reducible exact K7.at_ (List.mem_of_getElem? (i := 9) rfl)) | (with_reducible exact K7.drew.at_ (List.mem_of_getElem? (i := 9) rfl)) | (with_reducible exact (K7.drewN _).at_ (List.mem_of_getElem? (i := 9) rfl))); (first | (with_reducible exact K7.at_ (List.mem_of_getElem? (i := 0) rfl)) | (with_reducible exact K7.drew.at_ (List.mem_of_getElem? (i := 0) rfl)) | (with_reducible exact (K7.drewN _).at_ (List.mem_of_getElem? (i := 0) rfl))); (first | (with_reducible exact K7.at_ (List.mem_of_getElem? (i := 1) rfl)) | (with_reducible exact K7.drew.at_ (List.mem_of_getElem? (i := 1) rfl)) | (with_reducible exact (K7.drewN _).at_ (List.mem_of_getElem? (i := 1) rfl))); rintro e8 w8 ⟨sj, Aj, nj, cj, zj, Bj, mj, dj, rfl, I8, J8, hb8⟩; (first | (with_reducible have K8 := ((K7.next hb8).int J8).int I8) | (with_reducible have K8 := ((K7.drew.next hb8).int J8).int I8) | (with_reducible have K8 := (((K7.drewN _).next hb8).int J8).int I8)); obtain ⟨q8_0, q8_1, q8_2, q8_3, q8_4, q8_5, q8_6, q8_7⟩ := (K8.blk (g := w.heap.size) (vs := [.bool su, .slice Au nu cu, .bool zu, .slice Bu mu du, .bool sv, .slice Av nv cv, .bool zv, .slice Bv mv dv]) (by simp)).c8; obtain ⟨⟨r0, r1, r2, r3⟩, ⟨rf0, rf1, rf2, rf3⟩, _⟩ := (K8.blk (g := w.heap.size + 1) (vs := [.bool false, .slice none 0 0, .bool false, .slice none 0 0]) (by simp)).four; obtain ⟨⟨s0, s1, s2, s3⟩, ⟨sf0, sf1, sf2, sf3⟩, _⟩ := (K8.blk (g := w.heap.size + 1 + 1) (vs := [.bool false, .slice none 0 0, .bool false, .slice none 0 0]) (by simp)).four; clear I8 J8 hb8)
      | (go_at_call 137; (with_reducible refine (ref2_nou_any _).mono ?_); rintro e7 w7 ⟨sh, Ah, nh, ch, zh, Bh, mh, dh, rfl, I7, J7, hb7⟩; (first | (with_reducible have K7 := ((K6.next hb7).int J7).int I7) | (with_reducible have K7 := ((K6.drew.next hb7).int J7).int I7) | (with_reducible have K7 := (((K6.drewN _).next hb7).int J7).int I7)); obtain ⟨q7_0, q7_1, q7_2, q7_3, q7_4, q7_5, q7_6, q7_7⟩ := (K7.blk (g := w.heap.size) (vs := [.bool su, .slice Au nu cu, .bool zu, .slice Bu mu du, .bool sv, .slice Av nv cv, .bool zv, .slice Bv mv dv]) (by simp)).c8; clear I7 J7 hb7)
      | (go_at_call 136; (with_reducible refine (ref2_plus_any su zu Au Bu nu cu mu du sg zg Ag Bg ng cg mg dg xu 0 xu 2048 1 _ ?_ ?_ ?_ ?_ SU.out Sz.zero (by decide) AU).mono ?_); (first | (with_reducible exact K5.at_ (List.mem_of_getElem? (i := 2) rfl)) | (with_reducible exact K5.drew.at_ (List.mem_of_getElem? (i := 2) rfl)) | (with_reducible exact (K5.drewN _).at_ (List.mem_of_getElem? (i := 2) rfl))); (first | (with_reducible exact K5.at_ (List.mem_of_getElem? (i := 3) rfl)) | (with_reducible exact K5.drew.at_ (List.mem_of_getElem? (i := 3) rfl)) | (with_reducible exact (K5.drewN _).at_ (List.mem_of_getElem? (i := 3) rfl))); (first | (with_reducible exact K5.at_ (List.mem_of_getElem? (i := 0) rfl)) | (with_reducible exact K5.drew.at_ (List.mem_of_getElem? (i := 0) rfl)) | (with_reducible exact (K5.drewN _).at_ (List.mem_of_getElem? (i := 0) rfl))); (first | (with_reducible exact K5.at_ (List.mem_of_getElem? (i := 1) rfl)) | (with_reducible exact K5.drew.at_ (List.mem_of_getElem? (i := 1) rfl)) | (with_reducible exact (K5.drewN _).at_ (List.mem_of_getElem? (i := 1) rfl))); rintro e6 w6 ⟨si, Ai, ni, ci, zi, Bi, mi, di, rfl, I6, J6, hb6⟩; (first | (with_reducible have K6 := ((K5.next hb6).int J6).int I6) | (with_reducible have K6 := ((K5.drew.next hb6).int J6).int I6) | (with_reducible have K6 := (((K5.drewN _).next hb6).int J6).int I6)); obtain ⟨q6_0, q6_1, q6_2, q6_3, q6_4, q6_5, q6_6, q6_7⟩ := (K6.blk (g := w.heap.size) (vs := [.bool su, .slice Au nu cu, .bool zu, .slice Bu mu du, .bool sv, .slice Av nv cv, .bool zv, .slice Bv mv dv]) (by simp)).c8; clear I6 J6 hb6)
      | (go_at_call 137; (with_reducible refine (ref2_nou_any _).mono ?_); rintro e5 w5 ⟨sg, Ag, ng, cg, zg, Bg, mg, dg, rfl, I5, J5, hb5⟩; (first | (with_reducible have K5 := ((K1.next hb5).int J5).int I5) | (with_reducible have K5 := ((K1.drew.next hb5).int J5).int I5) | (with_reducible have K5 := (((K1.drewN _).next hb5).int J5).int I5)); obtain ⟨q5_0, q5_1, q5_2, q5_3, q5_4, q5_5, q5_6, q5_7⟩ := (K5.blk (g := w.heap.size) (vs := [.bool su, .slice Au nu cu, .bool zu, .slice Bu mu du, .bool sv, .slice Av nv cv, .bool zv, .slice Bv mv dv]) (by simp)).c8; clear I5 J5 hb5)
      | fail)
  all_goals (go_wp2_with fail)
  all_goals (
    have K9 := ((K8.pick (L' := [(w.heap.size + 1, [.bool false, .slice none 0 0, .bool false, .slice none 0 0]), (w.heap.size + 1 + 1, [.bool false, .slice none 0 0, .bool false, .slice none 0 0])]) (l' := [(si, Ai, ni, ci, xu.num), (zi, Bi, mi, di, (xu.den : Int)), (sj, Aj, nj, cj, xv.num), (zj, Bj, mj, dj, (xv.den : Int))]) (by simp) (by simp)).set4 (by simp) si Ai ni ci zi Bi mi di).pick (L' := [(w.heap.size + 1 + 1, [.bool false, .slice none 0 0, .bool false, .slice none 0 0])]) (l' := [(si, Ai, ni, ci, xu.num), (zi, Bi, mi, di, (xu.den : Int)), (sj, Aj, nj, cj, xv.num), (zj, Bj, mj, dj, (xv.den : Int))]) (by simp) (by simp) |>.set4 (by simp) sj Aj nj cj zj Bj mj dj
    exact bodyPost_ret (v := .tuple #[.agg #[.bool si, .slice Ai ni ci, .bool zi, .slice Bi mi di], .agg #[.bool sj, .slice Aj nj cj, .bool zj, .slice Bj mj dj], .int .i64 0]) (by simp [results, Tryz.results34, go_sem, r0, r1, r2, r3, s0, s1, s2, s3]) rfl ⟨_, _, _, _, _, _, _, _, _, _, _, _, _, _, _, _, rfl, K9.at_ (by simp), K9.at_ (by simp), K9.at_ (by simp), K9.at_ (by simp), K9.1⟩)

set_option maxRecDepth 100000 in
set_option maxHeartbeats 6400000 in
theorem ref15_size_ok (su : Bool) (Au : Option Addr) (nu cu : Nat) (lu : List Nat) (zu : Bool) (Bu : Option Addr) (mu du : Nat) (ku : List Nat) (xu : Rat) (sv : Bool) (Av : Option Addr) (nv cv : Nat) (lv : List Nat) (zv : Bool) (Bv : Option Addr) (mv dv : Nat) (kv : List Nat) (xv : Rat) (M : Nat) (r : Rat) (x y v : Int) (w : World) (ou : OkF w ((su, Au, nu, cu, lu), (zu, Bu, mu, du, ku)) xu) (yu : Sz xu M) (ov : OkF w ((sv, Av, nv, cv, lv), (zv, Bv, mv, dv, kv)) xv) (yv : Sz xv M) (hM : M ≤ 2048) (hv : 0 < xv) (h0 : xv ≠ 0) (hr : Hid ((((xu * xu) + (xv * xv)) / xv) = r)) (ha : AnsOf r x y v) :
    Calls Tryz.prog 35 #[.agg #[.bool su, .slice Au nu cu, .bool zu, .slice Bu mu du, .bool sv, .slice Av nv cv, .bool zv, .slice Bv mv dv]] w (RetN2 w x y v) := by
  have K0 := ((Mm.nil w).var (g := w.heap.size) rfl [.bool su, .slice Au nu cu, .bool zu, .slice Bu mu du, .bool sv, .slice Av nv cv, .bool zv, .slice Bv mv dv] 30).var (g := w.heap.size + 1) (by simp) [.bool false, .slice none 0 0, .bool false, .slice none 0 0] 26
  have HC := Lib.hid (chkBm_ok ou ov hv)
  have H0 := Lib.hid h0
  have SU := Lib.hid yu
  have SV := Lib.hid yv
  have HA := Lib.hid ha
  have NS : Hid (Sz ((xu * xu) + (xv * xv)) (4 * M + 1)) := Lib.hid ((Sz.add (Sz.mul yu yu) (Sz.mul yv yv)).mono (by omega))
  have SR : Hid (Sz r 100000) := Lib.hid (by rw [← hr.out]; exact ((Sz.add (Sz.mul yu yu) (Sz.mul yv yv)).div yv h0).mono (by omega))
  replace ou := ou.next K0.1
  replace ov := ov.next K0.1
  have g01 : ¬ w.heap.size = w.heap.size + 1 := by omega
  have g10 : ¬ w.heap.size + 1 = w.heap.size := by omega
  clear hv h0 yu yv ha
  go_enter Tryz.func35, Tryz.ntmps35
  go_upto_region 1 with (fail)
  generalize (w.alloc (.cells #[.bool su, .slice Au nu cu, .bool zu, .slice Bu mu du, .bool sv, .slice Av nv cv, .bool zv, .slice Bv mv dv] 30)).alloc (.cells #[.bool false, .slice none 0 0, .bool false, .slice none 0 0] 26) = w0 at K0 ou ov ⊢
  obtain ⟨q0, q1, q2, q3, q4, q5, q6, q7⟩ := (K0.blk (g := w.heap.size) (vs := [.bool su, .slice Au nu cu, .bool zu, .slice Bu mu du, .bool sv, .slice Av nv cv, .bool zv, .slice Bv mv dv]) (by simp)).c8
  go_wp2_with fail
  refine (ref15_check_any su Au nu cu lu zu Bu mu du ku sv Av nv cv lv zv Bv mv dv kv _ ou.1 ov.1).mono ?_
  rintro e4 w4 ⟨rfl, hb4⟩
  rw [HC.out]
  have K1 := K0.next hb4
  replace ou := ou.next hb4
  replace ov := ov.next hb4
  clear K0 hb4 q0 q1 q2 q3 q4 q5 q6 q7
  replace K1 := (((K1.int ov.ints.2.1).int ov.ints.1).int ou.ints.2.1).int ou.ints.1
  clear ou ov
  obtain ⟨q0, q1, q2, q3, q4, q5, q6, q7⟩ := (K1.blk (g := w.heap.size) (vs := [.bool su, .slice Au nu cu, .bool zu, .slice Bu mu du, .bool sv, .slice Av nv cv, .bool zv, .slice Bv mv dv]) (by simp)).c8
  have sz4 : w.heap.size + 1 < w4.heap.size := (K1.blk (g := w.heap.size + 1) (vs := [.bool false, .slice none 0 0, .bool false, .slice none 0 0]) (by simp)).1
  go_upto_region 4 with (fail)
  go_region_held3 (fun w' => w'.cell? ⟨w.heap.size, 0, none⟩ = some (.bool su) ∧ w'.cell? ⟨w.heap.size, 1, none⟩ = some (.slice Au nu cu) ∧ w'.cell? ⟨w.heap.size, 2, none⟩ = some (.bool zu) ∧ w'.cell? ⟨w.heap.size, 3, none⟩ = some (.slice Bu mu du) ∧ w'.cell? ⟨w.heap.size, 4, none⟩ = some (.bool sv) ∧ w'.cell? ⟨w.heap.size, 5, none⟩ = some (.slice Av nv cv) ∧ w'.cell? ⟨w.heap.size, 6, none⟩ = some (.bool zv) ∧ w'.cell? ⟨w.heap.size, 7, none⟩ = some (.slice Bv mv dv))
    (go_keep)
    (first
      | (go_at_call 138; (with_reducible refine (ref15_one_any sr zr Ar Br nr cr mr dr r x y v _ ?_ ?_ ⟨by omega, by omega⟩ HA.out).mono ?_); (first | (with_reducible exact K6.at_ (List.mem_of_getElem? (i := 0) rfl)) | (with_reducible exact K6.drew.at_ (List.mem_of_getElem? (i := 0) rfl)) | (with_reducible exact (K6.drewN _).at_ (List.mem_of_getElem? (i := 0) rfl))); (first | (with_reducible exact K6.at_ (List.mem_of_getElem? (i := 1) rfl)) | (with_reducible exact K6.drew.at_ (List.mem_of_getElem? (i := 1) rfl)) | (with_reducible exact (K6.drewN _).at_ (List.mem_of_getElem? (i := 1) rfl))); rintro e7 w7 ⟨so, Ao, no, co, zo, Bo, mo, d0, rfl, I7, J7, hb7⟩; (first | (with_reducible have K7 := ((K6.next hb7).int J7).int I7) | (with_reducible have K7 := ((K6.drew.next hb7).int J7).int I7) | (with_reducible have K7 := (((K6.drewN _).next hb7).int J7).int I7)); obtain ⟨q7_0, q7_1, q7_2, q7_3, q7_4, q7_5, q7_6, q7_7⟩ := (K7.blk (g := w.heap.size) (vs := [.bool su, .slice Au nu cu, .bool zu, .slice Bu mu du, .bool sv, .slice Av nv cv, .bool zv, .slice Bv mv dv]) (by simp)).c8; obtain ⟨⟨f0, f1, f2, f3⟩, ⟨ff0, ff1, ff2, ff3⟩, _⟩ := (K7.blk (g := w.heap.size + 1) (vs := [.bool false, .slice none 0 0, .bool false, .slice none 0 0]) (by simp)).four; clear I7 J7 hb7)
      | (go_at_call 139; (with_reducible refine (ref2_over_any sh zh Ah Bh nh ch mh dh sv zv Av Bv nv cv mv dv ((xu * xu) + (xv * xv)) xv r (4 * M + 1) M _ ?_ ?_ ?_ ?_ NS.out SV.out (by omega) H0.out hr).mono ?_); (first | (with_reducible exact K5.at_ (List.mem_of_getElem? (i := 0) rfl)) | (with_reducible exact K5.drew.at_ (List.mem_of_getElem? (i := 0) rfl)) | (with_reducible exact (K5.drewN _).at_ (List.mem_of_getElem? (i := 0) rfl))); (first | (with_reducible exact K5.at_ (List.mem_of_getElem? (i := 1) rfl)) | (with_reducible exact K5.drew.at_ (List.mem_of_getElem? (i := 1) rfl)) | (with_reducible exact (K5.drewN _).at_ (List.mem_of_getElem? (i := 1) rfl))); (first | (with_reducible exact K5.at_ (List.mem_of_getElem? (i := 4) rfl)) | (with_reducible exact K5.drew.at_ (List.mem_of_getElem? (i := 4) rfl)) | (with_reducible exact (K5.drewN _).at_ (List.mem_of_getElem? (i := 4) rfl))); (first | (with_reducible exact K5.at_ (List.mem_of_getElem? (i := 5) rfl)) | (with_reducible exact K5.drew.at_ (List.mem_of_getElem? (i := 5) rfl)) | (with_reducible exact (K5.drewN _).at_ (List.mem_of_getElem? (i := 5) rfl))); rintro e6 w6 ⟨sr, Ar, nr, cr, zr, Br, mr, dr, rfl, I6, J6, hb6⟩; (first | (with_reducible have K6 := ((K5.next hb6).int J6).int I6) | (with_reducible have K6 := ((K5.drew.next hb6).int J6).int I6) | (with_reducible have K6 := (((K5.drewN _).next hb6).int J6).int I6)); have nr2 := int_len I6 SR.out.1; have mr2 := int_len J6 SR.out.2; obtain ⟨q6_0, q6_1, q6_2, q6_3, q6_4, q6_5, q6_6, q6_7⟩ := (K6.blk (g := w.heap.size) (vs := [.bool su, .slice Au nu cu, .bool zu, .slice Bu mu du, .bool sv, .slice Av nv cv, .bool zv, .slice Bv mv dv]) (by simp)).c8; clear I6 J6 hb6)
      | (go_at_call 140; (with_reducible refine (ga_norm_any su zu Au Bu nu cu mu du xu sv zv Av Bv nv cv mv dv xv M _ ?_ ?_ SU.out ?_ ?_ SV.out (by omega)).mono ?_); (first | (with_reducible exact K1.at_ (List.mem_of_getElem? (i := 0) rfl)) | (with_reducible exact K1.drew.at_ (List.mem_of_getElem? (i := 0) rfl)) | (with_reducible exact (K1.drewN _).at_ (List.mem_of_getElem? (i := 0) rfl))); (first | (with_reducible exact K1.at_ (List.mem_of_getElem? (i := 1) rfl)) | (with_reducible exact K1.drew.at_ (List.mem_of_getElem? (i := 1) rfl)) | (with_reducible exact (K1.drewN _).at_ (List.mem_of_getElem? (i := 1) rfl))); (first | (with_reducible exact K1.at_ (List.mem_of_getElem? (i := 2) rfl)) | (with_reducible exact K1.drew.at_ (List.mem_of_getElem? (i := 2) rfl)) | (with_reducible exact (K1.drewN _).at_ (List.mem_of_getElem? (i := 2) rfl))); (first | (with_reducible exact K1.at_ (List.mem_of_getElem? (i := 3) rfl)) | (with_reducible exact K1.drew.at_ (List.mem_of_getElem? (i := 3) rfl)) | (with_reducible exact (K1.drewN _).at_ (List.mem_of_getElem? (i := 3) rfl))); rintro e5 w5 ⟨sh, Ah, nh, ch, zh, Bh, mh, dh, rfl, I5, J5, hb5⟩; (first | (with_reducible have K5 := ((K1.next hb5).int J5).int I5) | (with_reducible have K5 := ((K1.drew.next hb5).int J5).int I5) | (with_reducible have K5 := (((K1.drewN _).next hb5).int J5).int I5)); obtain ⟨q5_0, q5_1, q5_2, q5_3, q5_4, q5_5, q5_6, q5_7⟩ := (K5.blk (g := w.heap.size) (vs := [.bool su, .slice Au nu cu, .bool zu, .slice Bu mu du, .bool sv, .slice Av nv cv, .bool zv, .slice Bv mv dv]) (by simp)).c8; clear I5 J5 hb5)
      | fail)
  all_goals (go_wp2_with fail)
  all_goals (
    have K9 := (K7.pick (L' := [(w.heap.size + 1, [.bool false, .slice none 0 0, .bool false, .slice none 0 0])]) (l' := [(so, Ao, no, co, x), (zo, Bo, mo, d0, y)]) (by simp) (by simp)).set4 (by simp) so Ao no co zo Bo mo d0
    exact bodyPost_ret (v := .tuple #[.agg #[.bool so, .slice Ao no co, .bool zo, .slice Bo mo d0], .int .i64 v]) (by simp [results, Tryz.results35, go_sem, f0, f1, f2, f3]) rfl ⟨_, _, _, _, _, _, _, _, rfl, K9.at_ (by simp), K9.at_ (by simp), K9.1⟩)
set_option maxRecDepth 100000 in
set_option maxHeartbeats 6400000 in
theorem ref15_curve_ok (su : Bool) (Au : Option Addr) (nu cu : Nat) (lu : List Nat) (zu : Bool) (Bu : Option Addr) (mu du : Nat) (ku : List Nat) (xu : Rat) (sv : Bool) (Av : Option Addr) (nv cv : Nat) (lv : List Nat) (zv : Bool) (Bv : Option Addr) (mv dv : Nat) (kv : List Nat) (xv : Rat) (M : Nat) (r : Rat) (x y v : Int) (w : World) (ou : OkF w ((su, Au, nu, cu, lu), (zu, Bu, mu, du, ku)) xu) (yu : Sz xu M) (ov : OkF w ((sv, Av, nv, cv, lv), (zv, Bv, mv, dv, kv)) xv) (yv : Sz xv M) (hM : M ≤ 2048) (hv : 0 < xv) (h0 : ((xu * xu) + (xv * xv)) ≠ 0) (hr : Hid ((xu / ((xu * xu) + (xv * xv))) = r)) (ha : AnsOf r x y v) :
    Calls Tryz.prog 36 #[.agg #[.bool su, .slice Au nu cu, .bool zu, .slice Bu mu du, .bool sv, .slice Av nv cv, .bool zv, .slice Bv mv dv]] w (RetN2 w x y v) := by
  have K0 := ((Mm.nil w).var (g := w.heap.size) rfl [.bool su, .slice Au nu cu, .bool zu, .slice Bu mu du, .bool sv, .slice Av nv cv, .bool zv, .slice Bv mv dv] 30).var (g := w.heap.size + 1) (by simp) [.bool false, .slice none 0 0, .bool false, .slice none 0 0] 26
  have HC := Lib.hid (chkBm_ok ou ov hv)
  have H0 := Lib.hid h0
  have SU := Lib.hid yu
  have SV := Lib.hid yv
  have HA := Lib.hid ha
  have NS : Hid (Sz ((xu * xu) + (xv * xv)) (4 * M + 1)) := Lib.hid ((Sz.add (Sz.mul yu yu) (Sz.mul yv yv)).mono (by omega))
  have SR : Hid (Sz r 100000) := Lib.hid (by rw [← hr.out]; exact (yu.div (Sz.add (Sz.mul yu yu) (Sz.mul yv yv)) h0).mono (by omega))
  replace ou := ou.next K0.1
  replace ov := ov.next K0.1
  have g01 : ¬ w.heap.size = w.heap.size + 1 := by omega
  have g10 : ¬ w.heap.size + 1 = w.heap.size := by omega
  clear hv h0 yu yv ha
  go_enter Tryz.func36, Tryz.ntmps36
  go_upto_region 1 with (fail)
  generalize (w.alloc (.cells #[.bool su, .slice Au nu cu, .bool zu, .slice Bu mu du, .bool sv, .slice Av nv cv, .bool zv, .slice Bv mv dv] 30)).alloc (.cells #[.bool false, .slice none 0 0, .bool false, .slice none 0 0] 26) = w0 at K0 ou ov ⊢
  obtain ⟨q0, q1, q2, q3, q4, q5, q6, q7⟩ := (K0.blk (g := w.heap.size) (vs := [.bool su, .slice Au nu cu, .bool zu, .slice Bu mu du, .bool sv, .slice Av nv cv, .bool zv, .slice Bv mv dv]) (by simp)).c8
  go_wp2_with fail
  refine (ref15_check_any su Au nu cu lu zu Bu mu du ku sv Av nv cv lv zv Bv mv dv kv _ ou.1 ov.1).mono ?_
  rintro e4 w4 ⟨rfl, hb4⟩
  rw [HC.out]
  have K1 := K0.next hb4
  replace ou := ou.next hb4
  replace ov := ov.next hb4
  clear K0 hb4 q0 q1 q2 q3 q4 q5 q6 q7
  replace K1 := (((K1.int ov.ints.2.1).int ov.ints.1).int ou.ints.2.1).int ou.ints.1
  clear ou ov
  obtain ⟨q0, q1, q2, q3, q4, q5, q6, q7⟩ := (K1.blk (g := w.heap.size) (vs := [.bool su, .slice Au nu cu, .bool zu, .slice Bu mu du, .bool sv, .slice Av nv cv, .bool zv, .slice Bv mv dv]) (by simp)).c8
  have sz4 : w.heap.size + 1 < w4.heap.size := (K1.blk (g := w.heap.size + 1) (vs := [.bool false, .slice none 0 0, .bool false, .slice none 0 0]) (by simp)).1
  go_upto_region 4 with (fail)
  go_region_held3 (fun w' => w'.cell? ⟨w.heap.size, 0, none⟩ = some (.bool su) ∧ w'.cell? ⟨w.heap.size, 1, none⟩ = some (.slice Au nu cu) ∧ w'.cell? ⟨w.heap.size, 2, none⟩ = some (.bool zu) ∧ w'.cell? ⟨w.heap.size, 3, none⟩ = some (.slice Bu mu du) ∧ w'.cell? ⟨w.heap.size, 4, none⟩ = some (.bool sv) ∧ w'.cell? ⟨w.heap.size, 5, none⟩ = some (.slice Av nv cv) ∧ w'.cell? ⟨w.heap.size, 6, none⟩ = some (.bool zv) ∧ w'.cell? ⟨w.heap.size, 7, none⟩ = some (.slice Bv mv dv))
    (go_keep)
    (first
      | (go_at_call 138; (with_reducible refine (ref15_one_any sr zr Ar Br nr cr mr dr r x y v _ ?_ ?_ ⟨by omega, by omega⟩ HA.out).mono ?_); (first | (with_reducible exact K6.at_ (List.mem_of_getElem? (i := 0) rfl)) | (with_reducible exact K6.drew.at_ (List.mem_of_getElem? (i := 0) rfl)) | (with_reducible exact (K6.drewN _).at_ (List.mem_of_getElem? (i := 0) rfl))); (first | (with_reducible exact K6.at_ (List.mem_of_getElem? (i := 1) rfl)) | (with_reducible exact K6.drew.at_ (List.mem_of_getElem? (i := 1) rfl)) | (with_reducible exact (K6.drewN _).at_ (List.mem_of_getElem? (i := 1) rfl))); rintro e7 w7 ⟨so, Ao, no, co, zo, Bo, mo, d0, rfl, I7, J7, hb7⟩; (first | (with_reducible have K7 := ((K6.next hb7).int J7).int I7) | (with_reducible have K7 := ((K6.drew.next hb7).int J7).int I7) | (with_reducible have K7 := (((K6.drewN _).next hb7).int J7).int I7)); obtain ⟨q7_0, q7_1, q7_2, q7_3, q7_4, q7_5, q7_6, q7_7⟩ := (K7.blk (g := w.heap.size) (vs := [.bool su, .slice Au nu cu, .bool zu, .slice Bu mu du, .bool sv, .slice Av nv cv, .bool zv, .slice Bv mv dv]) (by simp)).c8; obtain ⟨⟨f0, f1, f2, f3⟩, ⟨ff0, ff1, ff2, ff3⟩, _⟩ := (K7.blk (g := w.heap.size + 1) (vs := [.bool false, .slice none 0 0, .bool false, .slice none 0 0]) (by simp)).four; clear I7 J7 hb7)
      | (go_at_call 139; (with_reducible refine (ref2_over_any su zu Au Bu nu cu mu du sh zh Ah Bh nh ch mh dh xu ((xu * xu) + (xv * xv)) r M (4 * M + 1) _ ?_ ?_ ?_ ?_ SU.out NS.out (by omega) H0.out hr).mono ?_); (first | (with_reducible exact K5.at_ (List.mem_of_getElem? (i := 2) rfl)) | (with_reducible exact K5.drew.at_ (List.mem_of_getElem? (i := 2) rfl)) | (with_reducible exact (K5.drewN _).at_ (List.mem_of_getElem? (i := 2) rfl))); (first | (with_reducible exact K5.at_ (List.mem_of_getElem? (i := 3) rfl)) | (with_reducible exact K5.drew.at_ (List.mem_of_getElem? (i := 3) rfl)) | (with_reducible exact (K5.drewN _).at_ (List.mem_of_getElem? (i := 3) rfl))); (first | (with_reducible exact K5.at_ (List.mem_of_getElem? (i := 0) rfl)) | (with_reducible exact K5.drew.at_ (List.mem_of_getElem? (i := 0) rfl)) | (with_reducible exact (K5.drewN _).at_ (List.mem_of_getElem? (i := 0) rfl))); (first | (with_reducible exact K5.at_ (List.mem_of_getElem? (i := 1) rfl)) | (with_reducible exact K5.drew.at_ (List.mem_of_getElem? (i := 1) rfl)) | (with_reducible exact (K5.drewN _).at_ (List.mem_of_getElem? (i := 1) rfl))); rintro e6 w6 ⟨sr, Ar, nr, cr, zr, Br, mr, dr, rfl, I6, J6, hb6⟩; (first | (with_reducible have K6 := ((K5.next hb6).int J6).int I6) | (with_reducible have K6 := ((K5.drew.next hb6).int J6).int I6) | (with_reducible have K6 := (((K5.drewN _).next hb6).int J6).int I6)); have nr2 := int_len I6 SR.out.1; have mr2 := int_len J6 SR.out.2; obtain ⟨q6_0, q6_1, q6_2, q6_3, q6_4, q6_5, q6_6, q6_7⟩ := (K6.blk (g := w.heap.size) (vs := [.bool su, .slice Au nu cu, .bool zu, .slice Bu mu du, .bool sv, .slice Av nv cv, .bool zv, .slice Bv mv dv]) (by simp)).c8; clear I6 J6 hb6)
      | (go_at_call 140; (with_reducible refine (ga_norm_any su zu Au Bu nu cu mu du xu sv zv Av Bv nv cv mv dv xv M _ ?_ ?_ SU.out ?_ ?_ SV.out (by omega)).mono ?_); (first | (with_reducible exact K1.at_ (List.mem_of_getElem? (i := 0) rfl)) | (with_reducible exact K1.drew.at_ (List.mem_of_getElem? (i := 0) rfl)) | (with_reducible exact (K1.drewN _).at_ (List.mem_of_getElem? (i := 0) rfl))); (first | (with_reducible exact K1.at_ (List.mem_of_getElem? (i := 1) rfl)) | (with_reducible exact K1.drew.at_ (List.mem_of_getElem? (i := 1) rfl)) | (with_reducible exact (K1.drewN _).at_ (List.mem_of_getElem? (i := 1) rfl))); (first | (with_reducible exact K1.at_ (List.mem_of_getElem? (i := 2) rfl)) | (with_reducible exact K1.drew.at_ (List.mem_of_getElem? (i := 2) rfl)) | (with_reducible exact (K1.drewN _).at_ (List.mem_of_getElem? (i := 2) rfl))); (first | (with_reducible exact K1.at_ (List.mem_of_getElem? (i := 3) rfl)) | (with_reducible exact K1.drew.at_ (List.mem_of_getElem? (i := 3) rfl)) | (with_reducible exact (K1.drewN _).at_ (List.mem_of_getElem? (i := 3) rfl))); rintro e5 w5 ⟨sh, Ah, nh, ch, zh, Bh, mh, dh, rfl, I5, J5, hb5⟩; (first | (with_reducible have K5 := ((K1.next hb5).int J5).int I5) | (with_reducible have K5 := ((K1.drew.next hb5).int J5).int I5) | (with_reducible have K5 := (((K1.drewN _).next hb5).int J5).int I5)); obtain ⟨q5_0, q5_1, q5_2, q5_3, q5_4, q5_5, q5_6, q5_7⟩ := (K5.blk (g := w.heap.size) (vs := [.bool su, .slice Au nu cu, .bool zu, .slice Bu mu du, .bool sv, .slice Av nv cv, .bool zv, .slice Bv mv dv]) (by simp)).c8; clear I5 J5 hb5)
      | fail)
  all_goals (go_wp2_with fail)
  all_goals (
    have K9 := (K7.pick (L' := [(w.heap.size + 1, [.bool false, .slice none 0 0, .bool false, .slice none 0 0])]) (l' := [(so, Ao, no, co, x), (zo, Bo, mo, d0, y)]) (by simp) (by simp)).set4 (by simp) so Ao no co zo Bo mo d0
    exact bodyPost_ret (v := .tuple #[.agg #[.bool so, .slice Ao no co, .bool zo, .slice Bo mo d0], .int .i64 v]) (by simp [results, Tryz.results36, go_sem, f0, f1, f2, f3]) rfl ⟨_, _, _, _, _, _, _, _, rfl, K9.at_ (by simp), K9.at_ (by simp), K9.1⟩)
end Go.Proofs.YtmmplomkginadaaGreatDoor
