/-
  The program's whole numbers (package exact): the sum and the difference (Plus, Minus).
  The program's whole numbers (package exact): the product (Times).
  The program's whole numbers (package exact): quotients by any, the greatest common divisor (Divide, Common).
  The program's fractions (package ratio): turned, lowest terms.
-/
import Derived.Test.YtgekmbfmfiikkaaGreatDoorOwC
import Derived.Test.YtgekmbfmfiikkaaGreatDoorEyB
import Derived.Test.YtgekmbfmfiikkaaGreatDoorExG
import Derived.Test.YtgekmbfmfiikkaaGreatDoorBkP
import Derived.BigQuiet
import Derived.Test.YtgekmbfmfiikkaaGreatDoorOwF
import Derived.Test.YtgekmbfmfiikkaaGreatDoorFrR
import Derived.Deep.LoopGhost
namespace Go.Proofs.YtgekmbfmfiikkaaGreatDoor
open Go.RowKit

theorem ex_plus_any (neg neg' : Bool) (A A' : Option Addr) (n c n' c' : Nat) (x y : Int) (w : World) (hx : IsInt w neg A n c x) (hy : IsInt w neg' A' n' c' y) (hn : n ≤ 1000000000) (hn' : n' ≤ 1000000000) :
  Calls Tryz.prog 219 #[.agg #[.bool neg, .slice A n c], .agg #[.bool neg', .slice A' n' c']] w (RetInt w (x + y)) :=
 (ow_plus_any neg neg' A A' n c n' c' x y w hx hy hn hn').mono fun _ _ h => h.fg
end Go.Proofs.YtgekmbfmfiikkaaGreatDoor

namespace Go.Proofs.YtgekmbfmfiikkaaGreatDoor
open Go.RowKit

theorem ex_times_any (neg neg' : Bool) (A A' : Option Addr) (n c n' c' : Nat) (x y : Int) (w : World) (hx : IsInt w neg A n c x) (hy : IsInt w neg' A' n' c' y) (hn : n ≤ 1000000000) (hn' : n' ≤ 1000000000) :
  Calls Tryz.prog 221 #[.agg #[.bool neg, .slice A n c], .agg #[.bool neg', .slice A' n' c']] w (RetInt w (x * y)) :=
 (ow_times_any neg neg' A A' n c n' c' x y w hx hy hn hn').mono fun _ _ h => h.fg
end Go.Proofs.YtgekmbfmfiikkaaGreatDoor

namespace Go.Proofs.YtgekmbfmfiikkaaGreatDoor
open Go.RowKit

theorem ex_Divide_any (neg neg' : Bool) (A A' : Option Addr) (n c n' c' : Nat) (x y : Int) (w : World) (hx : IsInt w neg A n c x) (hy : IsInt w neg' A' n' c' y) (hn : n ≤ 100000000) (hn' : n' ≤ 100000000) (hy0 : y ≠ 0) :
  Calls Tryz.prog 217 #[.agg #[.bool neg, .slice A n c], .agg #[.bool neg', .slice A' n' c']] w (RetTwoInts w (x.tdiv y) (x.tmod y)) :=
 (ow_Divide_any neg neg' A A' n c n' c' x y w hx hy hn hn' hy0).mono fun _ _ h => h.fg
theorem ex_own_abs (neg : Bool) (A : Option Addr) (n c : Nat) (x : Int) (w : World) (hx : IsInt w neg A n c x) (hn : n ≤ 1000000000) :
  Calls Tryz.prog 271 #[.bool false, .slice A n c] w (RetInt w (x.natAbs : Int)) := by
 obtain ⟨l, hl, cl, _, rfl⟩ := hx
 have h := ex_own_any false A n c l w hl hn
 rwa [show sgnd false (Lm.lv l) = ((sgnd neg (Lm.lv l)).natAbs : Int) by unfold sgnd; cases neg <;> simp] at h
def CmE (w : World) (g5 g6 : Nat) (G : Nat) (m : Nat) (wr : World) : Prop :=
 ∃ (neg1 neg2 : Bool) (A1 A2 : Option Addr) (n1 c1 n2 c2 a : Nat), n1 ≤ 1000000 ∧ n2 ≤ 1000000 ∧ Hid (Nat.gcd a m = G) ∧
  Mm w [(g5, [.bool neg1, .slice A1 n1 c1]), (g6, [.bool neg2, .slice A2 n2 c2]), (w.heap.size + 1 + 1, [.bool false, .slice none 0 0])] [(neg1, A1, n1, c1, (a : Int)), (neg2, A2, n2, c2, (m : Int))] wr

set_option maxRecDepth 100000 in
set_option maxHeartbeats 3200000 in
theorem ex_Common_any (neg neg' : Bool) (A A' : Option Addr) (n c n' c' : Nat) (x y : Int) (G : Nat) (w : World) (hx : IsInt w neg A n c x) (hy : IsInt w neg' A' n' c' y) (hn : n ≤ 1000000) (hn' : n' ≤ 1000000) (hG : Hid (Nat.gcd x.natAbs y.natAbs = G)) :
  Calls Tryz.prog 329 #[.agg #[.bool neg, .slice A n c], .agg #[.bool neg', .slice A' n' c']] w (RetInt w (G : Int)) := by
 have K0 := (((((Mm.nil w).int hx).int hy).var (g := w.heap.size) rfl [.bool neg, .slice A n c] 24).var (g := w.heap.size + 1) (by simp) [.bool neg', .slice A' n' c'] 24).var (g := w.heap.size + 1 + 1) (by simp) [.bool false, .slice none 0 0] 24
 have hxl : Hid ((x.natAbs : Int).natAbs < 2 ^ (32 * n)) := Lib.hid (by rw [Int.natAbs_natCast]; exact (lv_of_int hx).lt)
 have hyl : Hid ((y.natAbs : Int).natAbs < 2 ^ (32 * n')) := Lib.hid (by rw [Int.natAbs_natCast]; exact (lv_of_int hy).lt)
 clear hx hy
 go_enter Tryz.func329, Tryz.ntmps329
 go_wp2_with fail
 generalize ((w.alloc (.cells #[.bool neg, .slice A n c] 24)).alloc (.cells #[.bool neg', .slice A' n' c'] 24)).alloc (.cells #[.bool false, .slice none 0 0] 24) = w0 at K0 ⊢
 obtain ⟨_, _, _, _, _⟩ := (K0.blk (g := w.heap.size) (by repeat constructor)).two
 obtain ⟨_, _, _, _, _⟩ := (K0.blk (g := w.heap.size + 1) (by repeat constructor)).two
 obtain ⟨_, _, _, _, _⟩ := (K0.blk (g := w.heap.size + 1 + 1) (by repeat constructor)).two
 have fa000 : ¬ w.heap.size = w0.heap.size := (by omega)
 have fb000 : ¬ w0.heap.size = w.heap.size := (by omega)
 have fa001 : ¬ w.heap.size + 1 = w0.heap.size := (by omega)
 have fb001 : ¬ w0.heap.size = w.heap.size + 1 := (by omega)
 have fa002 : ¬ w.heap.size + 1 + 1 = w0.heap.size := (by omega)
 have fb002 : ¬ w0.heap.size = w.heap.size + 1 + 1 := (by omega)
 have fa010 : ¬ w.heap.size = w0.heap.size + 1 := (by omega)
 have fb010 : ¬ w0.heap.size + 1 = w.heap.size := (by omega)
 have fa011 : ¬ w.heap.size + 1 = w0.heap.size + 1 := (by omega)
 have fb011 : ¬ w0.heap.size + 1 = w.heap.size + 1 := (by omega)
 have fa012 : ¬ w.heap.size + 1 + 1 = w0.heap.size + 1 := (by omega)
 have fb012 : ¬ w0.heap.size + 1 = w.heap.size + 1 + 1 := (by omega)
 
 go_upto_region 1 with fail
 go_cut [5, 6] from 7 to 27 (fun s5 s6 wx => ∃ g5 g6 : Nat, s5 = .pointer (some ⟨g5, 0, none⟩) ∧ s6 = .pointer (some ⟨g6, 0, none⟩) ∧ w.heap.size + 1 + 1 < g5 ∧ w.heap.size + 1 + 1 < g6 ∧ g5 ≠ g6 ∧ CmE w g5 g6 G y.natAbs wx)
 case first =>
  go_region_held3 (fun w' => w'.cell? ⟨w.heap.size, 1, none⟩ = some (.slice A n c) ∧ w'.cell? ⟨w.heap.size + 1, 1, none⟩ = some (.slice A' n' c'))
   (go_keep)
   (first
    | (go_at_call 271; apply Calls.withMm (w0 := w); (case K => with_reducible repeat (first | exact K0 | apply Mm.drew | apply Mm.drewN | apply Mm.varz)); intro KX; (try simp only [hszA] at KX); (with_reducible refine (ex_own_abs neg A n c x _ ?_ (by omega)).mono ?_); (with_reducible exact KX.at_ (by simp)); rintro e1 w1 ⟨neg1, A1, n1, c1, rfl, I1, hb1⟩; (with_reducible have K1 := (KX.next hb1).int I1); have hz1 := hb1.size; have hn1 : n1 ≤ 1000000 := Nat.le_trans (int_len I1 hxl.out) (by omega); obtain ⟨qa10, qb10, qc10, qd10, qe10⟩ := (K1.blk (g := w.heap.size) (by repeat constructor)).two; obtain ⟨qa11, qb11, qc11, qd11, qe11⟩ := (K1.blk (g := w.heap.size + 1) (by repeat constructor)).two; obtain ⟨qa12, qb12, qc12, qd12, qe12⟩ := (K1.blk (g := w.heap.size + 1 + 1) (by repeat constructor)).two; (try (have Va1 := K1.blk (g := w0.heap.size) (vs := [.bool false, .slice none 0 0]) ?_; rotate_left; (focus (simp; done)); obtain ⟨_, _, _, _, _⟩ := Va1.two)); (try (have Vb1 := K1.blk (g := w0.heap.size + 1) (vs := [.bool false, .slice none 0 0]) ?_; rotate_left; (focus (simp; done)); obtain ⟨_, _, _, _, _⟩ := Vb1.two)); obtain ⟨fa100, fb100⟩ := nq (a := w.heap.size) (b := w1.heap.size) (by omega); obtain ⟨fa101, fb101⟩ := nq (a := w.heap.size + 1) (b := w1.heap.size) (by omega); obtain ⟨fa102, fb102⟩ := nq (a := w.heap.size + 1 + 1) (b := w1.heap.size) (by omega); obtain ⟨fa110, fb110⟩ := nq (a := w.heap.size) (b := w1.heap.size + 1) (by omega); obtain ⟨fa111, fb111⟩ := nq (a := w.heap.size + 1) (b := w1.heap.size + 1) (by omega); obtain ⟨fa112, fb112⟩ := nq (a := w.heap.size + 1 + 1) (b := w1.heap.size + 1) (by omega); clear KX I1 hb1)
    | (go_at_call 271; apply Calls.withMm (w0 := w); (case K => with_reducible repeat (first | exact K1 | apply Mm.drew | apply Mm.drewN | apply Mm.varz)); intro KX; (try simp only [hszA] at KX); (with_reducible refine (ex_own_abs neg' A' n' c' y _ ?_ (by omega)).mono ?_); (with_reducible exact KX.at_ (by simp)); rintro e2 w2 ⟨neg2, A2, n2, c2, rfl, I2, hb2⟩; (with_reducible have K2 := (KX.next hb2).int I2); have hz2 := hb2.size; have hn2 : n2 ≤ 1000000 := Nat.le_trans (int_len I2 hyl.out) (by omega); obtain ⟨qa20, qb20, qc20, qd20, qe20⟩ := (K2.blk (g := w.heap.size) (by repeat constructor)).two; obtain ⟨qa21, qb21, qc21, qd21, qe21⟩ := (K2.blk (g := w.heap.size + 1) (by repeat constructor)).two; obtain ⟨qa22, qb22, qc22, qd22, qe22⟩ := (K2.blk (g := w.heap.size + 1 + 1) (by repeat constructor)).two; (try (have Va2 := K2.blk (g := w0.heap.size) (vs := [.bool false, .slice none 0 0]) ?_; rotate_left; (focus (simp; done)); obtain ⟨_, _, _, _, _⟩ := Va2.two)); (try (have Vb2 := K2.blk (g := w0.heap.size + 1) (vs := [.bool false, .slice none 0 0]) ?_; rotate_left; (focus (simp; done)); obtain ⟨_, _, _, _, _⟩ := Vb2.two)); (try (have Vc2 := K2.blk (g := w1.heap.size) (vs := [.bool false, .slice none 0 0]) ?_; rotate_left; (focus (simp; done)); obtain ⟨_, _, _, _, _⟩ := Vc2.two)); (try (have Vd2 := K2.blk (g := w1.heap.size + 1) (vs := [.bool false, .slice none 0 0]) ?_; rotate_left; (focus (simp; done)); obtain ⟨_, _, _, _, _⟩ := Vd2.two)); obtain ⟨fa200, fb200⟩ := nq (a := w.heap.size) (b := w2.heap.size) (by omega); obtain ⟨fa201, fb201⟩ := nq (a := w.heap.size + 1) (b := w2.heap.size) (by omega); obtain ⟨fa202, fb202⟩ := nq (a := w.heap.size + 1 + 1) (b := w2.heap.size) (by omega); obtain ⟨fa210, fb210⟩ := nq (a := w.heap.size) (b := w2.heap.size + 1) (by omega); obtain ⟨fa211, fb211⟩ := nq (a := w.heap.size + 1) (b := w2.heap.size + 1) (by omega); obtain ⟨fa212, fb212⟩ := nq (a := w.heap.size + 1 + 1) (b := w2.heap.size + 1) (by omega); clear KX I2 hb2))
  all_goals (go_wp2_with fail)
  all_goals go_meet
  all_goals (refine ⟨_, _, rfl, rfl, ?_, ?_, ?_, ?_⟩)
  all_goals (first | (focus (omega; done)) | skip)
  all_goals (unfold CmE)
  all_goals (refine ⟨neg1, neg2, A1, A2, n1, c1, n2, c2, x.natAbs, hn1, hn2, hG, ?_⟩)
  all_goals (first
   | (with_reducible have KE := (((((K2).pick (L' := [(w1.heap.size, [.bool false, .slice none 0 0]), (w1.heap.size + 1, [.bool false, .slice none 0 0]), (w.heap.size + 1 + 1, [.bool false, .slice none 0 0])]) (l' := [(neg1, A1, n1, c1, (x.natAbs : Int)), (neg2, A2, n2, c2, (y.natAbs : Int))]) (by simp) (by simp)).set2 (by simp <;> omega) neg1 A1 n1 c1).pick (L' := [(w1.heap.size + 1, [.bool false, .slice none 0 0]), (w1.heap.size, [.bool neg1, .slice A1 n1 c1]), (w.heap.size + 1 + 1, [.bool false, .slice none 0 0])]) (l' := [(neg1, A1, n1, c1, (x.natAbs : Int)), (neg2, A2, n2, c2, (y.natAbs : Int))]) (by simp) (by simp)).set2 (by simp <;> omega) neg2 A2 n2 c2).pick (L' := [(w1.heap.size, [.bool neg1, .slice A1 n1 c1]), (w1.heap.size + 1, [.bool neg2, .slice A2 n2 c2]), (w.heap.size + 1 + 1, [.bool false, .slice none 0 0])]) (l' := [(neg1, A1, n1, c1, (x.natAbs : Int)), (neg2, A2, n2, c2, (y.natAbs : Int))]) (by simp) (by simp); with_reducible exact KE)
   | (with_reducible have KE := (((((K2).pick (L' := [(w1.heap.size + 1, [.bool false, .slice none 0 0]), (w1.heap.size, [.bool false, .slice none 0 0]), (w.heap.size + 1 + 1, [.bool false, .slice none 0 0])]) (l' := [(neg1, A1, n1, c1, (x.natAbs : Int)), (neg2, A2, n2, c2, (y.natAbs : Int))]) (by simp) (by simp)).set2 (by simp <;> omega) neg1 A1 n1 c1).pick (L' := [(w1.heap.size, [.bool false, .slice none 0 0]), (w1.heap.size + 1, [.bool neg1, .slice A1 n1 c1]), (w.heap.size + 1 + 1, [.bool false, .slice none 0 0])]) (l' := [(neg1, A1, n1, c1, (x.natAbs : Int)), (neg2, A2, n2, c2, (y.natAbs : Int))]) (by simp) (by simp)).set2 (by simp <;> omega) neg2 A2 n2 c2).pick (L' := [(w1.heap.size + 1, [.bool neg1, .slice A1 n1 c1]), (w1.heap.size, [.bool neg2, .slice A2 n2 c2]), (w.heap.size + 1 + 1, [.bool false, .slice none 0 0])]) (l' := [(neg1, A1, n1, c1, (x.natAbs : Int)), (neg2, A2, n2, c2, (y.natAbs : Int))]) (by simp) (by simp); with_reducible exact KE)
   | (with_reducible have KE := (((((K2).pick (L' := [(w0.heap.size, [.bool false, .slice none 0 0]), (w1.heap.size, [.bool false, .slice none 0 0]), (w.heap.size + 1 + 1, [.bool false, .slice none 0 0])]) (l' := [(neg1, A1, n1, c1, (x.natAbs : Int)), (neg2, A2, n2, c2, (y.natAbs : Int))]) (by simp) (by simp)).set2 (by simp <;> omega) neg1 A1 n1 c1).pick (L' := [(w1.heap.size, [.bool false, .slice none 0 0]), (w0.heap.size, [.bool neg1, .slice A1 n1 c1]), (w.heap.size + 1 + 1, [.bool false, .slice none 0 0])]) (l' := [(neg1, A1, n1, c1, (x.natAbs : Int)), (neg2, A2, n2, c2, (y.natAbs : Int))]) (by simp) (by simp)).set2 (by simp <;> omega) neg2 A2 n2 c2).pick (L' := [(w0.heap.size, [.bool neg1, .slice A1 n1 c1]), (w1.heap.size, [.bool neg2, .slice A2 n2 c2]), (w.heap.size + 1 + 1, [.bool false, .slice none 0 0])]) (l' := [(neg1, A1, n1, c1, (x.natAbs : Int)), (neg2, A2, n2, c2, (y.natAbs : Int))]) (by simp) (by simp); with_reducible exact KE)
   | (with_reducible have KE := (((((K2).pick (L' := [(w1.heap.size, [.bool false, .slice none 0 0]), (w0.heap.size, [.bool false, .slice none 0 0]), (w.heap.size + 1 + 1, [.bool false, .slice none 0 0])]) (l' := [(neg1, A1, n1, c1, (x.natAbs : Int)), (neg2, A2, n2, c2, (y.natAbs : Int))]) (by simp) (by simp)).set2 (by simp <;> omega) neg1 A1 n1 c1).pick (L' := [(w0.heap.size, [.bool false, .slice none 0 0]), (w1.heap.size, [.bool neg1, .slice A1 n1 c1]), (w.heap.size + 1 + 1, [.bool false, .slice none 0 0])]) (l' := [(neg1, A1, n1, c1, (x.natAbs : Int)), (neg2, A2, n2, c2, (y.natAbs : Int))]) (by simp) (by simp)).set2 (by simp <;> omega) neg2 A2 n2 c2).pick (L' := [(w1.heap.size, [.bool neg1, .slice A1 n1 c1]), (w0.heap.size, [.bool neg2, .slice A2 n2 c2]), (w.heap.size + 1 + 1, [.bool false, .slice none 0 0])]) (l' := [(neg1, A1, n1, c1, (x.natAbs : Int)), (neg2, A2, n2, c2, (y.natAbs : Int))]) (by simp) (by simp); with_reducible exact KE)
   | (with_reducible have KE := (((((K2).pick (L' := [(w0.heap.size, [.bool false, .slice none 0 0]), (w0.heap.size + 1, [.bool false, .slice none 0 0]), (w.heap.size + 1 + 1, [.bool false, .slice none 0 0])]) (l' := [(neg1, A1, n1, c1, (x.natAbs : Int)), (neg2, A2, n2, c2, (y.natAbs : Int))]) (by simp) (by simp)).set2 (by simp <;> omega) neg1 A1 n1 c1).pick (L' := [(w0.heap.size + 1, [.bool false, .slice none 0 0]), (w0.heap.size, [.bool neg1, .slice A1 n1 c1]), (w.heap.size + 1 + 1, [.bool false, .slice none 0 0])]) (l' := [(neg1, A1, n1, c1, (x.natAbs : Int)), (neg2, A2, n2, c2, (y.natAbs : Int))]) (by simp) (by simp)).set2 (by simp <;> omega) neg2 A2 n2 c2).pick (L' := [(w0.heap.size, [.bool neg1, .slice A1 n1 c1]), (w0.heap.size + 1, [.bool neg2, .slice A2 n2 c2]), (w.heap.size + 1 + 1, [.bool false, .slice none 0 0])]) (l' := [(neg1, A1, n1, c1, (x.natAbs : Int)), (neg2, A2, n2, c2, (y.natAbs : Int))]) (by simp) (by simp); with_reducible exact KE)
   | (with_reducible have KE := (((((K2).pick (L' := [(w0.heap.size + 1, [.bool false, .slice none 0 0]), (w0.heap.size, [.bool false, .slice none 0 0]), (w.heap.size + 1 + 1, [.bool false, .slice none 0 0])]) (l' := [(neg1, A1, n1, c1, (x.natAbs : Int)), (neg2, A2, n2, c2, (y.natAbs : Int))]) (by simp) (by simp)).set2 (by simp <;> omega) neg1 A1 n1 c1).pick (L' := [(w0.heap.size, [.bool false, .slice none 0 0]), (w0.heap.size + 1, [.bool neg1, .slice A1 n1 c1]), (w.heap.size + 1 + 1, [.bool false, .slice none 0 0])]) (l' := [(neg1, A1, n1, c1, (x.natAbs : Int)), (neg2, A2, n2, c2, (y.natAbs : Int))]) (by simp) (by simp)).set2 (by simp <;> omega) neg2 A2 n2 c2).pick (L' := [(w0.heap.size + 1, [.bool neg1, .slice A1 n1 c1]), (w0.heap.size, [.bool neg2, .slice A2 n2 c2]), (w.heap.size + 1 + 1, [.bool false, .slice none 0 0])]) (l' := [(neg1, A1, n1, c1, (x.natAbs : Int)), (neg2, A2, n2, c2, (y.natAbs : Int))]) (by simp) (by simp); with_reducible exact KE)
   | (with_reducible have KE := ((((K2).pick (L' := [(w0.heap.size, [.bool false, .slice none 0 0]), (w.heap.size + 1 + 1, [.bool false, .slice none 0 0])]) (l' := [(neg1, A1, n1, c1, (x.natAbs : Int)), (neg2, A2, n2, c2, (y.natAbs : Int))]) (by simp) (by simp)).set2 (by simp <;> omega) neg1 A1 n1 c1).var (g := w2.heap.size) (by simp [World.setCell]) [.bool neg2, .slice A2 n2 c2] 24).pick (L' := [(w0.heap.size, [.bool neg1, .slice A1 n1 c1]), (w2.heap.size, [.bool neg2, .slice A2 n2 c2]), (w.heap.size + 1 + 1, [.bool false, .slice none 0 0])]) (l' := [(neg1, A1, n1, c1, (x.natAbs : Int)), (neg2, A2, n2, c2, (y.natAbs : Int))]) (by simp) (by simp); with_reducible exact KE)
   | (with_reducible have KE := ((((K2).pick (L' := [(w0.heap.size, [.bool false, .slice none 0 0]), (w.heap.size + 1 + 1, [.bool false, .slice none 0 0])]) (l' := [(neg1, A1, n1, c1, (x.natAbs : Int)), (neg2, A2, n2, c2, (y.natAbs : Int))]) (by simp) (by simp)).set2 (by simp <;> omega) neg2 A2 n2 c2).var (g := w2.heap.size) (by simp [World.setCell]) [.bool neg1, .slice A1 n1 c1] 24).pick (L' := [(w2.heap.size, [.bool neg1, .slice A1 n1 c1]), (w0.heap.size, [.bool neg2, .slice A2 n2 c2]), (w.heap.size + 1 + 1, [.bool false, .slice none 0 0])]) (l' := [(neg1, A1, n1, c1, (x.natAbs : Int)), (neg2, A2, n2, c2, (y.natAbs : Int))]) (by simp) (by simp); with_reducible exact KE)
   | (with_reducible have KE := ((((K2).pick (L' := [(w1.heap.size, [.bool false, .slice none 0 0]), (w.heap.size + 1 + 1, [.bool false, .slice none 0 0])]) (l' := [(neg1, A1, n1, c1, (x.natAbs : Int)), (neg2, A2, n2, c2, (y.natAbs : Int))]) (by simp) (by simp)).set2 (by simp <;> omega) neg1 A1 n1 c1).var (g := w2.heap.size) (by simp [World.setCell]) [.bool neg2, .slice A2 n2 c2] 24).pick (L' := [(w1.heap.size, [.bool neg1, .slice A1 n1 c1]), (w2.heap.size, [.bool neg2, .slice A2 n2 c2]), (w.heap.size + 1 + 1, [.bool false, .slice none 0 0])]) (l' := [(neg1, A1, n1, c1, (x.natAbs : Int)), (neg2, A2, n2, c2, (y.natAbs : Int))]) (by simp) (by simp); with_reducible exact KE)
   | (with_reducible have KE := ((((K2).pick (L' := [(w1.heap.size, [.bool false, .slice none 0 0]), (w.heap.size + 1 + 1, [.bool false, .slice none 0 0])]) (l' := [(neg1, A1, n1, c1, (x.natAbs : Int)), (neg2, A2, n2, c2, (y.natAbs : Int))]) (by simp) (by simp)).set2 (by simp <;> omega) neg2 A2 n2 c2).var (g := w2.heap.size) (by simp [World.setCell]) [.bool neg1, .slice A1 n1 c1] 24).pick (L' := [(w2.heap.size, [.bool neg1, .slice A1 n1 c1]), (w1.heap.size, [.bool neg2, .slice A2 n2 c2]), (w.heap.size + 1 + 1, [.bool false, .slice none 0 0])]) (l' := [(neg1, A1, n1, c1, (x.natAbs : Int)), (neg2, A2, n2, c2, (y.natAbs : Int))]) (by simp) (by simp); with_reducible exact KE)
   | (with_reducible have KE := ((((K2).pick (L' := [(w.heap.size + 1 + 1, [.bool false, .slice none 0 0])]) (l' := [(neg1, A1, n1, c1, (x.natAbs : Int)), (neg2, A2, n2, c2, (y.natAbs : Int))]) (by simp) (by simp)).var (g := w2.heap.size) rfl [.bool neg1, .slice A1 n1 c1] 24).var (g := w2.heap.size + 1) (by simp) [.bool neg2, .slice A2 n2 c2] 24).pick (L' := [(w2.heap.size, [.bool neg1, .slice A1 n1 c1]), (w2.heap.size + 1, [.bool neg2, .slice A2 n2 c2]), (w.heap.size + 1 + 1, [.bool false, .slice none 0 0])]) (l' := [(neg1, A1, n1, c1, (x.natAbs : Int)), (neg2, A2, n2, c2, (y.natAbs : Int))]) (by simp) (by simp); with_reducible exact KE)
   | (with_reducible have KE := ((((K2).pick (L' := [(w.heap.size + 1 + 1, [.bool false, .slice none 0 0])]) (l' := [(neg1, A1, n1, c1, (x.natAbs : Int)), (neg2, A2, n2, c2, (y.natAbs : Int))]) (by simp) (by simp)).var (g := w2.heap.size) rfl [.bool neg2, .slice A2 n2 c2] 24).var (g := w2.heap.size + 1) (by simp) [.bool neg1, .slice A1 n1 c1] 24).pick (L' := [(w2.heap.size + 1, [.bool neg1, .slice A1 n1 c1]), (w2.heap.size, [.bool neg2, .slice A2 n2 c2]), (w.heap.size + 1 + 1, [.bool false, .slice none 0 0])]) (l' := [(neg1, A1, n1, c1, (x.natAbs : Int)), (neg2, A2, n2, c2, (y.natAbs : Int))]) (by simp) (by simp); with_reducible exact KE))
 case rest =>
  obtain ⟨g5, g6, rfl, rfl, hg5, hg6, hg56, KC⟩ := hcut
  clear K0 hxl hyl hG
  have hne0 : ¬ g5 = g6 := by omega
  have hne1 : ¬ g6 = g5 := by omega
  have hne2 : ¬ g5 = w.heap.size + 1 + 1 := by omega
  have hne3 : ¬ w.heap.size + 1 + 1 = g5 := by omega
  have hne4 : ¬ g6 = w.heap.size + 1 + 1 := by omega
  have hne5 : ¬ w.heap.size + 1 + 1 = g6 := by omega
  go_wp2_with fail
  go_loopg [7] y.natAbs (fun m s7 wr => CmE w g5 g6 G m wr)
  case atStart => exact KC
  case round =>
   clear KC
   obtain ⟨neg1, neg2, A1, A2, n1, c1, n2, c2, a, hn1, hn2, HG, K1⟩ := hrel
   obtain ⟨b, rfl⟩ : ∃ b, b = gk := ⟨_, rfl⟩
   have hI : IsInt wr neg2 A2 n2 c2 (b : Int) := K1.at_ (by simp)
   have hsz : n2 = 0 ↔ (b : Int) = 0 := isInt_zero hI
   obtain ⟨qa10, qb10, qc10, qd10, qe10⟩ := (K1.blk (g := g5) (by repeat constructor)).two
   obtain ⟨qa11, qb11, qc11, qd11, qe11⟩ := (K1.blk (g := g6) (by repeat constructor)).two
   obtain ⟨qa12, qb12, qc12, qd12, qe12⟩ := (K1.blk (g := w.heap.size + 1 + 1) (by repeat constructor)).two
   by_cases hb0 : b = 0
   ·subst hb0
    obtain rfl : n2 = 0 := hsz.2 rfl
    have hga : a = G := by have := HG.out; rwa [Nat.gcd_zero_right] at this
    subst hga
    go_wp2_with fail
    have KE := (K1.pick (L' := [(w.heap.size + 1 + 1, [.bool false, .slice none 0 0])]) (l' := [(neg1, A1, n1, c1, (a : Int))]) (by simp) (by simp)).set2 (by simp) neg1 A1 n1 c1
    exact bodyPost_ret (v := .agg #[.bool neg1, .slice A1 n1 c1]) (by simp [results, Tryz.results329, go_sem, qa12, qb12]) rfl ⟨neg1, A1, n1, c1, rfl, KE.at_ (by simp), KE.1⟩
   ·have hn20 : (0 : Int) < (n2 : Int) := by have : n2 ≠ 0 := fun h => hb0 (by have := hsz.1 h; omega); omega
    have HB0 := Lib.hid hb0
    have HBL : Hid (((a : Int).tmod (b : Int)).natAbs < 2 ^ (32 * n2)) := Lib.hid (by
     have h := (lv_of_int hI).lt
     rw [Int.natAbs_natCast] at h
     have h2 : ((a : Int).tmod (b : Int)).natAbs = a % b := by rw [← Int.ofNat_tmod, Int.natAbs_natCast]
     rw [h2]
     exact Nat.lt_trans (Nat.mod_lt _ (Nat.pos_of_ne_zero hb0)) h)
    clear hb0 hsz hI
    go_wp2_with fail
    refine (ex_Divide_any neg1 neg2 A1 A2 n1 c1 n2 c2 (a : Int) (b : Int) _ (K1.at_ (by simp)) (K1.at_ (by simp)) (by omega) (by omega) (by have := HB0.out; omega)).mono ?_
    rintro e2 w2 ⟨nq, Aq, mq, dq, nr, Ar, mr, dr, rfl, IQ, IR, hb2⟩
    have hmr : mr ≤ 1000000 := Nat.le_trans (int_len IR HBL.out) hn2
    rw [← Int.ofNat_tmod] at IR
    have K2 := (K1.next hb2).int IR
    clear K1 IQ IR hb2
    obtain ⟨qa20, qb20, qc20, qd20, qe20⟩ := (K2.blk (g := g5) (by repeat constructor)).two
    obtain ⟨qa21, qb21, qc21, qd21, qe21⟩ := (K2.blk (g := g6) (by repeat constructor)).two
    obtain ⟨qa22, qb22, qc22, qd22, qe22⟩ := (K2.blk (g := w.heap.size + 1 + 1) (by repeat constructor)).two
    go_wp2_with fail
    have K3 := (K2.var (g := w2.heap.size) rfl [.bool nq, .slice Aq mq dq] 24).var (g := w2.heap.size + 1) (by simp) [.bool nr, .slice Ar mr dr] 24
    generalize (w2.alloc (.cells #[.bool nq, .slice Aq mq dq] 24)).alloc (.cells #[.bool nr, .slice Ar mr dr] 24) = w3 at K3 ⊢
    have hz5 : ¬ g5 = w2.heap.size + 1 := by omega
    have hz6 : ¬ g6 = w2.heap.size + 1 := by omega
    have hz7 : ¬ w2.heap.size + 1 = g5 := by omega
    have hz8 : ¬ w2.heap.size + 1 = g6 := by omega
    obtain ⟨g8, hg8⟩ : ∃ g8, w2.heap.size + 1 = g8 := ⟨_, rfl⟩
    rw [hg8] at K3 hz5 hz6 hz7 hz8 ⊢
    have K3 := K3.pick (L' := [(g5, [.bool neg1, .slice A1 n1 c1]), (g6, [.bool neg2, .slice A2 n2 c2]), (w.heap.size + 1 + 1, [.bool false, .slice none 0 0]), (g8, [.bool nr, .slice Ar mr dr])]) (l' := [(neg2, A2, n2, c2, (b : Int)), (nr, Ar, mr, dr, ((a % b : Nat) : Int))]) (by simp) (by simp)
    clear K2 hg8
    obtain ⟨_, _, _, _, _⟩ := (K3.blk (g := g5) (by repeat constructor)).two
    obtain ⟨_, _, _, _, _⟩ := (K3.blk (g := g6) (by repeat constructor)).two
    obtain ⟨_, _, _, _, _⟩ := (K3.blk (g := w.heap.size + 1 + 1) (by repeat constructor)).two
    obtain ⟨_, _, _, _, _⟩ := (K3.blk (g := g8) (by repeat constructor)).two
    go_region
    go_wp2_with fail
    go_roundg (a % b)
    case rel =>
     have KE := K3.set2 (by simp <;> omega) neg2 A2 n2 c2
     have KF := (KE.pick (L' := [(g6, [.bool neg2, .slice A2 n2 c2]), (g5, [.bool neg2, .slice A2 n2 c2]), (w.heap.size + 1 + 1, [.bool false, .slice none 0 0])]) (by simp) (fun p h => h)).set2 (by simp <;> omega) nr Ar mr dr
     exact ⟨neg2, nr, A2, Ar, n2, c2, mr, dr, b, hn2, hmr, Lib.hid (by rw [Nat.gcd_comm, ← Nat.gcd_rec, Nat.gcd_comm]; exact HG.out), (KF.pick (by simp) (by simp)).drew⟩
    case measure => exact Nat.mod_lt _ (Nat.pos_of_ne_zero HB0.out)
end Go.Proofs.YtgekmbfmfiikkaaGreatDoor

namespace Go.Proofs.YtgekmbfmfiikkaaGreatDoor
open Go.RowKit

theorem ex_cmp_of (neg neg' : Bool) (A A' : Option Addr) (n c n' c' : Nat) (x y v : Int) (w : World) (hx : IsInt w neg A n c x) (hy : IsInt w neg' A' n' c' y) (hn : n ≤ 1000000000) (hn' : n' ≤ 1000000000) (hv : Hid (icmp x y = v)) :
  Calls Tryz.prog 220 #[.agg #[.bool neg, .slice A n c], .agg #[.bool neg', .slice A' n' c']] w (RetV w (.int .i64 v)) := by
 have h := ex_cmp_int neg neg' A A' n c n' c' x y w hx hy hn hn'
 rwa [hv.out] at h
theorem ex_sign_of (neg : Bool) (A : Option Addr) (n c : Nat) (z v : Int) (w : World) (h : IsInt w neg A n c z) (hv : Hid (z.sign = v)) :
  Calls Tryz.prog 174 #[.agg #[.bool neg, .slice A n c]] w (RetV w (.int .i64 v)) := by
 have k := ex_sign_any neg A n c z w h
 rwa [hv.out] at k

end Go.Proofs.YtgekmbfmfiikkaaGreatDoor
