/-
  The program's whole numbers (package exact): quotients with what is left (Divide).
  Whole numbers in memory of their own: quotients with what is left (Divide).
-/
import Derived.Test.YtgekmbfmfiikkaaGreatDoorExR
import Derived.Test.YtgekmbfmfiikkaaGreatDoorRefW
import Derived.Test.YtgekmbfmfiikkaaGreatDoorExD
import Derived.Test.YtgekmbfmfiikkaaGreatDoorOwE
import Derived.Test.YtgekmbfmfiikkaaGreatDoorEyB
import Derived.Deep.LoopGhost
set_option maxHeartbeats 3200000
set_option maxRecDepth 100000
namespace Go.Proofs.YtgekmbfmfiikkaaGreatDoor
open Go.RowKit
theorem Mm.grown {w wr w' : World} {L : List (Nat × List Value)} {g : Nat} (h : Mm w L [] wr) (hg : wr.grownBy w' (some g)) (h0 : w.heap.size ≤ g) (hne : ∀ b ∈ L, b.1 ≠ g) : Mm w L [] w' := by
 refine ⟨h.1.grown hg h.1.size (fun k e => by injection e with e; subst e; exact h0), fun b hb => ⟨(h.2.1 b hb).1, ?_⟩, fun p hp => absurd hp (by simp)⟩
 have hB := (h.2.1 b hb).2
 have e := hg.block b.1 hB.1 (fun e => hne b hb (by simpa using e))
 refine ⟨Nat.lt_of_lt_of_le hB.1 hg.size, fun k v hk => ⟨?_, ?_⟩⟩
 ·exact (World.cell?_of_block (w := wr) (w' := w') (a := ⟨b.1, k, none⟩) e).trans (hB.2 k v hk).1
 ·have h2 := (hB.2 k v hk).2
  unfold World.frozen? at h2 ⊢
  rw [e]
  exact h2
theorem sl_one {w : World} {A : Option Addr} {c d : Nat} (h : Sl w A 1 c [d]) : ∃ ad, A = some ad ∧ w.cell? ad = some (.int .u32 (d : Int)) ∧ d < 4294967296 := by
 obtain ⟨ad, rfl, _, _, hc, hx⟩ := h.at_ (k := 0) (by omega)
 have hadd : ad.add 0 = ad := by unfold Addr.add; simp
 rw [hadd] at hc
 exact ⟨ad, rfl, hc, hx⟩
end Go.Proofs.YtgekmbfmfiikkaaGreatDoor
namespace Go.Proofs.YtgekmbfmfiikkaaGreatDoor
open Go.RowKit
theorem len_of_le {w w' : World} {A A' : Option Addr} {n c n' c' : Nat} {a b : List Nat} (ha : Sl w A n c a) (hb : Sl w' A' n' c' b) (cb : Lm.canon b) (h : Lm.lv b ≤ Lm.lv a) : n' ≤ n := by
 by_cases hb0 : b = []
 ·subst hb0
  have := hb.len
  simp at this
  omega
 ·have h1 := Lm.lv_lt ha.ok
  have h2 : IsInt w' false A' n' c' (Lm.lv b : Int) := ⟨b, hb, cb, fun e => absurd e hb0, rfl⟩
  refine isInt_len_le h2 ?_
  rw [Int.natAbs_natCast, ← ha.len]
  omega
theorem owns_nil1 {B : Nat} {w : World} {q : OwnAt} (h : Owns B w [q]) : Owns B w [(none, 0, 0), q] := Owns.two (OwnR.nil _ _) h.head (fun g hg => by cases hg)
theorem Mo.grown {B : Nat} {w wr w' : World} {L : List (Nat × List Value)} {g : Nat} (h : Mo B w L [] [] wr) (hg : wr.grownBy w' (some g)) (h0 : w.heap.size ≤ g) (hne : ∀ b ∈ L, b.1 ≠ g) : Mo B w L [] [] w' :=
 ⟨(h.mm.grown hg h0 hne).1, (h.mm.grown hg h0 hne).2.1, (h.mm.grown hg h0 hne).2.2, Owns.nil _ _, fun _ hq => absurd hq (by simp), h.2.2.2.2.2⟩
theorem Mo.lay {B B1 : Nat} {w wr : World} {L : List (Nat × List Value)} {l : List IntAt} (h : Mo B w L l [] wr) (hB : w.heap.size ≤ B1) (hL : ∀ b ∈ L, b.1 < B1) {q : OwnAt} (O : OwnR B1 wr q) : Mo B w L l [q] wr :=
 ⟨h.1, h.2.1, h.2.2.1, Owns.one (O.base fun g hg => by have := (O.lt hg).1; have := h.2.2.2.2.2; omega), fun p hp b hb e => by
  rw [List.mem_singleton] at hp
  subst hp
  have := (O.lt e).1
  have := hL b hb
  omega, h.2.2.2.2.2⟩
theorem Mo.lit {B : Nat} {w wr : World} {L : List (Nat × List Value)} {l : List IntAt} {o : List OwnAt} (h : Mo B w L l o wr) {g : Nat} (had : wr.heap.size = g) (v : Value) : Mo B w L l ((some ⟨g, 0, none⟩, 1, 1) :: o) (wr.alloc (.cells #[v] 164)) := by
 subst had
 refine h.call1 ((Below.refl _ _).alloc (Nat.le_refl _) _) (Owns.one ⟨_, World.ownsRow_lit (base := wr.heap.size) (size := 1) (e := 164) wr #[v] 1 (Nat.le_refl _) (by decide) rfl⟩)
theorem ow_Divide_low (neg neg' : Bool) (A A' : Option Addr) (n c n' c' : Nat) (a b : List Nat) (w : World) (ha : Sl w A n c a) (hb : Sl w A' n' c' b) (ca : Lm.canon a) (cb : Lm.canon b) (hn : n ≤ 1000000000) (hn' : n' ≤ 1000000000) (hlt : Lm.lv a < Lm.lv b) :
  Calls Tryz.prog 217 #[.agg #[.bool neg, .slice A n c], .agg #[.bool neg', .slice A' n' c']] w (RetTwoO w 0 (sgnd neg (Lm.lv a))) := by
 have K0 := ((((Mo.nil w).var (g := w.heap.size) rfl [.bool neg, .slice A n c] 24).var (g := w.heap.size + 1) (by simp) [.bool neg', .slice A' n' c'] 24).var (g := w.heap.size + 1 + 1) (by simp) [.bool false, .slice none 0 0] 24).var (g := w.heap.size + 1 + 1 + 1) (by simp) [.bool false, .slice none 0 0] 24
 have ha4 := ((((ha.alloc (.cells #[.bool neg, .slice A n c] 24)).alloc (.cells #[.bool neg', .slice A' n' c'] 24)).alloc (.cells #[.bool false, .slice none 0 0] 24)).alloc (.cells #[.bool false, .slice none 0 0] 24))
 have hb4 := ((((hb.alloc (.cells #[.bool neg, .slice A n c] 24)).alloc (.cells #[.bool neg', .slice A' n' c'] 24)).alloc (.cells #[.bool false, .slice none 0 0] 24)).alloc (.cells #[.bool false, .slice none 0 0] 24))
 go_enter Tryz.func217, Tryz.ntmps217
 go_wp2_with fail
 refine (ex_size_any A A' n c n' c' a b _ ha4 hb4 ca cb hn hn').mono ?_
 rintro e1 w1 ⟨v, rfl, hv1, hv2, hv3, hv4, k1, rfl⟩
 have hv : v < 0 := hv1.2 hlt
 have K1 := K0.drewN k1
 have ha5 := ha4.drewN k1
 generalize ((((w.alloc (.cells #[.bool neg, .slice A n c] 24)).alloc (.cells #[.bool neg', .slice A' n' c'] 24)).alloc (.cells #[.bool false, .slice none 0 0] 24)).alloc (.cells #[.bool false, .slice none 0 0] 24)).drewN k1 = w1 at K1 ha5 ⊢
 clear K0 ha4 hb4 hv1 hv2 hv3 hv4 ha hb
 obtain ⟨_, _, _, _, _⟩ := (K1.blk (g := w.heap.size) (by repeat constructor)).two
 obtain ⟨_, _, _, _, _⟩ := (K1.blk (g := w.heap.size + 1) (by repeat constructor)).two
 obtain ⟨_, _, _, _, _⟩ := (K1.blk (g := w.heap.size + 1 + 1) (by repeat constructor)).two
 obtain ⟨_, _, _, _, _⟩ := (K1.blk (g := w.heap.size + 1 + 1 + 1) (by repeat constructor)).two
 go_wp2_with fail
 refine (ow_own_any neg A n c a _ ha5 hn).mono ?_
 rintro e2 w2 ⟨neg2, A2, n2, c2, rfl, I2, O2, hb2⟩
 have K2 := ((K1.call2 hb2 (owns_nil1 O2)).int I2).int (neg := false) (A := none) (n := 0) (c := 0) (z := 0) isInt_nought
 clear K1 ha5 hb2 I2
 obtain ⟨_, _, _, _, _⟩ := (K2.blk (g := w.heap.size) (by repeat constructor)).two
 obtain ⟨_, _, _, _, _⟩ := (K2.blk (g := w.heap.size + 1) (by repeat constructor)).two
 obtain ⟨qar2, qbr2, _, _, _⟩ := (K2.blk (g := w.heap.size + 1 + 1) (by repeat constructor)).two
 obtain ⟨qar3, qbr3, _, _, _⟩ := (K2.blk (g := w.heap.size + 1 + 1 + 1) (by repeat constructor)).two
 have ne01 : ¬ w.heap.size = w.heap.size + 1 := by omega
 have ne02 : ¬ w.heap.size = w.heap.size + 1 + 1 := by omega
 have ne03 : ¬ w.heap.size = w.heap.size + 1 + 1 + 1 := by omega
 have ne10 : ¬ w.heap.size + 1 = w.heap.size := by omega
 have ne12 : ¬ w.heap.size + 1 = w.heap.size + 1 + 1 := by omega
 have ne13 : ¬ w.heap.size + 1 = w.heap.size + 1 + 1 + 1 := by omega
 have ne20 : ¬ w.heap.size + 1 + 1 = w.heap.size := by omega
 have ne21 : ¬ w.heap.size + 1 + 1 = w.heap.size + 1 := by omega
 have ne23 : ¬ w.heap.size + 1 + 1 = w.heap.size + 1 + 1 + 1 := by omega
 have ne30 : ¬ w.heap.size + 1 + 1 + 1 = w.heap.size := by omega
 have ne31 : ¬ w.heap.size + 1 + 1 + 1 = w.heap.size + 1 := by omega
 have ne32 : ¬ w.heap.size + 1 + 1 + 1 = w.heap.size + 1 + 1 := by omega
 go_wp2_with fail
 have KA := (K2.pick (L' := [(w.heap.size + 1 + 1, [.bool false, .slice none 0 0]), (w.heap.size + 1 + 1 + 1, [.bool false, .slice none 0 0])]) (l' := [(neg2, A2, n2, c2, sgnd neg (Lm.lv a)), (false, none, 0, 0, 0)]) (by simp) (by simp)).set2 (by simp <;> omega) false none 0 0
 have KB := (KA.pick (L' := [(w.heap.size + 1 + 1 + 1, [.bool false, .slice none 0 0])]) (l' := [(neg2, A2, n2, c2, sgnd neg (Lm.lv a)), (false, none, 0, 0, 0)]) (by simp) (by simp)).set2 (by simp <;> omega) neg2 A2 n2 c2
 exact bodyPost_ret (v := .tuple #[.agg #[.bool false, .slice none 0 0], .agg #[.bool neg2, .slice A2 n2 c2]]) (by simp [results, Tryz.results217, go_sem, qar2, qbr2, qar3, qbr3]) rfl
  ⟨_, _, _, _, _, _, _, _, rfl, KB.at_ (by simp), KB.at_ (by simp), KB.own2 0 1 rfl rfl (by decide), KB.1⟩
theorem ow_Divide_long (neg neg' : Bool) (A A' : Option Addr) (n c m c' : Nat) (a b : List Nat) (w : World) (ha : Sl w A n c a) (hb : Sl w A' (m + 2) c' b) (ca : Lm.canon a) (cb : Lm.canon b) (hn : n ≤ 100000000) (hm : m + 2 ≤ n) (hge : Lm.lv b ≤ Lm.lv a) :
  Calls Tryz.prog 217 #[.agg #[.bool neg, .slice A n c], .agg #[.bool neg', .slice A' (m + 2) c']] w (RetTwoO w (sgnd (neg != neg') (Lm.lv a / Lm.lv b)) (sgnd neg (Lm.lv a % Lm.lv b))) := by
 obtain ⟨n', hn'⟩ : ∃ n', m + 2 = n' := ⟨_, rfl⟩
 have HN := Lib.hid hn'
 rw [hn'] at hb ⊢
 have h1 : ((n' : Int) == 1) = false := by rw [beq_eq_false_iff_ne]; omega
 clear hn'
 have hx := Lib.hid hge
 clear hge
 have K0 := ((((Mo.nil w).var (g := w.heap.size) rfl [.bool neg, .slice A n c] 24).var (g := w.heap.size + 1) (by simp) [.bool neg', .slice A' n' c'] 24).var (g := w.heap.size + 1 + 1) (by simp) [.bool false, .slice none 0 0] 24).var (g := w.heap.size + 1 + 1 + 1) (by simp) [.bool false, .slice none 0 0] 24
 have ha4 := ((((ha.alloc (.cells #[.bool neg, .slice A n c] 24)).alloc (.cells #[.bool neg', .slice A' n' c'] 24)).alloc (.cells #[.bool false, .slice none 0 0] 24)).alloc (.cells #[.bool false, .slice none 0 0] 24))
 have hb4 := ((((hb.alloc (.cells #[.bool neg, .slice A n c] 24)).alloc (.cells #[.bool neg', .slice A' n' c'] 24)).alloc (.cells #[.bool false, .slice none 0 0] 24)).alloc (.cells #[.bool false, .slice none 0 0] 24))
 go_enter Tryz.func217, Tryz.ntmps217
 go_wp2_with fail
 refine (ex_size_any A A' n c n' c' a b _ ha4 hb4 ca cb (by omega) (by have := HN.out; omega)).mono ?_
 rintro e1 w1 ⟨v, rfl, hv1, hv2, hv3, hv4, k1, rfl⟩
 have hv : decide (v < 0) = false := decide_eq_false (fun h => absurd (hv1.1 h) (Nat.not_lt.2 hx.out))
 have K1 := K0.drewN k1
 have ha5 := ha4.drewN k1
 have hb5 := hb4.drewN k1
 generalize ((((w.alloc (.cells #[.bool neg, .slice A n c] 24)).alloc (.cells #[.bool neg', .slice A' n' c'] 24)).alloc (.cells #[.bool false, .slice none 0 0] 24)).alloc (.cells #[.bool false, .slice none 0 0] 24)).drewN k1 = w1 at K1 ha5 hb5 ⊢
 clear K0 ha4 hb4 hv1 hv2 hv3 hv4 ha hb
 obtain ⟨_, _, _, _, _⟩ := (K1.blk (g := w.heap.size) (by repeat constructor)).two
 obtain ⟨_, _, _, _, _⟩ := (K1.blk (g := w.heap.size + 1) (by repeat constructor)).two
 obtain ⟨_, _, _, _, _⟩ := (K1.blk (g := w.heap.size + 1 + 1) (by repeat constructor)).two
 obtain ⟨_, _, _, _, _⟩ := (K1.blk (g := w.heap.size + 1 + 1 + 1) (by repeat constructor)).two
 go_wp2_with fail
 refine (show Calls Tryz.prog 274 #[.slice A n c, .slice A' n' c'] w1 (RetQrO w1 a b) from by
  have hb6 := hb5
  rw [← HN.out] at hb6 ⊢
  exact ow_divide_any A A' n c m c' a b _ ha5 hb6 cb hn hm).mono ?_
 rintro e2 w2 ⟨A1, n1, c1, q, A2, n2, c2, r, rfl, hS1, hS2, hP1, hP2, hn1, hn2, O2, hb2⟩
 have K2 := K1.call2 hb2 O2
 have HP := Lib.hid (And.intro hP1 hP2)
 clear K1 ha5 hb5 hb2 hP1 hP2
 obtain ⟨_, _, _, _, _⟩ := (K2.blk (g := w.heap.size) (by repeat constructor)).two
 obtain ⟨_, _, _, _, _⟩ := (K2.blk (g := w.heap.size + 1) (by repeat constructor)).two
 obtain ⟨_, _, _, _, _⟩ := (K2.blk (g := w.heap.size + 1 + 1) (by repeat constructor)).two
 obtain ⟨_, _, _, _, _⟩ := (K2.blk (g := w.heap.size + 1 + 1 + 1) (by repeat constructor)).two
 have ne01 : ¬ w.heap.size = w.heap.size + 1 := by omega
 have ne02 : ¬ w.heap.size = w.heap.size + 1 + 1 := by omega
 have ne03 : ¬ w.heap.size = w.heap.size + 1 + 1 + 1 := by omega
 have ne10 : ¬ w.heap.size + 1 = w.heap.size := by omega
 have ne12 : ¬ w.heap.size + 1 = w.heap.size + 1 + 1 := by omega
 have ne13 : ¬ w.heap.size + 1 = w.heap.size + 1 + 1 + 1 := by omega
 have ne20 : ¬ w.heap.size + 1 + 1 = w.heap.size := by omega
 have ne21 : ¬ w.heap.size + 1 + 1 = w.heap.size + 1 := by omega
 have ne23 : ¬ w.heap.size + 1 + 1 = w.heap.size + 1 + 1 + 1 := by omega
 have ne30 : ¬ w.heap.size + 1 + 1 + 1 = w.heap.size := by omega
 have ne31 : ¬ w.heap.size + 1 + 1 + 1 = w.heap.size + 1 := by omega
 have ne32 : ¬ w.heap.size + 1 + 1 + 1 = w.heap.size + 1 + 1 := by omega
 go_wp2_with fail
 go_region_held3 (fun w' => w'.cell? ⟨w.heap.size, 0, none⟩ = some (.bool neg) ∧ w'.cell? ⟨w.heap.size + 1, 0, none⟩ = some (.bool neg'))
  (go_keep)
  (first
   | (go_at_call 267; (with_reducible refine (ow_signed_any (!(neg == neg')) A1 n1 c1 q _ ?_ (by omega)).mono ?_); (first | (with_reducible exact hS1.drewN _) | (with_reducible exact hS1.drew) | (with_reducible exact hS1)); rintro e3 w3 ⟨neg3, B3, m3, d3, rfl, I3, C3, hb3⟩; (first | (with_reducible have K3 := ((((K2.drewN _).next hb3).cut C3).int I3)) | (with_reducible have K3 := (((K2.drew.next hb3).cut C3).int I3)) | (with_reducible have K3 := (((K2.next hb3).cut C3).int I3))); (first | (with_reducible have hS3 := (hS2.drewN _).below hb3) | (with_reducible have hS3 := hS2.drew.below hb3) | (with_reducible have hS3 := hS2.below hb3)); obtain ⟨_, _, _, _, _⟩ := (K3.blk (g := w.heap.size) (by repeat constructor)).two; obtain ⟨_, _, _, _, _⟩ := (K3.blk (g := w.heap.size + 1) (by repeat constructor)).two; obtain ⟨_, _, _, _, _⟩ := (K3.blk (g := w.heap.size + 1 + 1) (by repeat constructor)).two; obtain ⟨_, _, _, _, _⟩ := (K3.blk (g := w.heap.size + 1 + 1 + 1) (by repeat constructor)).two; clear I3 hb3)
   | (go_at_call 267; (with_reducible refine (ow_signed_any neg A2 n2 c2 r _ ?_ (by omega)).mono ?_); (first | (with_reducible exact hS3.drewN _) | (with_reducible exact hS3.drew) | (with_reducible exact hS3)); rintro e4 w4 ⟨neg4, B4, m4, d4, rfl, I4, C4, hb4⟩; (first | (with_reducible have K4 := (((((K3.drewN _).next hb4).swap).cut C4).int I4)) | (with_reducible have K4 := ((((K3.drew.next hb4).swap).cut C4).int I4)) | (with_reducible have K4 := ((((K3.next hb4).swap).cut C4).int I4))); obtain ⟨_, _, _, _, _⟩ := (K4.blk (g := w.heap.size) (by repeat constructor)).two; obtain ⟨_, _, _, _, _⟩ := (K4.blk (g := w.heap.size + 1) (by repeat constructor)).two; obtain ⟨qaz42, qbz42, _, _, _⟩ := (K4.blk (g := w.heap.size + 1 + 1) (by repeat constructor)).two; obtain ⟨qaz43, qbz43, _, _, _⟩ := (K4.blk (g := w.heap.size + 1 + 1 + 1) (by repeat constructor)).two; clear I4 hb4))
 go_wp2_with fail
 have hpos : 0 < Lm.lv b := Nat.lt_of_le_of_lt (Nat.zero_le _) HP.out.2
 have hq : Lm.lv q = Lm.lv a / Lm.lv b := by
  rw [HP.out.1, Nat.mul_add_div hpos, Nat.div_eq_of_lt HP.out.2, Nat.add_zero]
 have hr : Lm.lv r = Lm.lv a % Lm.lv b := by
  rw [HP.out.1, Nat.mul_add_mod, Nat.mod_eq_of_lt HP.out.2]
 have KA := (K4.pick (L' := [(w.heap.size + 1 + 1, [.bool false, .slice none 0 0]), (w.heap.size + 1 + 1 + 1, [.bool false, .slice none 0 0])]) (l' := [(neg3, B3, m3, d3, sgnd (!(neg == neg')) (Lm.lv q)), (neg4, B4, m4, d4, sgnd neg (Lm.lv r))]) (by simp) (by simp)).set2 (by simp <;> omega) neg3 B3 m3 d3
 have KB := (KA.pick (L' := [(w.heap.size + 1 + 1 + 1, [.bool false, .slice none 0 0])]) (l' := [(neg3, B3, m3, d3, sgnd (!(neg == neg')) (Lm.lv q)), (neg4, B4, m4, d4, sgnd neg (Lm.lv r))]) (by simp) (by simp)).set2 (by simp <;> omega) neg4 B4 m4 d4
 rw [← hq, ← hr]
 exact bodyPost_ret (v := .tuple #[.agg #[.bool neg3, .slice B3 m3 d3], .agg #[.bool neg4, .slice B4 m4 d4]]) (by simp [results, Tryz.results217, go_sem, qaz42, qbz42, qaz43, qbz43]) rfl
  ⟨_, _, _, _, _, _, _, _, rfl, (show IsInt _ neg3 B3 m3 d3 (sgnd (!(neg == neg')) (Lm.lv q)) from KB.at_ (by simp)), KB.at_ (by simp), KB.own2 1 0 rfl rfl (by decide), KB.1⟩
theorem ow_Divide_one (neg neg' : Bool) (A A' : Option Addr) (n c c' : Nat) (a b : List Nat) (w : World) (ha : Sl w A n c a) (hb : Sl w A' 1 c' b) (ca : Lm.canon a) (cb : Lm.canon b) (hn : n ≤ 100000000) (h0 : 0 < n) (hge : Lm.lv b ≤ Lm.lv a) :
    Calls Tryz.prog 217 #[.agg #[.bool neg, .slice A n c], .agg #[.bool neg', .slice A' 1 c']] w (RetTwoO w (sgnd (neg != neg') (Lm.lv a / Lm.lv b)) (sgnd neg (Lm.lv a % Lm.lv b))) := by
  have hx := Lib.hid hge
  clear hge
  obtain ⟨d, rfl⟩ : ∃ d, b = [d] := List.length_eq_one_iff.1 (by have := hb.len; omega)
  obtain ⟨ad, rfl, hcd, hdb⟩ := sl_one hb
  have hd0 : 0 < d := Nat.pos_of_ne_zero (fun h => by subst h; exact absurd ((canon_last (l := [0]) (by simp)).1 cb) (by simp))
  have hlv : Lm.lv [d] = d := by simp [Lm.lv]
  rw [hlv] at hx ⊢
  have K0 := ((((Mo.nil w).var (g := w.heap.size) rfl [.bool neg, .slice A n c] 24).var (g := w.heap.size + 1) (by simp) [.bool neg', .slice (some ad) 1 c'] 24).var (g := w.heap.size + 1 + 1) (by simp) [.bool false, .slice none 0 0] 24).var (g := w.heap.size + 1 + 1 + 1) (by simp) [.bool false, .slice none 0 0] 24
  have ha4 := ((((ha.alloc (.cells #[.bool neg, .slice A n c] 24)).alloc (.cells #[.bool neg', .slice (some ad) 1 c'] 24)).alloc (.cells #[.bool false, .slice none 0 0] 24)).alloc (.cells #[.bool false, .slice none 0 0] 24))
  have hb4 := ((((hb.alloc (.cells #[.bool neg, .slice A n c] 24)).alloc (.cells #[.bool neg', .slice (some ad) 1 c'] 24)).alloc (.cells #[.bool false, .slice none 0 0] 24)).alloc (.cells #[.bool false, .slice none 0 0] 24))
  go_enter Tryz.func217, Tryz.ntmps217
  go_wp2_with fail
  refine (ex_size_any A (some ad) n c 1 c' a [d] _ ha4 hb4 ca cb (by omega) (by omega)).mono ?_
  rintro e1 w1 ⟨v, rfl, hv1, hv2, hv3, hv4, k1, rfl⟩
  have hv : decide (v < 0) = false := decide_eq_false (fun h => absurd (hlv ▸ hv1.1 h) (Nat.not_lt.2 hx.out))
  have K1 := K0.drewN k1
  have ha5 := ha4.drewN k1
  have hb5 := hb4.drewN k1
  generalize ((((w.alloc (.cells #[.bool neg, .slice A n c] 24)).alloc (.cells #[.bool neg', .slice (some ad) 1 c'] 24)).alloc (.cells #[.bool false, .slice none 0 0] 24)).alloc (.cells #[.bool false, .slice none 0 0] 24)).drewN k1 = w1 at K1 ha5 hb5 ⊢
  clear K0 ha4 hb4 hv1 hv2 hv3 hv4 ha hb hcd
  obtain ⟨_, _, _, _, _⟩ := (K1.blk (g := w.heap.size) (by repeat constructor)).two
  obtain ⟨_, _, _, _, _⟩ := (K1.blk (g := w.heap.size + 1) (by repeat constructor)).two
  obtain ⟨_, _, _, _, _⟩ := (K1.blk (g := w.heap.size + 1 + 1) (by repeat constructor)).two
  obtain ⟨_, _, _, _, _⟩ := (K1.blk (g := w.heap.size + 1 + 1 + 1) (by repeat constructor)).two
  go_wp2_with fail
  refine (ex_clone_any A n c a _ ha5 (by omega)).mono ?_
  rintro e2 w2 ⟨A2, n2, c2, rfl, hown, hc2, hb2⟩
  have hn2 : n = n2 := by have h1 := hown.1; rw [u32s_len] at h1; have h2 := ha5.len; omega
  subst hn2
  obtain ⟨g, rfl⟩ : ∃ g, A2 = some ⟨g, 0, none⟩ := by
    rcases hown.2 with ⟨e, _⟩ | ⟨g', cap, cur, e, _⟩
    · injection e with _ e2
      omega
    · injection e with e1
      exact ⟨g', e1⟩
  have hg := (hown.lt _ rfl).1
  have K2 := K1.next hb2
  have hb6 := hb5.below hb2
  obtain ⟨ad2, e, hcd, _⟩ := sl_one hb6
  injection e with e
  subst e
  clear hb6
  obtain ⟨_, _, _, _, _⟩ := (K2.blk (g := w.heap.size) (by repeat constructor)).two
  obtain ⟨_, _, _, _, _⟩ := (K2.blk (g := w.heap.size + 1) (by repeat constructor)).two
  obtain ⟨_, _, _, _, _⟩ := (K2.blk (g := w.heap.size + 1 + 1) (by repeat constructor)).two
  obtain ⟨_, _, _, _, _⟩ := (K2.blk (g := w.heap.size + 1 + 1 + 1) (by repeat constructor)).two
  go_wp2_with fail
  refine (ex_short_any w1.heap.size g n c2 d a w2 hown ha5.ok (by omega) hd0 hdb).mono ?_
  rintro e3 w3 ⟨l, r, rfl, hown3, hokl, hll, hv, hr, hgr⟩
  have K3 := (K2.grown hgr (by have := K1.1.size; omega) (by intro b hb; simp at hb; rcases hb with rfl | rfl | rfl | rfl <;> simp <;> omega)).lay K1.1.size (fun b hb => (K1.2.1 b hb).2.1) (q := (some ⟨g, 0, none⟩, n, c2)) ⟨_, hown3⟩
  have hS := Sl.of_own hown3 hc2 hokl
  have hrb : r < 4294967296 := by omega
  have hz : w.heap.size + 1 + 1 + 1 < w3.heap.size := by have := hgr.size; omega
  have HV := Lib.hid (And.intro hv hr)
  clear K1 K2 ha5 hb5 hb2 hown hown3 hokl hll hv hr hgr hcd hg
  obtain ⟨_, _, _, _, _⟩ := (K3.blk (g := w.heap.size) (by repeat constructor)).two
  obtain ⟨_, _, _, _, _⟩ := (K3.blk (g := w.heap.size + 1) (by repeat constructor)).two
  obtain ⟨_, _, _, _, _⟩ := (K3.blk (g := w.heap.size + 1 + 1) (by repeat constructor)).two
  obtain ⟨_, _, _, _, _⟩ := (K3.blk (g := w.heap.size + 1 + 1 + 1) (by repeat constructor)).two
  have ne01 : ¬ w.heap.size = w.heap.size + 1 := by omega
  have ne02 : ¬ w.heap.size = w.heap.size + 1 + 1 := by omega
  have ne03 : ¬ w.heap.size = w.heap.size + 1 + 1 + 1 := by omega
  have ne10 : ¬ w.heap.size + 1 = w.heap.size := by omega
  have ne12 : ¬ w.heap.size + 1 = w.heap.size + 1 + 1 := by omega
  have ne13 : ¬ w.heap.size + 1 = w.heap.size + 1 + 1 + 1 := by omega
  have ne20 : ¬ w.heap.size + 1 + 1 = w.heap.size := by omega
  have ne21 : ¬ w.heap.size + 1 + 1 = w.heap.size + 1 := by omega
  have ne23 : ¬ w.heap.size + 1 + 1 = w.heap.size + 1 + 1 + 1 := by omega
  have ne30 : ¬ w.heap.size + 1 + 1 + 1 = w.heap.size := by omega
  have ne31 : ¬ w.heap.size + 1 + 1 + 1 = w.heap.size + 1 := by omega
  have ne32 : ¬ w.heap.size + 1 + 1 + 1 = w.heap.size + 1 + 1 := by omega
  go_wp2_with fail
  go_region_held3 (fun w' => w'.cell? ⟨w.heap.size, 0, none⟩ = some (.bool neg) ∧ w'.cell? ⟨w.heap.size + 1, 0, none⟩ = some (.bool neg'))
    (go_keep)
    (first
      | (go_at_call 267; (with_reducible refine (ow_signed_any (!(neg == neg')) _ n c2 l _ ?_ (by omega)).mono ?_); (first | (with_reducible exact hS.drewN _) | (with_reducible exact hS.drew) | (with_reducible exact hS) | (with_reducible exact (hS.drewN _).alloc _) | (with_reducible exact hS.drew.alloc _) | (with_reducible exact hS.alloc _) | (with_reducible exact (hS.alloc _).drewN _) | (with_reducible exact (hS.alloc _).drew)); rintro e4 w4 ⟨neg4, B4, m4, d4, rfl, I4, C4, hb4⟩; (first | (with_reducible have K4 := ((K3.next hb4).cut C4).int I4) | (with_reducible have K4 := (((K3.drewN _).next hb4).cut C4).int I4) | (with_reducible have K4 := ((K3.drew.next hb4).cut C4).int I4) | (with_reducible have K4 := ((((K3.drewN _).lit (g := w3.heap.size) rfl _).next hb4).swap.cut C4).int I4) | (with_reducible have K4 := (((K3.drew.lit (g := w3.heap.size) rfl _).next hb4).swap.cut C4).int I4) | (with_reducible have K4 := (((K3.lit (g := w3.heap.size) rfl _).next hb4).swap.cut C4).int I4) | (with_reducible have K4 := ((((K3.lit (g := w3.heap.size) rfl _).drewN _).next hb4).swap.cut C4).int I4) | (with_reducible have K4 := (((K3.lit (g := w3.heap.size) rfl _).drew.next hb4).swap.cut C4).int I4)); (try (with_reducible have hL4 := (sl_new1 w3 164 r hrb).below hb4)); (try (with_reducible have hL4 := (sl_new1 w3.drew 164 r hrb).below hb4)); (try (with_reducible have hL4 := ((sl_new1 w3 164 r hrb).drew).below hb4)); (try (with_reducible have hL4 := ((sl_new1 w3 164 r hrb).drewN _).below hb4)); obtain ⟨_, _, _, _, _⟩ := (K4.blk (g := w.heap.size) (by repeat constructor)).two; obtain ⟨_, _, _, _, _⟩ := (K4.blk (g := w.heap.size + 1) (by repeat constructor)).two; obtain ⟨_, _, _, _, _⟩ := (K4.blk (g := w.heap.size + 1 + 1) (by repeat constructor)).two; obtain ⟨_, _, _, _, _⟩ := (K4.blk (g := w.heap.size + 1 + 1 + 1) (by repeat constructor)).two; clear I4 hb4)
      | (go_at_call 267; (with_reducible refine (ow_signed_any neg _ 1 1 [r] _ ?_ (by omega)).mono ?_); (first | (with_reducible exact hL4) | (with_reducible exact hL4.drewN _) | (with_reducible exact hL4.drew) | (with_reducible exact sl_new1 _ _ r hrb) | (with_reducible exact (sl_new1 _ _ r hrb).drew) | (with_reducible exact (sl_new1 _ _ r hrb).drewN _)); rintro e5 w5 ⟨neg5, B5, m5, d5, rfl, I5, C5, hb5⟩; (first | (with_reducible have K5 := ((K4.next hb5).swap.cut C5).int I5) | (with_reducible have K5 := (((K4.drewN _).next hb5).swap.cut C5).int I5) | (with_reducible have K5 := ((K4.drew.next hb5).swap.cut C5).int I5) | (with_reducible have K5 := ((((K4.drewN _).lit (g := w4.heap.size) rfl _).next hb5).cut C5).int I5) | (with_reducible have K5 := (((K4.drew.lit (g := w4.heap.size) rfl _).next hb5).cut C5).int I5) | (with_reducible have K5 := (((K4.lit (g := w4.heap.size) rfl _).next hb5).cut C5).int I5) | (with_reducible have K5 := ((((K4.lit (g := w4.heap.size) rfl _).drewN _).next hb5).cut C5).int I5) | (with_reducible have K5 := (((K4.lit (g := w4.heap.size) rfl _).drew.next hb5).cut C5).int I5)); obtain ⟨_, _, _, _, _⟩ := (K5.blk (g := w.heap.size) (by repeat constructor)).two; obtain ⟨_, _, _, _, _⟩ := (K5.blk (g := w.heap.size + 1) (by repeat constructor)).two; obtain ⟨qaz2, qbz2, _, _, _⟩ := (K5.blk (g := w.heap.size + 1 + 1) (by repeat constructor)).two; obtain ⟨qaz3, qbz3, _, _, _⟩ := (K5.blk (g := w.heap.size + 1 + 1 + 1) (by repeat constructor)).two; clear I5 hb5))
  all_goals (go_wp2_with fail)
  all_goals (
    have hq : Lm.lv l = Lm.lv a / d := by
      rw [HV.out.1, Nat.mul_add_div hd0, Nat.div_eq_of_lt HV.out.2, Nat.add_zero]
    have hr : Lm.lv [r] = Lm.lv a % d := by
      rw [HV.out.1, Nat.mul_add_mod, Nat.mod_eq_of_lt HV.out.2]
      simp [Lm.lv]
    have KA := (K5.pick (L' := [(w.heap.size + 1 + 1, [.bool false, .slice none 0 0]), (w.heap.size + 1 + 1 + 1, [.bool false, .slice none 0 0])]) (l' := [(neg4, B4, m4, d4, sgnd (!(neg == neg')) (Lm.lv l)), (neg5, B5, m5, d5, sgnd neg (Lm.lv [r]))]) (by simp) (by simp)).set2 (by simp <;> omega) neg4 B4 m4 d4
    have KB := (KA.pick (L' := [(w.heap.size + 1 + 1 + 1, [.bool false, .slice none 0 0])]) (l' := [(neg4, B4, m4, d4, sgnd (!(neg == neg')) (Lm.lv l)), (neg5, B5, m5, d5, sgnd neg (Lm.lv [r]))]) (by simp) (by simp)).set2 (by simp <;> omega) neg5 B5 m5 d5
    rw [← hq, ← hr]
    first
    | exact bodyPost_ret (v := .tuple #[.agg #[.bool neg4, .slice B4 m4 d4], .agg #[.bool neg5, .slice B5 m5 d5]]) (by simp [results, Tryz.results217, go_sem, qaz2, qbz2, qaz3, qbz3]) rfl
       ⟨_, _, _, _, _, _, _, _, rfl, (show IsInt _ neg4 B4 m4 d4 (sgnd (!(neg == neg')) (Lm.lv l)) from KB.at_ (by simp)), KB.at_ (by simp), KB.own2 1 0 rfl rfl (by decide), KB.1⟩)
theorem ow_Divide_any (neg neg' : Bool) (A A' : Option Addr) (n c n' c' : Nat) (x y : Int) (w : World) (hx : IsInt w neg A n c x) (hy : IsInt w neg' A' n' c' y) (hn : n ≤ 100000000) (hn' : n' ≤ 100000000) (hy0 : y ≠ 0) :
  Calls Tryz.prog 217 #[.agg #[.bool neg, .slice A n c], .agg #[.bool neg', .slice A' n' c']] w (RetTwoO w (x.tdiv y) (x.tmod y)) := by
 have h0 : n' ≠ 0 := fun e => hy0 ((isInt_zero hy).1 e)
 obtain ⟨a, ha, ca, _, rfl⟩ := hx
 obtain ⟨b, hb, cb, _, rfl⟩ := hy
 rw [sgnd_tdiv, sgnd_tmod]
 rcases Nat.lt_or_ge (Lm.lv a) (Lm.lv b) with hlt | hge
 ·rw [Nat.div_eq_of_lt hlt, Nat.mod_eq_of_lt hlt, show sgnd (neg != neg') 0 = 0 by unfold sgnd; split <;> rfl]
  exact ow_Divide_low _ _ _ _ _ _ _ _ _ _ _ ha hb ca cb (by omega) (by omega) hlt
 ·have hl := len_of_le ha hb cb hge
  by_cases h1 : n' = 1
  ·subst h1
   exact ow_Divide_one _ _ _ _ _ _ _ _ _ _ ha hb ca cb hn (by omega) hge
  ·obtain ⟨m, rfl⟩ : ∃ m, n' = m + 2 := ⟨n' - 2, by omega⟩
   exact ow_Divide_long _ _ _ _ _ _ _ _ _ _ _ ha hb ca cb hn hl hge
end Go.Proofs.YtgekmbfmfiikkaaGreatDoor
