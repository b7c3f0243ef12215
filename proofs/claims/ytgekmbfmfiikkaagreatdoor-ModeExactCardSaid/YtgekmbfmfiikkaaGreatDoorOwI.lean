/-
  May all of these fractions be? (ratio.Checks)
  Are numbers too long (exact.Long, ratio.Long, ratio.Answer), at any length.
  What may be: two or four fractions, a matrix, a beam.
  The fractions (frac): may one be, what a float is worth, two against one another.
  Of the program: what a matrix comes to (row.Det); products of complex numbers (in mode.Keeps).
  The program's fractions (package ratio): small ones, one, signs.
  May a complex number, a beam, a matrix be? (argand.May, beam.Check, row.May)
  A complex number that is too long (argand.Answer, beam.answered).
  Beams through matrices: any, the answers in memory of their own (beam.answered, Through).
  The square of the range, or the limit (in mode.Depth).
  Beams: closures, the waist, refusals, in memory of their own.
-/
import Derived.Test.YtgekmbfmfiikkaaGreatDoorExX
import Derived.Test.YtgekmbfmfiikkaaGreatDoorRaL
import Derived.Test.YtgekmbfmfiikkaaGreatDoorRootR
import Ieee.Arith
import Derived.Lib.TrailingZeros
import Derived.Test.YtgekmbfmfiikkaaGreatDoorExG
import Derived.Test.YtgekmbfmfiikkaaGreatDoorCom
import Derived.Test.YtgekmbfmfiikkaaGreatDoorRefW
import Derived.Shelf.Spec.TrailingZeros
import Derived.Test.YtgekmbfmfiikkaaGreatDoorOwH
namespace Go.Proofs.YtgekmbfmfiikkaaGreatDoor
open Go.RowKit

/-- A fraction in memory as limbs: its two numbers' values and limbs. -/
abbrev LmE := (Bool × Option Addr × Nat × Nat × List Nat) × (Bool × Option Addr × Nat × Nat × List Nat)
def LmE.at_ (wr : World) (f : LmE) : Prop := Sl wr f.1.2.1 f.1.2.2.1 f.1.2.2.2.1 f.1.2.2.2.2 ∧ Sl wr f.2.2.1 f.2.2.2.1 f.2.2.2.2.1 f.2.2.2.2.2 ∧ f.1.2.2.1 ≤ 1000000000 ∧ f.2.2.2.1 ≤ 1000000000
theorem LmE.at_.below {w w' : World} {f : LmE} (h : LmE.at_ w f) (hb : Below w.heap.size w w') : LmE.at_ w' f := ⟨h.1.below hb, h.2.1.below hb, h.2.2⟩
def LmE.vs (f : LmE) : List Value := [.bool f.1.1, .slice f.1.2.1 f.1.2.2.1 f.1.2.2.2.1, .bool f.2.1, .slice f.2.2.1 f.2.2.2.1 f.2.2.2.2.1]
/-- A block that holds fractions. -/
def Lfs (wr : World) (g N : Nat) (F : Nat → LmE) : Prop :=
 g < wr.heap.size ∧ ∀ i, i < N → (wr.cell? ⟨g, i * 4, none⟩ = some (.bool (F i).1.1) ∧ wr.cell? ⟨g, i * 4 + 1, none⟩ = some (.slice (F i).1.2.1 (F i).1.2.2.1 (F i).1.2.2.2.1) ∧
  wr.cell? ⟨g, i * 4 + 2, none⟩ = some (.bool (F i).2.1) ∧ wr.cell? ⟨g, i * 4 + 3, none⟩ = some (.slice (F i).2.2.1 (F i).2.2.2.1 (F i).2.2.2.2.1)) ∧ LmE.at_ wr (F i)
theorem Lfs.next {wr w' : World} {g N : Nat} {F : Nat → LmE} (h : Lfs wr g N F) (hb : Below wr.heap.size wr w') : Lfs w' g N F := by
 refine ⟨Nat.lt_of_lt_of_le h.1 hb.size, fun i hi => ?_⟩
 obtain ⟨⟨h0, h1, h2, h3⟩, h4⟩ := h.2 i hi
 obtain ⟨hc, _⟩ := bcell hb
 exact ⟨⟨(hc _ _ h.1).trans h0, (hc _ _ h.1).trans h1, (hc _ _ h.1).trans h2, (hc _ _ h.1).trans h3⟩, h4.below hb⟩
open Classical in
noncomputable def okB (f : LmE) : Bool := decide (okFr f.1.1 f.1.2.2.2.2 f.2.1 f.2.2.2.2.2)
open Classical in
theorem okB_iff (f : LmE) : okB f = true ↔ okFr f.1.1 f.1.2.2.2.2 f.2.1 f.2.2.2.2.2 := by
 unfold okB
 exact decide_eq_true_iff
open Classical in
theorem okB_chk (f : LmE) : chkFr f.1.1 f.1.2.2.2.2 f.2.1 f.2.2.2.2.2 = if okB f then 0 else 1 := by
 unfold okB
 by_cases h : okFr f.1.1 f.1.2.2.2.2 f.2.1 f.2.2.2.2.2
 ·rw [chkFr_ok h, decide_eq_true h]; rfl
 ·rw [chkFr_no h, decide_eq_false h]; rfl
/-- May all of the first so many be? -/
noncomputable def okAll (F : Nat → LmE) : Nat → Bool
 | 0 => true
 | n + 1 => okAll F n && okB (F n)
theorem okAll_no {F : Nat → LmE} {k N : Nat} (hk : k < N) (h : okB (F k) = false) : okAll F N = false := by
 induction N with
 | zero => omega
 | succ n ih =>
  unfold okAll
  rcases Nat.lt_or_ge k n with h1 | h1
  ·rw [ih h1]; rfl
  ·have : k = n := by omega
   subst this
   rw [h, Bool.and_false]

set_option maxRecDepth 100000 in
set_option maxHeartbeats 3200000 in
theorem rat_checks_any (g N c : Nat) (F : Nat → LmE) (w : World) (hL : Lfs w g N F) (hN : N ≤ 1000) (hc : N ≤ c) :
  Calls Tryz.prog 158 #[.slice (some ⟨g, 0, none⟩) N c] w (RetV w (.bool (okAll F N))) := by
 have hg := hL.1
 go_enter Tryz.func158, Tryz.ntmps158
 go_wp2_with fail
 go_loopw [7] (fun i wr => ∃ k : Nat, k ≤ N ∧ i = .int .i64 (k : Int) ∧ Hid (okAll F k = true) ∧ Below w.heap.size w wr) (fun i _ => N - (intOf i).toNat)
 case atStart => exact ⟨0, Nat.zero_le _, rfl, Lib.hid rfl, Below.refl _ _⟩
 case round =>
  obtain ⟨k, hk, rfl, HK, hb⟩ := hrel
  have hsz := hb.size
  by_cases hlt : k < N
  ·obtain ⟨hg1, hall⟩ := hL.next hb
   obtain ⟨⟨a0, a1, a2, a3⟩, hS, hS', hn, hn'⟩ := hall k hlt
   have HCk := Lib.hid (okB_chk (F k))
   have HOK : Hid (okAll F (k + 1) = (okAll F k && okB (F k))) := Lib.hid rfl
   have HNO : Hid (okB (F k) = false → okAll F N = false) := Lib.hid (okAll_no hlt)
   obtain ⟨f, hf⟩ : ∃ f, F k = f := ⟨_, rfl⟩
   rw [hf] at a0 a1 a2 a3 hS hS' hn hn' HCk HOK HNO
   obtain ⟨⟨neg, A, n, c1, l⟩, neg', A', n', c1', l'⟩ := f
   simp only at a0 a1 a2 a3 hS hS' hn hn' HCk
   have hlt' : (k : Int) < (N : Int) := by omega
   have hk0 : (0 : Int) ≤ (k : Int) := Int.natCast_nonneg _
   clear hall hf
   go_wp2_with fail
   refine (ratio_check neg neg' A A' n c1 n' c1' l l' _ (hS.alloc _) (hS'.alloc _) hn hn').mono ?_
   rintro e1 w1 ⟨rfl, hb1⟩
   obtain ⟨b, hob⟩ : ∃ b, okB ((neg, A, n, c1, l), (neg', A', n', c1', l')) = b := ⟨_, rfl⟩
   rw [hob] at HCk HOK HNO
   rw [HCk.out]
   clear hob
   cases b with
   | false =>
    have HF : Hid (okAll F N = false) := Lib.hid (HNO.out rfl)
    go_wp2_with fail
    go_ret
    exact ⟨by rw [HF.out]; rfl, (hb.trans (((Below.refl _ _).alloc (Nat.le_refl _) _).mono hsz)).trans (hb1.mono (by simp; omega))⟩
   | true =>
    go_wp2_with fail
    refine ⟨⟨k + 1, hlt, congrArg (Value.int .i64) (by omega), Lib.hid (by rw [HOK.out, HK.out]; rfl), (hb.trans (((Below.refl _ _).alloc (Nat.le_refl _) _).mono hsz)).trans (hb1.mono (by simp; omega))⟩, ?_⟩
    simp [intOf]
    omega
  ·obtain rfl : k = N := by omega
   have hnl : ¬ (k : Int) < (k : Int) := by omega
   go_wp2_with fail
   go_ret
   exact ⟨by rw [HK.out]; rfl, hb⟩
end Go.Proofs.YtgekmbfmfiikkaaGreatDoor

namespace Go.Proofs.YtgekmbfmfiikkaaGreatDoor
open Go.RowKit

/-- Is a number of the fraction too long? -/
def lgB (f : LmE) : Bool := decide (2048 < f.1.2.2.1) || decide (2048 < f.2.2.2.1)
/-- Is one of them? -/
def lgAll (F : Nat → LmE) : Nat → Bool
 | 0 => false
 | n + 1 => lgAll F n || lgB (F n)
theorem lgAll_yes {F : Nat → LmE} {k : Nat} (h : lgB (F k) = true) : ∀ {N : Nat}, k < N → lgAll F N = true
 | 0, hk => absurd hk (by omega)
 | n + 1, hk => by
  rcases Nat.lt_or_ge k n with h1 | h1
  ·unfold lgAll; rw [lgAll_yes h h1]; rfl
  ·obtain rfl : k = n := by omega
   unfold lgAll; rw [h]; simp
theorem lgAll_no {F : Nat → LmE} : ∀ {N : Nat}, (∀ k, k < N → lgB (F k) = false) → lgAll F N = false
 | 0, _ => rfl
 | n + 1, h => by unfold lgAll; rw [lgAll_no (fun k hk => h k (by omega)), h n (by omega)]; rfl

set_option maxRecDepth 100000 in
theorem ex_long1_any (neg : Bool) (A : Option Addr) (n c : Nat) (b : Bool) (w : World) (hb : Hid (decide (2048 < n) = b)) : Calls Tryz.prog 223 #[.agg #[.bool neg, .slice A n c]] w (RetV w (.bool b)) := by
 have hl : decide ((2048 : Int) < (n : Int)) = b := by
  rw [← hb.out]
  by_cases h : 2048 < n
  ·rw [decide_eq_true h, decide_eq_true (by omega)]
  ·rw [decide_eq_false h, decide_eq_false (by omega)]
 go_enter Tryz.func223, Tryz.ntmps223
 cases b with
 | true =>
  have hl2 : (2048 : Int) < (n : Int) := of_decide_eq_true hl
  clear hl
  go_wp2_with fail
  go_ret
  exact ⟨rfl, (Below.refl _ _).alloc (Nat.le_refl _) _⟩
 | false =>
  have hl2 : ¬ (2048 : Int) < (n : Int) := of_decide_eq_false hl
  clear hl
  go_wp2_with fail
  go_ret
  exact ⟨rfl, (Below.refl _ _).alloc (Nat.le_refl _) _⟩

set_option maxRecDepth 100000 in
set_option maxHeartbeats 800000 in
theorem index_any (g : Nat) (neg : Bool) (A : Option Addr) (n c : Nat) (b : Bool) (v : Int) (w : World) (hg : g < w.heap.size) (c0 : w.cell? ⟨g, 0, none⟩ = some (.bool neg)) (c1 : w.cell? ⟨g, 1, none⟩ = some (.slice A n c)) (hb : Hid (decide (2048 < n) = b)) (hv : Hid ((if b then (0 : Int) else -1) = v)) :
  Calls Tryz.prog 280 #[.slice (some ⟨g, 0, none⟩) 1 1, .func (.func 223) #[] #[]] w (RetV w (.int .i64 v)) := by
 go_enter Tryz.func280, Tryz.ntmps280
 go_wp2_with fail
 go_loopw [8] (fun i wr => ∃ k : Nat, k ≤ 1 ∧ i = .int .i64 (k : Int) ∧ Below w.heap.size w wr ∧ (k = 1 → b = false)) (fun i _ => 1 - (intOf i).toNat)
 case atStart => exact ⟨0, Nat.zero_le _, rfl, Below.refl _ _, fun h => absurd h (by decide)⟩
 case round =>
  obtain ⟨k, hk, rfl, hb0, hbf⟩ := hrel
  match k, hk with
  | 0, _ =>
   clear hbf
   have d0 := (hb0.cell (p := ⟨g, 0, none⟩) hg).trans c0
   have d1 := (hb0.cell (p := ⟨g, 1, none⟩) hg).trans c1
   have hsz := hb0.size
   go_wp2_with fail
   refine (ex_long1_any neg A n c b _ hb).mono ?_
   rintro e1 w1 ⟨rfl, hb1⟩
   have hb2 := hb0.trans (hb1.mono hsz)
   cases b with
   | true =>
    go_wp2_with fail
    go_ret
    exact ⟨by rw [← hv.out]; rfl, hb2⟩
   | false =>
    go_wp2_with fail
    refine ⟨⟨1, by decide, rfl, hb2, by simp⟩, ?_⟩
    simp [intOf]
  | 1, _ =>
   obtain rfl := hbf rfl
   go_wp2_with fail
   go_ret
   exact ⟨by rw [← hv.out]; rfl, hb0⟩
theorem contains_any (g : Nat) (neg : Bool) (A : Option Addr) (n c : Nat) (b : Bool) (w : World) (hg : g < w.heap.size) (c0 : w.cell? ⟨g, 0, none⟩ = some (.bool neg)) (c1 : w.cell? ⟨g, 1, none⟩ = some (.slice A n c)) (hb : Hid (decide (2048 < n) = b)) :
  Calls Tryz.prog 222 #[.slice (some ⟨g, 0, none⟩) 1 1, .func (.func 223) #[] #[]] w (RetV w (.bool b)) := by
 go_enter Tryz.func222, Tryz.ntmps222
 go_wp2_with fail
 obtain ⟨v, hv⟩ : ∃ v, (if b then (0 : Int) else -1) = v := ⟨_, rfl⟩
 refine (index_any g neg A n c b v _ hg c0 c1 hb (Lib.hid hv)).mono ?_
 rintro e1 w1 ⟨rfl, hb1⟩
 cases b with
 | true =>
  obtain rfl : (0 : Int) = v := hv
  go_wp2_with fail
  go_ret
  exact ⟨rfl, hb1⟩
 | false =>
  obtain rfl : (-1 : Int) = v := hv
  go_wp2_with fail
  go_ret
  exact ⟨rfl, hb1⟩
theorem ex_long_any (g : Nat) (neg : Bool) (A : Option Addr) (n c : Nat) (b : Bool) (w : World) (hg : g < w.heap.size) (c0 : w.cell? ⟨g, 0, none⟩ = some (.bool neg)) (c1 : w.cell? ⟨g, 1, none⟩ = some (.slice A n c)) (hb : Hid (decide (2048 < n) = b)) :
  Calls Tryz.prog 115 #[.slice (some ⟨g, 0, none⟩) 1 1] w (RetV w (.bool b)) := by
 go_enter Tryz.func115, Tryz.ntmps115
 go_wp2_with fail
 refine (contains_any g neg A n c b _ hg c0 c1 hb).mono ?_
 rintro e1 w1 ⟨rfl, hb1⟩
 go_wp2_with fail
 go_ret
 exact ⟨rfl, hb1⟩

set_option maxRecDepth 100000 in
set_option maxHeartbeats 6400000 in
theorem rat_long_any (g N c : Nat) (F : Nat → LmE) (w : World) (hL : Lfs w g N F) (hN : N ≤ 1000) (_hc : N ≤ c) :
  Calls Tryz.prog 114 #[.slice (some ⟨g, 0, none⟩) N c] w (RetV w (.bool (lgAll F N))) := by
 go_enter Tryz.func114, Tryz.ntmps114
 go_wp2_with fail
 go_loopw [7] (fun i wr => ∃ k : Nat, k ≤ N ∧ i = .int .i64 (k : Int) ∧ Below w.heap.size w wr ∧ Hid (∀ j, j < k → lgB (F j) = false)) (fun i _ => N - (intOf i).toNat)
 case atStart => exact ⟨0, Nat.zero_le _, rfl, Below.refl _ _, Lib.hid (fun j hj => absurd hj (by omega))⟩
 case round =>
  obtain ⟨k, hk, rfl, hb, HN⟩ := hrel
  by_cases hlt : k < N
  ·obtain ⟨hg1, hall⟩ := hL.next hb
   obtain ⟨⟨a0, a1, a2, a3⟩, _⟩ := hall k hlt
   obtain ⟨f, hf⟩ : ∃ f, F k = f := ⟨_, rfl⟩
   have HF := Lib.hid hf
   rw [hf] at a0 a1 a2 a3
   obtain ⟨⟨neg, A, n, c1, l⟩, neg', A', n', c1', l'⟩ := f
   simp only at a0 a1 a2 a3
   obtain ⟨b1, hb1⟩ : ∃ b, decide (2048 < n) = b := ⟨_, rfl⟩
   obtain ⟨b2, hb2⟩ : ∃ b, decide (2048 < n') = b := ⟨_, rfl⟩
   have HB : Hid (lgB (F k) = (b1 || b2)) := Lib.hid (by rw [hf]; unfold lgB; rw [← hb1, ← hb2])
   have HB1 := Lib.hid hb1
   have HB2 := Lib.hid hb2
   have hlt' : (k : Int) < (N : Int) := by omega
   have hk0 : (0 : Int) ≤ (k : Int) := Int.natCast_nonneg _
   have HLT := Lib.hid hlt
   have hsz := hb.size
   clear hall hf hlt hb1 hb2
   have K0 := (Mm.nil wr).var (g := wr.heap.size) rfl [.bool neg, .slice A n c1, .bool neg', .slice A' n' c1'] 26
   go_upto_region 4 with (fail)
   generalize wr.alloc (.cells #[.bool neg, .slice A n c1, .bool neg', .slice A' n' c1'] 26) = w0 at K0 ⊢
   obtain ⟨⟨qa0, qb0, qc0, qd0⟩, _, _⟩ := (K0.blk (g := wr.heap.size) (by repeat constructor)).four
   go_wp2_with fail
   refine (ex_long_any w0.heap.size neg A n c1 b1 _ (by simp) (by simp [go_sem]) (by simp [go_sem]) HB1).mono ?_
   rintro e1 w1 ⟨rfl, hb1⟩
   have K1 := K0.next (below_box hb1)
   obtain ⟨⟨_, _, _, _⟩, _, _⟩ := (K1.blk (g := wr.heap.size) (by repeat constructor)).four
   clear K0 hb1 qa0 qb0 qc0 qd0
   cases b1 with
   | true =>
    have hb3 := hb.trans (K1.1.mono hsz)
    have HR := Lib.hid (lgAll_yes (F := F) (k := k) (by rw [HB.out]; rfl) HLT.out)
    go_wp2_with fail
    go_ret
    exact ⟨by rw [HR.out]; rfl, hb3⟩
   | false =>
    go_wp2_with fail
    refine (ex_long_any w1.heap.size neg' A' n' c1' b2 _ (by simp) (by simp [go_sem]) (by simp [go_sem]) HB2).mono ?_
    rintro e2 w2 ⟨rfl, hb2⟩
    have K2 := K1.next (below_box hb2)
    have hb3 := hb.trans (K2.1.mono hsz)
    clear K1 K2 hb2
    cases b2 with
    | true =>
     have HR := Lib.hid (lgAll_yes (F := F) (k := k) (by rw [HB.out]; rfl) HLT.out)
     go_wp2_with fail
     go_ret
     exact ⟨by rw [HR.out]; rfl, hb3⟩
    | false =>
     have HN2 : Hid (∀ j, j < k + 1 → lgB (F j) = false) := Lib.hid (fun j hj => by
      rcases Nat.lt_or_ge j k with h | h
      ·exact HN.out j h
      ·obtain rfl : j = k := by omega
       rw [HB.out]; rfl)
     clear HN HB
     go_wp2_with fail
     go_roundw
     case rel => exact ⟨k + 1, HLT.out, rfl, hb3, HN2⟩
     case measure => have := HLT.out; simp [intOf]; omega
  ·obtain rfl : k = N := by omega
   have hnl : ¬ (k : Int) < (k : Int) := by omega
   have HR := Lib.hid (lgAll_no HN.out)
   go_wp2_with fail
   go_ret
   exact ⟨by rw [HR.out]; rfl, hb⟩
end Go.Proofs.YtgekmbfmfiikkaaGreatDoor

namespace Go.Proofs.YtgekmbfmfiikkaaGreatDoor
open Go.RowKit

def two (a b : LmE) : Nat → LmE := fun i => if i = 0 then a else b
def four (a b c d : LmE) : Nat → LmE := fun i => if i = 0 then a else if i = 1 then b else if i = 2 then c else d
theorem lfs_two (w : World) {g : Nat} (hg : w.heap.size = g) (t : TypeId) {a b : LmE} (ha : LmE.at_ w a) (hb : LmE.at_ w b) : Lfs (w.alloc (.cells (a.vs ++ b.vs).toArray t)) g 2 (two a b) := by
 have hB := Blk.new w hg (a.vs ++ b.vs) t
 have hn : Below w.heap.size w (w.alloc (.cells (a.vs ++ b.vs).toArray t)) := (Below.refl _ _).alloc (Nat.le_refl _) _
 refine ⟨hB.1, fun i hi => ?_⟩
 match i, hi with
 | 0, _ => exact ⟨⟨(hB.2 0 _ rfl).1, (hB.2 1 _ rfl).1, (hB.2 2 _ rfl).1, (hB.2 3 _ rfl).1⟩, LmE.at_.below ha hn⟩
 | 1, _ => exact ⟨⟨(hB.2 4 _ rfl).1, (hB.2 5 _ rfl).1, (hB.2 6 _ rfl).1, (hB.2 7 _ rfl).1⟩, LmE.at_.below hb hn⟩
theorem lfs_four (w : World) {g : Nat} (hg : w.heap.size = g) (t : TypeId) {a b c d : LmE} (ha : LmE.at_ w a) (hb : LmE.at_ w b) (hc : LmE.at_ w c) (hd : LmE.at_ w d) : Lfs (w.alloc (.cells (a.vs ++ b.vs ++ c.vs ++ d.vs).toArray t)) g 4 (four a b c d) := by
 have hB := Blk.new w hg (a.vs ++ b.vs ++ c.vs ++ d.vs) t
 have hn : Below w.heap.size w (w.alloc (.cells (a.vs ++ b.vs ++ c.vs ++ d.vs).toArray t)) := (Below.refl _ _).alloc (Nat.le_refl _) _
 refine ⟨hB.1, fun i hi => ?_⟩
 match i, hi with
 | 0, _ => exact ⟨⟨(hB.2 0 _ rfl).1, (hB.2 1 _ rfl).1, (hB.2 2 _ rfl).1, (hB.2 3 _ rfl).1⟩, LmE.at_.below ha hn⟩
 | 1, _ => exact ⟨⟨(hB.2 4 _ rfl).1, (hB.2 5 _ rfl).1, (hB.2 6 _ rfl).1, (hB.2 7 _ rfl).1⟩, LmE.at_.below hb hn⟩
 | 2, _ => exact ⟨⟨(hB.2 8 _ rfl).1, (hB.2 9 _ rfl).1, (hB.2 10 _ rfl).1, (hB.2 11 _ rfl).1⟩, LmE.at_.below hc hn⟩
 | 3, _ => exact ⟨⟨(hB.2 12 _ rfl).1, (hB.2 13 _ rfl).1, (hB.2 14 _ rfl).1, (hB.2 15 _ rfl).1⟩, LmE.at_.below hd hn⟩
theorem okAll_four (a b c d : LmE) : okAll (four a b c d) 4 = (okB a && okB b && okB c && okB d) := by simp [okAll, four]
/-- What a fraction of limbs is worth. -/
noncomputable def rv (f : LmE) : Rat := Rat.divInt (sgnd f.1.1 (Lm.lv f.1.2.2.2.2)) (sgnd f.2.1 (Lm.lv f.2.2.2.2.2))
theorem ok_num {f : LmE} (h : okB f = true) : (rv f).num = sgnd f.1.1 (Lm.lv f.1.2.2.2.2) ∧ ((rv f).den : Int) = sgnd f.2.1 (Lm.lv f.2.2.2.2.2) := by
 have ho := (okB_iff f).1 h
 have h3 := ho.2.2.1
 have hg : (1 : Nat) = Nat.gcd (sgnd f.1.1 (Lm.lv f.1.2.2.2.2)).natAbs (sgnd f.2.1 (Lm.lv f.2.2.2.2.2)).natAbs := by rw [sgnd_abs, sgnd_abs]; exact ho.2.2.2.symm
 have e1 := low_num (p := sgnd f.1.1 (Lm.lv f.1.2.2.2.2)) (q := sgnd f.2.1 (Lm.lv f.2.2.2.2.2)) (by omega) hg
 have e2 := low_den (p := sgnd f.1.1 (Lm.lv f.1.2.2.2.2)) (q := sgnd f.2.1 (Lm.lv f.2.2.2.2.2)) (by omega) hg
 unfold tn at e1 e2
 rw [if_neg (by omega), Int.natCast_one, Int.tdiv_one] at e1 e2
 exact ⟨e1.symm, e2.symm⟩
theorem ok_ints {w : World} {f : LmE} (h : okB f = true) (ha : LmE.at_ w f) :
  IsInt w f.1.1 f.1.2.1 f.1.2.2.1 f.1.2.2.2.1 (rv f).num ∧ IsInt w f.2.1 f.2.2.1 f.2.2.2.1 f.2.2.2.2.1 ((rv f).den : Int) ∧ Sz (rv f) 2048 := by
 obtain ⟨e1, e2⟩ := ok_num h
 have ho := (okB_iff f).1 h
 have h1 : IsInt w f.1.1 f.1.2.1 f.1.2.2.1 f.1.2.2.2.1 (rv f).num := ⟨_, ha.1, ho.1.2.1, ho.1.2.2, e1⟩
 have h2 : IsInt w f.2.1 f.2.2.1 f.2.2.2.1 f.2.2.2.2.1 ((rv f).den : Int) := ⟨_, ha.2.1, ho.2.1.2.1, ho.2.1.2.2, e2⟩
 refine ⟨h1, h2, sz_of h1 h2 ?_ ?_⟩
 ·rw [← ha.1.len]; exact ho.1.1
 ·rw [← ha.2.1.len]; exact ho.2.1.1
/-- May a matrix be? -/
noncomputable def okM (a b c d : LmE) : Bool := okB a && okB b && okB c && okB d && decide (rv a * rv d - rv b * rv c = 1)
theorem rat_num_sign (x : Rat) : (0 < x → x.num.sign = 1) ∧ (¬ 0 < x → x.num.sign = 0 ∨ x.num.sign = -1) := by
 have h := rcmp_sign x 0
 have e : x.num * (((0 : Rat).den : Nat) : Int) - (0 : Rat).num * (x.den : Int) = x.num := by
  rw [show (0 : Rat).num = 0 from rfl, show (0 : Rat).den = 1 from rfl]
  omega
 rw [e] at h
 rw [h]
 unfold rcmp
 constructor
 ·intro hp
  rw [if_neg (by grind), if_pos hp]
 ·intro hp
  by_cases hn : x < 0
  ·rw [if_pos hn]; exact .inr rfl
  ·rw [if_neg hn, if_neg hp]; exact .inl rfl

theorem rcmp_eq (x y : Rat) : (rcmp x y == 0) = decide (x = y) := by
 unfold rcmp
 by_cases h1 : x < y
 ·rw [if_pos h1, decide_eq_false (fun e => by rw [e] at h1; exact Rat.lt_irrefl h1)]; rfl
 ·rw [if_neg h1]
  by_cases h2 : y < x
  ·rw [if_pos h2, decide_eq_false (fun e => by rw [e] at h2; exact Rat.lt_irrefl h2)]; rfl
  ·rw [if_neg h2, decide_eq_true (Rat.le_antisymm (Rat.not_lt.1 h2) (Rat.not_lt.1 h1))]; rfl
end Go.Proofs.YtgekmbfmfiikkaaGreatDoor

namespace Go.Proofs.YtgekmbfmfiikkaaGreatDoor
open Go.RowKit

/-- A fraction that may be, in memory as limbs, and what it is worth. -/
def OkF (w : World) (f : LmE) (r : Rat) : Prop := LmE.at_ w f ∧ okB f = true ∧ rv f = r
theorem OkF.next {w w' : World} {f : LmE} {r : Rat} (h : OkF w f r) (hb : Below w.heap.size w w') : OkF w' f r := ⟨LmE.at_.below h.1 hb, h.2⟩
theorem OkF.ints {w : World} {neg : Bool} {A : Option Addr} {n c : Nat} {l : List Nat} {neg' : Bool} {A' : Option Addr} {n' c' : Nat} {l' : List Nat} {r : Rat} (h : OkF w ((neg, A, n, c, l), (neg', A', n', c', l')) r) : IsInt w neg A n c r.num ∧ IsInt w neg' A' n' c' (r.den : Int) ∧ Sz r 2048 := by
 have := ok_ints h.2.1 h.1
 rw [h.2.2] at this
 exact this

end Go.Proofs.YtgekmbfmfiikkaaGreatDoor

namespace Go.Proofs.YtgekmbfmfiikkaaGreatDoor
open Go.RowKit

set_option maxRecDepth 100000 in
set_option maxHeartbeats 6400000 in
theorem row_det_any (sa za : Bool) (Aa Ba : Option Addr) (na ca ma da : Nat) (xa : Rat) (sb zb : Bool) (Ab Bb : Option Addr) (nb cb mb db : Nat) (xb : Rat) (sc zc : Bool) (Ac Bc : Option Addr) (nc cc mc dc : Nat) (xc : Rat) (sd zd : Bool) (Ad Bd : Option Addr) (nd cd md dd : Nat) (xd : Rat) (M : Nat) (w : World) (ha : IsInt w sa Aa na ca xa.num) (ia : IsInt w za Ba ma da (xa.den : Int)) (ya : Sz xa M) (hb : IsInt w sb Ab nb cb xb.num) (ib : IsInt w zb Bb mb db (xb.den : Int)) (yb : Sz xb M) (hc : IsInt w sc Ac nc cc xc.num) (ic : IsInt w zc Bc mc dc (xc.den : Int)) (yc : Sz xc M) (hd : IsInt w sd Ad nd cd xd.num) (id : IsInt w zd Bd md dd (xd.den : Int)) (yd : Sz xd M) (hM : M ≤ 100000) :
    Calls Tryz.prog 159 #[.agg #[.bool sa, .slice Aa na ca, .bool za, .slice Ba ma da, .bool sb, .slice Ab nb cb, .bool zb, .slice Bb mb db, .bool sc, .slice Ac nc cc, .bool zc, .slice Bc mc dc, .bool sd, .slice Ad nd cd, .bool zd, .slice Bd md dd]] w (RetFr w ((xa * xd) - (xb * xc))) := by
  have K0 := (((((((((((Mm.nil w).int ha).int ia).int hb).int ib).int hc).int ic).int hd).int id).var (g := w.heap.size) rfl [.bool sa, .slice Aa na ca, .bool za, .slice Ba ma da, .bool sb, .slice Ab nb cb, .bool zb, .slice Bb mb db, .bool sc, .slice Ac nc cc, .bool zc, .slice Bc mc dc, .bool sd, .slice Ad nd cd, .bool zd, .slice Bd md dd] 28).var (g := w.heap.size + 1) (by simp) [.bool false, .slice none 0 0, .bool false, .slice none 0 0] 26)
  have Ya := Lib.hid ya
  have Yb := Lib.hid yb
  have Yc := Lib.hid yc
  have Yd := Lib.hid yd
  have HS1 : Hid (Sz (xa * xd) (2 * M + 0)) := Lib.hid ((Sz.mul Ya.out Yd.out).mono (by omega))
  have HS2 : Hid (Sz (xb * xc) (2 * M + 0)) := Lib.hid ((Sz.mul Yb.out Yc.out).mono (by omega))
  have HS3 : Hid (Sz ((xa * xd) - (xb * xc)) (4 * M + 1)) := Lib.hid ((Sz.sub HS1.out HS2.out).mono (by omega))
  clear ha ia ya hb ib yb hc ic yc hd id yd
  have ne01 : ¬ w.heap.size = w.heap.size + 1 := by omega
  have ne10 : ¬ w.heap.size + 1 = w.heap.size := by omega
  go_enter Tryz.func159, Tryz.ntmps159
  go_wp2_with fail
  generalize (w.alloc (.cells #[.bool sa, .slice Aa na ca, .bool za, .slice Ba ma da, .bool sb, .slice Ab nb cb, .bool zb, .slice Bb mb db, .bool sc, .slice Ac nc cc, .bool zc, .slice Bc mc dc, .bool sd, .slice Ad nd cd, .bool zd, .slice Bd md dd] 28)).alloc (.cells #[.bool false, .slice none 0 0, .bool false, .slice none 0 0] 26) = w0 at K0 ⊢
  obtain ⟨_, _, _, _, _, _, _, _, _, _, _, _, _, _, _, _⟩ := (K0.blk (g := w.heap.size) (by repeat constructor)).c16
  go_region_held3 (fun w' => w'.cell? ⟨w.heap.size, 0, none⟩ = some (.bool sa) ∧ w'.cell? ⟨w.heap.size, 1, none⟩ = some (.slice Aa na ca) ∧ w'.cell? ⟨w.heap.size, 2, none⟩ = some (.bool za) ∧ w'.cell? ⟨w.heap.size, 3, none⟩ = some (.slice Ba ma da) ∧ w'.cell? ⟨w.heap.size, 4, none⟩ = some (.bool sb) ∧ w'.cell? ⟨w.heap.size, 5, none⟩ = some (.slice Ab nb cb) ∧ w'.cell? ⟨w.heap.size, 6, none⟩ = some (.bool zb) ∧ w'.cell? ⟨w.heap.size, 7, none⟩ = some (.slice Bb mb db) ∧ w'.cell? ⟨w.heap.size, 8, none⟩ = some (.bool sc) ∧ w'.cell? ⟨w.heap.size, 9, none⟩ = some (.slice Ac nc cc) ∧ w'.cell? ⟨w.heap.size, 10, none⟩ = some (.bool zc) ∧ w'.cell? ⟨w.heap.size, 11, none⟩ = some (.slice Bc mc dc) ∧ w'.cell? ⟨w.heap.size, 12, none⟩ = some (.bool sd) ∧ w'.cell? ⟨w.heap.size, 13, none⟩ = some (.slice Ad nd cd) ∧ w'.cell? ⟨w.heap.size, 14, none⟩ = some (.bool zd) ∧ w'.cell? ⟨w.heap.size, 15, none⟩ = some (.slice Bd md dd))
    (go_keep)
    (first
      | (go_at_call 140; apply Calls.withMm (w0 := w); (case K => with_reducible repeat (first | exact K0 | apply Mm.drew | apply Mm.drewN)); intro KX; (with_reducible refine (rat_times_any sa za Aa Ba na ca ma da sd zd Ad Bd nd cd md dd xa xd (xa * xd) M M _ (KX.at_ (mE 7 rfl)) (KX.at_ (mE 6 rfl)) (KX.at_ (mE 1 rfl)) (KX.at_ (mE 0 rfl)) Ya.out Yd.out (by omega) (Lib.hid rfl)).mono ?_); rintro e1 w1 ⟨neg1, A1, n1, c1, ne1, B1, m1, d1, rfl, IHS1, JHS1, hb1⟩; (with_reducible have K1 := (((KX.next hb1).int JHS1).int IHS1)); obtain ⟨_, _, _, _, _, _, _, _, _, _, _, _, _, _, _, _⟩ := (K1.blk (mE 1 rfl)).c16; clear KX IHS1 JHS1 hb1)
      | (go_at_call 140; apply Calls.withMm (w0 := w); (case K => with_reducible repeat (first | exact K1 | apply Mm.drew | apply Mm.drewN)); intro KX; (with_reducible refine (rat_times_any sb zb Ab Bb nb cb mb db sc zc Ac Bc nc cc mc dc xb xc (xb * xc) M M _ (KX.at_ (mE 7 rfl)) (KX.at_ (mE 6 rfl)) (KX.at_ (mE 5 rfl)) (KX.at_ (mE 4 rfl)) Yb.out Yc.out (by omega) (Lib.hid rfl)).mono ?_); rintro e2 w2 ⟨neg2, A2, n2, c2, ne2, B2, m2, d2, rfl, IHS2, JHS2, hb2⟩; (with_reducible have K2 := (((KX.next hb2).int JHS2).int IHS2)); obtain ⟨_, _, _, _, _, _, _, _, _, _, _, _, _, _, _, _⟩ := (K2.blk (mE 1 rfl)).c16; clear KX IHS2 JHS2 hb2)
      | (go_at_call 139; apply Calls.withMm (w0 := w); (case K => with_reducible repeat (first | exact K2 | apply Mm.drew | apply Mm.drewN)); intro KX; (with_reducible refine (rat_minus_any neg1 ne1 A1 B1 n1 c1 m1 d1 neg2 ne2 A2 B2 n2 c2 m2 d2 (xa * xd) (xb * xc) ((xa * xd) - (xb * xc)) (2 * M + 0) (2 * M + 0) _ (KX.at_ (mE 2 rfl)) (KX.at_ (mE 3 rfl)) (KX.at_ (mE 0 rfl)) (KX.at_ (mE 1 rfl)) HS1.out HS2.out (by omega) (Lib.hid rfl)).mono ?_); rintro e3 w3 ⟨neg3, A3, n3, c3, ne3, B3, m3, d3, rfl, IHS3, JHS3, hb3⟩; (with_reducible have K3 := (((KX.next hb3).int JHS3).int IHS3)); obtain ⟨_, _, _, _, _, _, _, _, _, _, _, _, _, _, _, _⟩ := (K3.blk (mE 1 rfl)).c16; obtain ⟨⟨qa3r, qb3r, qc3r, qd3r⟩, ⟨_, _, _, _⟩, _⟩ := (K3.blk (mE 0 rfl)).four; clear KX IHS3 JHS3 hb3))
  all_goals
   go_wp2_with fail
   have KE := (K3.pick (L' := [(w.heap.size + 1, [.bool false, .slice none 0 0, .bool false, .slice none 0 0])]) (l' := [(neg3, A3, n3, c3, (((xa * xd) - (xb * xc)) : Rat).num), (ne3, B3, m3, d3, (((((xa * xd) - (xb * xc)) : Rat).den : Nat) : Int))]) (by simp) (by simp)).set4 (by simp <;> omega) neg3 A3 n3 c3 ne3 B3 m3 d3
   exact bodyPost_ret (v := .agg #[.bool neg3, .slice A3 n3 c3, .bool ne3, .slice B3 m3 d3]) (by simp [results, Tryz.results159, go_sem, qa3r, qb3r, qc3r, qd3r]) rfl ⟨_, _, _, _, _, _, _, _, rfl, KE.at_ (by simp), KE.at_ (by simp), KE.1⟩

end Go.Proofs.YtgekmbfmfiikkaaGreatDoor

namespace Go.Proofs.YtgekmbfmfiikkaaGreatDoor
open Go.RowKit

theorem rat_small_any (a b : Int) (r : Rat) (w : World) (ha : -9223372036854775808 ≤ a ∧ a ≤ 9223372036854775807) (hb : -9223372036854775808 ≤ b ∧ b ≤ 9223372036854775807) (h0 : b ≠ 0) (hr : Hid (Rat.divInt a b = r)) :
  Calls Tryz.prog 143 #[.int .i64 a, .int .i64 b] w (RetFr w r) :=
 (owr_small_any a b r w ha hb h0 hr).mono fun _ _ h => h.fg
set_option maxRecDepth 100000 in
set_option maxHeartbeats 3200000 in
theorem rat_one_any (w : World) : Calls Tryz.prog 160 #[] w (RetFr w 1) := by
 have K0 := (Mm.nil w).var (g := w.heap.size) rfl [.bool false, .slice none 0 0, .bool false, .slice none 0 0] 26
 have HR : Hid (Rat.divInt 1 1 = 1) := Lib.hid (by decide +kernel)
 go_enter Tryz.func160, Tryz.ntmps160
 go_wp2_with fail
 refine (rat_small_any 1 1 1 _ (by decide) (by decide) (by decide) HR).mono ?_
 rintro e3 w3 ⟨neg3, A3, n3, c3, ne3, B3, m3, d3, rfl, I3, J3, hb3⟩
 have K3 := ((K0.next hb3).int J3).int I3
 obtain ⟨⟨qa3r, qb3r, qc3r, qd3r⟩, ⟨_, _, _, _⟩, _⟩ := (K3.blk (g := w.heap.size) (by repeat constructor)).four
 clear I3 J3 hb3
 go_wp2_with fail
 have KE := (K3.pick (L' := [(w.heap.size, [.bool false, .slice none 0 0, .bool false, .slice none 0 0])]) (l' := [(neg3, A3, n3, c3, (1 : Rat).num), (ne3, B3, m3, d3, ((1 : Rat).den : Int))]) (by simp) (by simp)).set4 (by simp <;> omega) neg3 A3 n3 c3 ne3 B3 m3 d3
 exact bodyPost_ret (v := .agg #[.bool neg3, .slice A3 n3 c3, .bool ne3, .slice B3 m3 d3]) (by simp [results, Tryz.results160, go_sem, qa3r, qb3r, qc3r, qd3r]) rfl ⟨_, _, _, _, _, _, _, _, rfl, KE.at_ (by simp), KE.at_ (by simp), KE.1⟩

set_option maxRecDepth 100000 in
set_option maxHeartbeats 3200000 in
theorem rat_sign_any (neg neg' : Bool) (A A' : Option Addr) (n c n' c' : Nat) (x : Rat) (v : Int) (w : World) (hx : IsInt w neg A n c x.num) (hx' : IsInt w neg' A' n' c' (x.den : Int)) (hv : Hid (x.num.sign = v)) :
  Calls Tryz.prog 56 #[.agg #[.bool neg, .slice A n c, .bool neg', .slice A' n' c']] w (RetV w (.int .i64 v)) := by
 have K0 := ((((Mm.nil w).int hx).int hx').var (g := w.heap.size) rfl [.bool neg, .slice A n c, .bool neg', .slice A' n' c'] 26)
 clear hx hx'
 go_enter Tryz.func56, Tryz.ntmps56
 go_wp2_with fail
 refine (ex_sign_of neg A n c x.num v _ (K0.at_ (by simp)) hv).mono ?_
 rintro e4 w4 ⟨rfl, hb4⟩
 have K4 := K0.next hb4
 go_wp2_with fail
 go_ret
 exact ⟨rfl, K4.1⟩
end Go.Proofs.YtgekmbfmfiikkaaGreatDoor

namespace Go.Proofs.YtgekmbfmfiikkaaGreatDoor
open Go.RowKit

set_option maxRecDepth 100000 in
set_option maxHeartbeats 6400000 in
theorem row_may_any (sa : Bool) (Aa : Option Addr) (na ca : Nat) (la : List Nat) (za : Bool) (Ba : Option Addr) (ma da : Nat) (ka : List Nat) (sb : Bool) (Ab : Option Addr) (nb cb : Nat) (lb : List Nat) (zb : Bool) (Bb : Option Addr) (mb db : Nat) (kb : List Nat) (sc : Bool) (Ac : Option Addr) (nc cc : Nat) (lc : List Nat) (zc : Bool) (Bc : Option Addr) (mc dc : Nat) (kc : List Nat) (sd : Bool) (Ad : Option Addr) (nd cd : Nat) (ld : List Nat) (zd : Bool) (Bd : Option Addr) (md dd : Nat) (kd : List Nat) (w : World) (ha : LmE.at_ w ((sa, Aa, na, ca, la), (za, Ba, ma, da, ka))) (hb : LmE.at_ w ((sb, Ab, nb, cb, lb), (zb, Bb, mb, db, kb))) (hc : LmE.at_ w ((sc, Ac, nc, cc, lc), (zc, Bc, mc, dc, kc))) (hd : LmE.at_ w ((sd, Ad, nd, cd, ld), (zd, Bd, md, dd, kd))) :
  Calls Tryz.prog 49 #[.agg #[.bool sa, .slice Aa na ca, .bool za, .slice Ba ma da, .bool sb, .slice Ab nb cb, .bool zb, .slice Bb mb db, .bool sc, .slice Ac nc cc, .bool zc, .slice Bc mc dc, .bool sd, .slice Ad nd cd, .bool zd, .slice Bd md dd]] w (RetV w (.bool (okM ((sa, Aa, na, ca, la), (za, Ba, ma, da, ka)) ((sb, Ab, nb, cb, lb), (zb, Bb, mb, db, kb)) ((sc, Ac, nc, cc, lc), (zc, Bc, mc, dc, kc)) ((sd, Ad, nd, cd, ld), (zd, Bd, md, dd, kd))))) := by
 have K0 := (Mm.nil w).var (g := w.heap.size) rfl [.bool sa, .slice Aa na ca, .bool za, .slice Ba ma da, .bool sb, .slice Ab nb cb, .bool zb, .slice Bb mb db, .bool sc, .slice Ac nc cc, .bool zc, .slice Bc mc dc, .bool sd, .slice Ad nd cd, .bool zd, .slice Bd md dd] 28
 have ha0 := LmE.at_.below ha K0.1
 have hb0 := LmE.at_.below hb K0.1
 have hc0 := LmE.at_.below hc K0.1
 have hd0 := LmE.at_.below hd K0.1
 have K1 := K0.box (.cells #[.bool sa, .slice Aa na ca, .bool za, .slice Ba ma da, .bool sb, .slice Ab nb cb, .bool zb, .slice Bb mb db, .bool sc, .slice Ac nc cc, .bool zc, .slice Bc mc dc, .bool sd, .slice Ad nd cd, .bool zd, .slice Bd md dd] 26)
 have hL : Lfs ((w.alloc (.cells #[.bool sa, .slice Aa na ca, .bool za, .slice Ba ma da, .bool sb, .slice Ab nb cb, .bool zb, .slice Bb mb db, .bool sc, .slice Ac nc cc, .bool zc, .slice Bc mc dc, .bool sd, .slice Ad nd cd, .bool zd, .slice Bd md dd] 28)).alloc (.cells #[.bool sa, .slice Aa na ca, .bool za, .slice Ba ma da, .bool sb, .slice Ab nb cb, .bool zb, .slice Bb mb db, .bool sc, .slice Ac nc cc, .bool zc, .slice Bc mc dc, .bool sd, .slice Ad nd cd, .bool zd, .slice Bd md dd] 26)) (w.heap.size + 1) 4 (four ((sa, Aa, na, ca, la), (za, Ba, ma, da, ka)) ((sb, Ab, nb, cb, lb), (zb, Bb, mb, db, kb)) ((sc, Ac, nc, cc, lc), (zc, Bc, mc, dc, kc)) ((sd, Ad, nd, cd, ld), (zd, Bd, md, dd, kd))) := lfs_four _ (by simp) _ ha0 hb0 hc0 hd0
 have HL := Lib.hid hL
 obtain ⟨o, ho⟩ : ∃ o, (okB ((sa, Aa, na, ca, la), (za, Ba, ma, da, ka)) && okB ((sb, Ab, nb, cb, lb), (zb, Bb, mb, db, kb)) && okB ((sc, Ac, nc, cc, lc), (zc, Bc, mc, dc, kc)) && okB ((sd, Ad, nd, cd, ld), (zd, Bd, md, dd, kd))) = o := ⟨_, rfl⟩
 have HO := Lib.hid ((okAll_four ((sa, Aa, na, ca, la), (za, Ba, ma, da, ka)) ((sb, Ab, nb, cb, lb), (zb, Bb, mb, db, kb)) ((sc, Ac, nc, cc, lc), (zc, Bc, mc, dc, kc)) ((sd, Ad, nd, cd, ld), (zd, Bd, md, dd, kd))).trans ho)
 have HM : Hid (okM ((sa, Aa, na, ca, la), (za, Ba, ma, da, ka)) ((sb, Ab, nb, cb, lb), (zb, Bb, mb, db, kb)) ((sc, Ac, nc, cc, lc), (zc, Bc, mc, dc, kc)) ((sd, Ad, nd, cd, ld), (zd, Bd, md, dd, kd)) = (o && decide (rv ((sa, Aa, na, ca, la), (za, Ba, ma, da, ka)) * rv ((sd, Ad, nd, cd, ld), (zd, Bd, md, dd, kd)) - rv ((sb, Ab, nb, cb, lb), (zb, Bb, mb, db, kb)) * rv ((sc, Ac, nc, cc, lc), (zc, Bc, mc, dc, kc)) = 1))) := Lib.hid (by unfold okM; rw [ho])
 have ha1 := LmE.at_.below ha K1.1
 have hb1 := LmE.at_.below hb K1.1
 have hc1 := LmE.at_.below hc K1.1
 have hd1 := LmE.at_.below hd K1.1
 clear ha hb hc hd hL K0 ha0 hb0 hc0 hd0
 go_enter Tryz.func49, Tryz.ntmps49
 go_wp2_with fail
 refine (rat_checks_any (w.heap.size + 1) 4 4 (four ((sa, Aa, na, ca, la), (za, Ba, ma, da, ka)) ((sb, Ab, nb, cb, lb), (zb, Bb, mb, db, kb)) ((sc, Ac, nc, cc, lc), (zc, Bc, mc, dc, kc)) ((sd, Ad, nd, cd, ld), (zd, Bd, md, dd, kd))) _ HL.out (by decide) (by decide)).mono ?_
 rintro e1 w1 ⟨rfl, hbw⟩
 rw [HO.out]
 clear HO HL
 have K2 := K1.next hbw
 have ha2 := LmE.at_.below ha1 hbw
 have hb2 := LmE.at_.below hb1 hbw
 have hc2 := LmE.at_.below hc1 hbw
 have hd2 := LmE.at_.below hd1 hbw
 clear ha1 hb1 hc1 hd1 K1 hbw
 obtain ⟨_, _, _, _, _, _, _, _, _, _, _, _, _, _, _, _⟩ := (K2.blk (g := w.heap.size) (by repeat constructor)).c16
 cases o with
 | false =>
  go_wp2_with fail
  go_ret
  exact ⟨by rw [HM.out]; rfl, K2.1⟩
 | true =>
  simp only [Bool.and_eq_true] at ho
  obtain ⟨⟨⟨oa, ob⟩, oc⟩, od⟩ := ho
  obtain ⟨ia, ja, ya⟩ := ok_ints oa ha2
  obtain ⟨ib, jb, yb⟩ := ok_ints ob hb2
  obtain ⟨ic, jc, yc⟩ := ok_ints oc hc2
  obtain ⟨id, jd, yd⟩ := ok_ints od hd2
  obtain ⟨xa, hxa⟩ : ∃ x, rv ((sa, Aa, na, ca, la), (za, Ba, ma, da, ka)) = x := ⟨_, rfl⟩
  obtain ⟨xb, hxb⟩ : ∃ x, rv ((sb, Ab, nb, cb, lb), (zb, Bb, mb, db, kb)) = x := ⟨_, rfl⟩
  obtain ⟨xc, hxc⟩ : ∃ x, rv ((sc, Ac, nc, cc, lc), (zc, Bc, mc, dc, kc)) = x := ⟨_, rfl⟩
  obtain ⟨xd, hxd⟩ : ∃ x, rv ((sd, Ad, nd, cd, ld), (zd, Bd, md, dd, kd)) = x := ⟨_, rfl⟩
  rw [hxa] at ia ja ya
  rw [hxb] at ib jb yb
  rw [hxc] at ic jc yc
  rw [hxd] at id jd yd
  rw [hxa, hxb, hxc, hxd] at HM
  have HSZ : Hid (Sz (xa * xd - xb * xc) 8193) := Lib.hid ((Sz.sub (Sz.mul ya yd) (Sz.mul yb yc)).mono (by omega))
  have K3 := ((((((((K2.int ia).int ja).int ib).int jb).int ic).int jc).int id).int jd)
  have YA := Lib.hid ya
  have YB := Lib.hid yb
  have YC := Lib.hid yc
  have YD := Lib.hid yd
  clear ia ja ib jb ic jc id jd ya yb yc yd oa ob oc od hxa hxb hxc hxd ha2 hb2 hc2 hd2 K2
  go_wp2_with fail
  refine (row_det_any sa za Aa Ba na ca ma da xa sb zb Ab Bb nb cb mb db xb sc zc Ac Bc nc cc mc dc xc sd zd Ad Bd nd cd md dd xd 2048 _ (K3.at_ (by simp)) (K3.at_ (by simp)) YA.out (K3.at_ (by simp)) (K3.at_ (by simp)) YB.out (K3.at_ (by simp)) (K3.at_ (by simp)) YC.out (K3.at_ (by simp)) (K3.at_ (by simp)) YD.out (by decide)).mono ?_
  rintro e4 w4 ⟨neg4, A4, n4, c4, ne4, B4, m4, d4, rfl, I4, J4, hb4⟩
  have K4 := ((K3.next hb4).int J4).int I4
  clear I4 J4 hb4 K3
  go_wp2_with fail
  refine (rat_one_any _).mono ?_
  rintro e5 w5 ⟨neg5, A5, n5, c5, ne5, B5, m5, d5, rfl, I5, J5, hb5⟩
  have K5 := ((K4.next hb5).int J5).int I5
  clear I5 J5 hb5 K4
  go_wp2_with fail
  obtain ⟨v, hv⟩ : ∃ v, rcmp (xa * xd - xb * xc) 1 = v := ⟨_, rfl⟩
  have hvb : (v == 0) = decide (xa * xd - xb * xc = 1) := by rw [← hv]; exact rcmp_eq _ _
  have HV := Lib.hid hv
  clear hv
  refine (rat_cmp_any neg4 ne4 A4 B4 n4 c4 m4 d4 neg5 ne5 A5 B5 n5 c5 m5 d5 (xa * xd - xb * xc) 1 v 8193 1 _ (K5.at_ (by simp)) (K5.at_ (by simp)) (K5.at_ (by simp)) (K5.at_ (by simp)) HSZ.out Sz.one (by decide) HV).mono ?_
  rintro e6 w6 ⟨rfl, hb6⟩
  go_wp2_with fail
  go_ret
  exact ⟨by rw [HM.out, Bool.true_and, ← hvb]; rfl, (K5.next hb6).1⟩
end Go.Proofs.YtgekmbfmfiikkaaGreatDoor

namespace Go.Proofs.YtgekmbfmfiikkaaGreatDoor
open Go.RowKit

theorem lg_two {a b : LmE} (h : (lgB a || lgB b) = true) : lgAll (two a b) 2 = true := by
 unfold lgAll lgAll lgAll
 unfold two
 simpa using h
theorem lg_of {w : World} {s z : Bool} {A B : Option Addr} {n c m d : Nat} {l k : List Nat} {x : Rat} (hI : IsInt w s A n c x.num) (hJ : IsInt w z B m d (x.den : Int)) (h : ¬ Sz x 2048) : lgB ((s, A, n, c, l), (z, B, m, d, k)) = true := by
 unfold lgB
 simp only [Bool.or_eq_true, decide_eq_true_eq]
 by_cases h1 : 2048 < n
 ·exact .inl h1
 ·by_cases h2 : 2048 < m
  ·exact .inr h2
  ·exact absurd (sz_of hI hJ (by omega) (by omega)) h

end Go.Proofs.YtgekmbfmfiikkaaGreatDoor

namespace Go.Proofs.YtgekmbfmfiikkaaGreatDoor
open Go.RowKit

theorem okM_ok {w : World} {a b c d : LmE} {x y z t : Rat} (ha : OkF w a x) (hb : OkF w b y) (hc : OkF w c z) (hd : OkF w d t) (h : x * t - y * z = 1) : okM a b c d = true := by
 unfold okM
 rw [ha.2.1, hb.2.1, hc.2.1, hd.2.1, ha.2.2, hb.2.2, hc.2.2, hd.2.2, decide_eq_true h]
 rfl
end Go.Proofs.YtgekmbfmfiikkaaGreatDoor

namespace Go.Proofs.YtgekmbfmfiikkaaGreatDoor
open Go.RowKit

theorem lfs_one (w : World) {g : Nat} (hg : w.heap.size = g) (t : TypeId) {a : LmE} (ha : LmE.at_ w a) : Lfs (w.alloc (.cells a.vs.toArray t)) g 1 (fun _ => a) := by
 have hB := Blk.new w hg a.vs t
 have hn : Below w.heap.size w (w.alloc (.cells a.vs.toArray t)) := (Below.refl _ _).alloc (Nat.le_refl _) _
 refine ⟨hB.1, fun i hi => ?_⟩
 match i, hi with
 | 0, _ => exact ⟨⟨(hB.2 0 _ rfl).1, (hB.2 1 _ rfl).1, (hB.2 2 _ rfl).1, (hB.2 3 _ rfl).1⟩, LmE.at_.below ha hn⟩

set_option maxRecDepth 100000 in
set_option maxHeartbeats 6400000 in
theorem depth1_no (sx : Bool) (Ax : Option Addr) (nx cx : Nat) (lx : List Nat) (zx : Bool) (Bx : Option Addr) (mx dx : Nat) (kx : List Nat) (sy : Bool) (Ay : Option Addr) (ny cy : Nat) (zy : Bool) (By : Option Addr) (my dy : Nat) (w : World) (ax : LmE.at_ w ((sx, Ax, nx, cx, lx), (zx, Bx, mx, dx, kx))) (hb : Hid (lgB ((sx, Ax, nx, cx, lx), (zx, Bx, mx, dx, kx)) = false)) :
  Calls Tryz.prog 117 #[.agg #[.bool sx, .slice Ax nx cx, .bool zx, .slice Bx mx dx], .agg #[.bool sy, .slice Ay ny cy, .bool zy, .slice By my dy]] w (RetV w (.tuple #[.agg #[.bool sx, .slice Ax nx cx, .bool zx, .slice Bx mx dx], .int .i64 0])) := by
 have K0 := (((Mm.nil w).var (g := w.heap.size) rfl [.bool sx, .slice Ax nx cx, .bool zx, .slice Bx mx dx] 26).var (g := w.heap.size + 1) (by simp) [.bool sy, .slice Ay ny cy, .bool zy, .slice By my dy] 26).var (g := w.heap.size + 1 + 1) (by simp) [.bool false, .slice none 0 0, .bool false, .slice none 0 0] 26
 have HL : Hid (lgAll (fun _ => ((sx, Ax, nx, cx, lx), (zx, Bx, mx, dx, kx))) 1 = false) := Lib.hid (by unfold lgAll lgAll; rw [hb.out]; rfl)
 replace ax := LmE.at_.below ax K0.1
 have g01 : ¬ w.heap.size = w.heap.size + 1 := by omega
 have g02 : ¬ w.heap.size = w.heap.size + 1 + 1 := by omega
 have g10 : ¬ w.heap.size + 1 = w.heap.size := by omega
 have g12 : ¬ w.heap.size + 1 = w.heap.size + 1 + 1 := by omega
 have g20 : ¬ w.heap.size + 1 + 1 = w.heap.size := by omega
 have g21 : ¬ w.heap.size + 1 + 1 = w.heap.size + 1 := by omega
 go_enter Tryz.func117, Tryz.ntmps117
 go_upto_region 1 with (fail)
 generalize ((w.alloc (.cells #[.bool sx, .slice Ax nx cx, .bool zx, .slice Bx mx dx] 26)).alloc (.cells #[.bool sy, .slice Ay ny cy, .bool zy, .slice By my dy] 26)).alloc (.cells #[.bool false, .slice none 0 0, .bool false, .slice none 0 0] 26) = w0 at K0 ax ⊢
 have HLF := Lib.hid (lfs_one w0 (g := w0.heap.size) rfl 26 ax)
 obtain ⟨⟨q0, q1, q2, q3⟩, _, _⟩ := (K0.blk (mE 2 rfl)).four
 go_wp2_with fail
 refine (rat_long_any w0.heap.size 1 1 (fun _ => ((sx, Ax, nx, cx, lx), (zx, Bx, mx, dx, kx))) _ HLF.out (by decide) (by decide)).mono ?_
 rintro e1 w1 ⟨rfl, hb1⟩
 rw [HL.out]
 have K1 := K0.next (below_box hb1)
 clear K0 hb1 ax HLF q0 q1 q2 q3
 obtain ⟨⟨q0, q1, q2, q3⟩, _, _⟩ := (K1.blk (mE 2 rfl)).four
 obtain ⟨⟨r0, r1, r2, r3⟩, ⟨_, _, _, _⟩, _⟩ := (K1.blk (mE 0 rfl)).four
 go_wp2_with fail
 have K9 := (K1.pick (L' := [(w.heap.size + 1 + 1, [.bool false, .slice none 0 0, .bool false, .slice none 0 0])]) (l' := []) (by simp) (by simp)).set4 (by simp) sx Ax nx cx zx Bx mx dx
 exact bodyPost_ret (v := .tuple #[.agg #[.bool sx, .slice Ax nx cx, .bool zx, .slice Bx mx dx], .int .i64 0]) (by simp [results, Tryz.results117, go_sem, r0, r1, r2, r3]) rfl ⟨rfl, K9.1⟩

set_option maxRecDepth 100000 in
set_option maxHeartbeats 6400000 in
theorem depth1_yes (sx : Bool) (Ax : Option Addr) (nx cx : Nat) (lx : List Nat) (zx : Bool) (Bx : Option Addr) (mx dx : Nat) (kx : List Nat) (sy : Bool) (Ay : Option Addr) (ny cy : Nat) (zy : Bool) (By : Option Addr) (my dy : Nat) (w : World) (ax : LmE.at_ w ((sx, Ax, nx, cx, lx), (zx, Bx, mx, dx, kx))) (hb : Hid (lgB ((sx, Ax, nx, cx, lx), (zx, Bx, mx, dx, kx)) = true)) :
  Calls Tryz.prog 117 #[.agg #[.bool sx, .slice Ax nx cx, .bool zx, .slice Bx mx dx], .agg #[.bool sy, .slice Ay ny cy, .bool zy, .slice By my dy]] w (RetV w (.tuple #[.agg #[.bool false, .slice none 0 0, .bool false, .slice none 0 0], .int .i64 4])) := by
 have K0 := (((Mm.nil w).var (g := w.heap.size) rfl [.bool sx, .slice Ax nx cx, .bool zx, .slice Bx mx dx] 26).var (g := w.heap.size + 1) (by simp) [.bool sy, .slice Ay ny cy, .bool zy, .slice By my dy] 26).var (g := w.heap.size + 1 + 1) (by simp) [.bool false, .slice none 0 0, .bool false, .slice none 0 0] 26
 have HL : Hid (lgAll (fun _ => ((sx, Ax, nx, cx, lx), (zx, Bx, mx, dx, kx))) 1 = true) := Lib.hid (by unfold lgAll lgAll; rw [hb.out]; rfl)
 replace ax := LmE.at_.below ax K0.1
 have g01 : ¬ w.heap.size = w.heap.size + 1 := by omega
 have g02 : ¬ w.heap.size = w.heap.size + 1 + 1 := by omega
 have g10 : ¬ w.heap.size + 1 = w.heap.size := by omega
 have g12 : ¬ w.heap.size + 1 = w.heap.size + 1 + 1 := by omega
 have g20 : ¬ w.heap.size + 1 + 1 = w.heap.size := by omega
 have g21 : ¬ w.heap.size + 1 + 1 = w.heap.size + 1 := by omega
 go_enter Tryz.func117, Tryz.ntmps117
 go_upto_region 1 with (fail)
 generalize ((w.alloc (.cells #[.bool sx, .slice Ax nx cx, .bool zx, .slice Bx mx dx] 26)).alloc (.cells #[.bool sy, .slice Ay ny cy, .bool zy, .slice By my dy] 26)).alloc (.cells #[.bool false, .slice none 0 0, .bool false, .slice none 0 0] 26) = w0 at K0 ax ⊢
 have HLF := Lib.hid (lfs_one w0 (g := w0.heap.size) rfl 26 ax)
 obtain ⟨⟨q0, q1, q2, q3⟩, _, _⟩ := (K0.blk (mE 2 rfl)).four
 go_wp2_with fail
 refine (rat_long_any w0.heap.size 1 1 (fun _ => ((sx, Ax, nx, cx, lx), (zx, Bx, mx, dx, kx))) _ HLF.out (by decide) (by decide)).mono ?_
 rintro e1 w1 ⟨rfl, hb1⟩
 rw [HL.out]
 have K1 := K0.next (below_box hb1)
 clear K0 hb1 ax HLF q0 q1 q2 q3
 obtain ⟨⟨q0, q1, q2, q3⟩, _, _⟩ := (K1.blk (mE 2 rfl)).four
 obtain ⟨⟨r0, r1, r2, r3⟩, ⟨_, _, _, _⟩, _⟩ := (K1.blk (mE 0 rfl)).four
 go_wp2_with fail
 have K9 := (K1.pick (L' := [(w.heap.size + 1 + 1, [.bool false, .slice none 0 0, .bool false, .slice none 0 0])]) (l' := []) (by simp) (by simp)).set4 (by simp) false none 0 0 false none 0 0
 exact bodyPost_ret (v := .tuple #[.agg #[.bool false, .slice none 0 0, .bool false, .slice none 0 0], .int .i64 4]) (by simp [results, Tryz.results117, go_sem, r0, r1, r2, r3]) rfl ⟨rfl, K9.1⟩
end Go.Proofs.YtgekmbfmfiikkaaGreatDoor

namespace Go.Proofs.YtgekmbfmfiikkaaGreatDoor
open Go.RowKit

/-- A fraction as an answer, in memory of its own, and an error. -/
def RetF2 (W : World) (x y v : Int) (e : Ending) (w' : World) : Prop :=
 ∃ (neg : Bool) (A : Option Addr) (n c : Nat) (neg' : Bool) (A' : Option Addr) (n' c' : Nat), e = .returned (.tuple #[.agg #[.bool neg, .slice A n c, .bool neg', .slice A' n' c'], .int .i64 v]) ∧ IsInt w' neg A n c x ∧ IsInt w' neg' A' n' c' y ∧ Owns W.heap.size w' [(A, n, c), (A', n', c')] ∧ Below W.heap.size W w'
theorem owns_nil2 (B : Nat) (w : World) : Owns B w [(none, 0, 0), (none, 0, 0)] := Owns.two (OwnR.nil _ _) (OwnR.nil _ _) (fun g hg => by cases hg)
end Go.Proofs.YtgekmbfmfiikkaaGreatDoor
