/-
  May all of these fractions be? (ratio.Checks)
  A walk's memory: blocks of eight and of sixteen cells; complex numbers of two fractions.
  What may be: two or four fractions, a matrix, a beam.
  The program's fractions (package ratio): products, quotients, sums, differences; held against one another.
  The fractions (frac): may one be, what a float is worth, two against one another.
  The operations of frac: always, do, Add, Sub, Mul, of fractions that may be where the answer is short.
-/
import Derived.Test.YtgekmbfmfiikkaaGreatDoorExX
import Derived.Test.YtgekmbfmfiikkaaGreatDoorRefX
import Derived.Test.YtgekmbfmfiikkaaGreatDoorFrR
import Derived.Test.YtgekmbfmfiikkaaGreatDoorOwH
import Derived.Test.YtgekmbfmfiikkaaGreatDoorRaL
import Ieee.Arith
set_option maxHeartbeats 3200000
set_option maxRecDepth 100000
namespace Go.Proofs.YtgekmbfmfiikkaaGreatDoor
open Go.RowKit
abbrev LmE := (Bool × Option Addr × Nat × Nat × List Nat) × (Bool × Option Addr × Nat × Nat × List Nat)
def LmE.at_ (wr : World) (f : LmE) : Prop := Sl wr f.1.2.1 f.1.2.2.1 f.1.2.2.2.1 f.1.2.2.2.2 ∧ Sl wr f.2.2.1 f.2.2.2.1 f.2.2.2.2.1 f.2.2.2.2.2 ∧ f.1.2.2.1 ≤ 1000000000 ∧ f.2.2.2.1 ≤ 1000000000
theorem LmE.at_.below {w w' : World} {f : LmE} (h : LmE.at_ w f) (hb : Below w.heap.size w w') : LmE.at_ w' f := ⟨h.1.below hb, h.2.1.below hb, h.2.2⟩
def LmE.vs (f : LmE) : List Value := [.bool f.1.1, .slice f.1.2.1 f.1.2.2.1 f.1.2.2.2.1, .bool f.2.1, .slice f.2.2.1 f.2.2.2.1 f.2.2.2.2.1]
def Lfs (wr : World) (g N : Nat) (F : Nat → LmE) : Prop :=
 g < wr.heap.size ∧ ∀ i, i < N → (wr.cell? ⟨g, i * 4, none⟩ = some (.bool (F i).1.1) ∧ wr.cell? ⟨g, i * 4 + 1, none⟩ = some (.slice (F i).1.2.1 (F i).1.2.2.1 (F i).1.2.2.2.1) ∧
  wr.cell? ⟨g, i * 4 + 2, none⟩ = some (.bool (F i).2.1) ∧ wr.cell? ⟨g, i * 4 + 3, none⟩ = some (.slice (F i).2.2.1 (F i).2.2.2.1 (F i).2.2.2.2.1)) ∧ LmE.at_ wr (F i)
theorem Lfs.next {wr w' : World} {g N : Nat} {F : Nat → LmE} (h : Lfs wr g N F) (hb : Below wr.heap.size wr w') : Lfs w' g N F := by
 refine ⟨Nat.lt_of_lt_of_le h.1 hb.size, fun i hi => ?_⟩
 obtain ⟨⟨h0, h1, h2, h3⟩, h4⟩ := h.2 i hi
 obtain ⟨hc, _⟩ := bcell hb
 exact ⟨⟨(hc _ _ h.1).trans h0, (hc _ _ h.1).trans h1, (hc _ _ h.1).trans h2, (hc _ _ h.1).trans h3⟩, h4.below hb⟩
open Classical in
noncomputable def okB (f : LmE) : Bool := decide (okFr f.1.1 f.1.2.2.2.2 f.2.1 f.2.2.2.2.2)
open Classical in
theorem okB_iff (f : LmE) : okB f = true ↔ okFr f.1.1 f.1.2.2.2.2 f.2.1 f.2.2.2.2.2 := by
 unfold okB
 exact decide_eq_true_iff
open Classical in
theorem okB_chk (f : LmE) : chkFr f.1.1 f.1.2.2.2.2 f.2.1 f.2.2.2.2.2 = if okB f then 0 else 1 := by
 unfold okB
 by_cases h : okFr f.1.1 f.1.2.2.2.2 f.2.1 f.2.2.2.2.2
 ·rw [chkFr_ok h, decide_eq_true h]; rfl
 ·rw [chkFr_no h, decide_eq_false h]; rfl
noncomputable def okAll (F : Nat → LmE) : Nat → Bool
 | 0 => true
 | n + 1 => okAll F n && okB (F n)
theorem okAll_no {F : Nat → LmE} {k N : Nat} (hk : k < N) (h : okB (F k) = false) : okAll F N = false := by
 induction N with
 | zero => omega
 | succ n ih =>
  unfold okAll
  rcases Nat.lt_or_ge k n with h1 | h1
  ·rw [ih h1]; rfl
  ·have : k = n := by omega
   subst this
   rw [h, Bool.and_false]
theorem rat_checks_any (g N c : Nat) (F : Nat → LmE) (w : World) (hL : Lfs w g N F) (hN : N ≤ 1000) (hc : N ≤ c) :
  Calls Tryz.prog 158 #[.slice (some ⟨g, 0, none⟩) N c] w (RetV w (.bool (okAll F N))) := by
 have hg := hL.1
 go_enter Tryz.func158, Tryz.ntmps158
 go_wp2_with fail
 go_loopw [7] (fun i wr => ∃ k : Nat, k ≤ N ∧ i = .int .i64 (k : Int) ∧ Hid (okAll F k = true) ∧ Below w.heap.size w wr) (fun i _ => N - (intOf i).toNat)
 case atStart => exact ⟨0, Nat.zero_le _, rfl, Lib.hid rfl, Below.refl _ _⟩
 case round =>
  obtain ⟨k, hk, rfl, HK, hb⟩ := hrel
  have hsz := hb.size
  by_cases hlt : k < N
  ·obtain ⟨hg1, hall⟩ := hL.next hb
   obtain ⟨⟨a0, a1, a2, a3⟩, hS, hS', hn, hn'⟩ := hall k hlt
   have HCk := Lib.hid (okB_chk (F k))
   have HOK : Hid (okAll F (k + 1) = (okAll F k && okB (F k))) := Lib.hid rfl
   have HNO : Hid (okB (F k) = false → okAll F N = false) := Lib.hid (okAll_no hlt)
   obtain ⟨f, hf⟩ : ∃ f, F k = f := ⟨_, rfl⟩
   rw [hf] at a0 a1 a2 a3 hS hS' hn hn' HCk HOK HNO
   obtain ⟨⟨neg, A, n, c1, l⟩, neg', A', n', c1', l'⟩ := f
   simp only at a0 a1 a2 a3 hS hS' hn hn' HCk
   have hlt' : (k : Int) < (N : Int) := by omega
   have hk0 : (0 : Int) ≤ (k : Int) := Int.natCast_nonneg _
   clear hall hf
   go_wp2_with fail
   refine (ratio_check neg neg' A A' n c1 n' c1' l l' _ (hS.alloc _) (hS'.alloc _) hn hn').mono ?_
   rintro e1 w1 ⟨rfl, hb1⟩
   obtain ⟨b, hob⟩ : ∃ b, okB ((neg, A, n, c1, l), (neg', A', n', c1', l')) = b := ⟨_, rfl⟩
   rw [hob] at HCk HOK HNO
   rw [HCk.out]
   clear hob
   cases b with
   | false =>
    have HF : Hid (okAll F N = false) := Lib.hid (HNO.out rfl)
    go_wp2_with fail
    go_ret
    exact ⟨by rw [HF.out]; rfl, (hb.trans (((Below.refl _ _).alloc (Nat.le_refl _) _).mono hsz)).trans (hb1.mono (by simp; omega))⟩
   | true =>
    go_wp2_with fail
    refine ⟨⟨k + 1, hlt, congrArg (Value.int .i64) (by omega), Lib.hid (by rw [HOK.out, HK.out]; rfl), (hb.trans (((Below.refl _ _).alloc (Nat.le_refl _) _).mono hsz)).trans (hb1.mono (by simp; omega))⟩, ?_⟩
    simp [intOf]
    omega
  ·obtain rfl : k = N := by omega
   have hnl : ¬ (k : Int) < (k : Int) := by omega
   go_wp2_with fail
   go_ret
   exact ⟨by rw [HK.out]; rfl, hb⟩
end Go.Proofs.YtgekmbfmfiikkaaGreatDoor
namespace Go.Proofs.YtgekmbfmfiikkaaGreatDoor
open Go.RowKit
theorem Blk.c8 {wr : World} {g : Nat} {a0 a1 a2 a3 a4 a5 a6 a7 : Value} (h : Blk wr g [a0, a1, a2, a3, a4, a5, a6, a7]) : wr.cell? ⟨g, 0, none⟩ = some a0 ∧ wr.cell? ⟨g, 1, none⟩ = some a1 ∧ wr.cell? ⟨g, 2, none⟩ = some a2 ∧ wr.cell? ⟨g, 3, none⟩ = some a3 ∧ wr.cell? ⟨g, 4, none⟩ = some a4 ∧ wr.cell? ⟨g, 5, none⟩ = some a5 ∧ wr.cell? ⟨g, 6, none⟩ = some a6 ∧ wr.cell? ⟨g, 7, none⟩ = some a7 :=
 ⟨(h.2 0 a0 rfl).1, (h.2 1 a1 rfl).1, (h.2 2 a2 rfl).1, (h.2 3 a3 rfl).1, (h.2 4 a4 rfl).1, (h.2 5 a5 rfl).1, (h.2 6 a6 rfl).1, (h.2 7 a7 rfl).1⟩
theorem Blk.f8 {wr : World} {g : Nat} {a0 a1 a2 a3 a4 a5 a6 a7 : Value} (h : Blk wr g [a0, a1, a2, a3, a4, a5, a6, a7]) : wr.frozen? ⟨g, 0, none⟩ = false ∧ wr.frozen? ⟨g, 1, none⟩ = false ∧ wr.frozen? ⟨g, 2, none⟩ = false ∧ wr.frozen? ⟨g, 3, none⟩ = false ∧ wr.frozen? ⟨g, 4, none⟩ = false ∧ wr.frozen? ⟨g, 5, none⟩ = false ∧ wr.frozen? ⟨g, 6, none⟩ = false ∧ wr.frozen? ⟨g, 7, none⟩ = false ∧ g < wr.heap.size :=
 ⟨(h.2 0 a0 rfl).2, (h.2 1 a1 rfl).2, (h.2 2 a2 rfl).2, (h.2 3 a3 rfl).2, (h.2 4 a4 rfl).2, (h.2 5 a5 rfl).2, (h.2 6 a6 rfl).2, (h.2 7 a7 rfl).2, h.1⟩
theorem Mm.set8 {w wr : World} {L : List (Nat × List Value)} {l : List IntAt} {g : Nat} {b0 b0' : Bool} {o0 o0' : Option Addr} {n0 c0 n0' c0' : Nat} {b1 b1' : Bool} {o1 o1' : Option Addr} {n1 c1 n1' c1' : Nat} (h : Mm w ((g, [.bool b0, .slice o0 n0 c0, .bool b0', .slice o0' n0' c0', .bool b1, .slice o1 n1 c1, .bool b1', .slice o1' n1' c1']) :: L) l wr) (hne : ∀ b ∈ L, g ≠ b.1) (s0 : Bool) (A0 : Option Addr) (p0 q0 : Nat) (z0 : Bool) (B0 : Option Addr) (m0 d0 : Nat) (s1 : Bool) (A1 : Option Addr) (p1 q1 : Nat) (z1 : Bool) (B1 : Option Addr) (m1 d1 : Nat) :
  Mm w ((g, [.bool s0, .slice A0 p0 q0, .bool z0, .slice B0 m0 d0, .bool s1, .slice A1 p1 q1, .bool z1, .slice B1 m1 d1]) :: L) l ((((((((wr.setCell ⟨g, 0, none⟩ (.bool s0)).setCell ⟨g, 1, none⟩ (.slice A0 p0 q0)).setCell ⟨g, 2, none⟩ (.bool z0)).setCell ⟨g, 3, none⟩ (.slice B0 m0 d0)).setCell ⟨g, 4, none⟩ (.bool s1)).setCell ⟨g, 5, none⟩ (.slice A1 p1 q1)).setCell ⟨g, 6, none⟩ (.bool z1)).setCell ⟨g, 7, none⟩ (.slice B1 m1 d1)) :=
 ((((((((h.set hne (.bool b0) (.bool s0) rfl (by simp)).set hne (.slice o0 n0 c0) (.slice A0 p0 q0) rfl (by simp)).set hne (.bool b0') (.bool z0) rfl (by simp)).set hne (.slice o0' n0' c0') (.slice B0 m0 d0) rfl (by simp)).set hne (.bool b1) (.bool s1) rfl (by simp)).set hne (.slice o1 n1 c1) (.slice A1 p1 q1) rfl (by simp)).set hne (.bool b1') (.bool z1) rfl (by simp)).set hne (.slice o1' n1' c1') (.slice B1 m1 d1) rfl (by simp))
theorem Blk.c16 {wr : World} {g : Nat} {a0 a1 a2 a3 a4 a5 a6 a7 a8 a9 b0 b1 b2 b3 b4 b5 : Value} (h : Blk wr g [a0, a1, a2, a3, a4, a5, a6, a7, a8, a9, b0, b1, b2, b3, b4, b5]) : wr.cell? ⟨g, 0, none⟩ = some a0 ∧ wr.cell? ⟨g, 1, none⟩ = some a1 ∧ wr.cell? ⟨g, 2, none⟩ = some a2 ∧ wr.cell? ⟨g, 3, none⟩ = some a3 ∧ wr.cell? ⟨g, 4, none⟩ = some a4 ∧ wr.cell? ⟨g, 5, none⟩ = some a5 ∧ wr.cell? ⟨g, 6, none⟩ = some a6 ∧ wr.cell? ⟨g, 7, none⟩ = some a7 ∧ wr.cell? ⟨g, 8, none⟩ = some a8 ∧ wr.cell? ⟨g, 9, none⟩ = some a9 ∧ wr.cell? ⟨g, 10, none⟩ = some b0 ∧ wr.cell? ⟨g, 11, none⟩ = some b1 ∧ wr.cell? ⟨g, 12, none⟩ = some b2 ∧ wr.cell? ⟨g, 13, none⟩ = some b3 ∧ wr.cell? ⟨g, 14, none⟩ = some b4 ∧ wr.cell? ⟨g, 15, none⟩ = some b5 :=
 ⟨(h.2 0 a0 rfl).1, (h.2 1 a1 rfl).1, (h.2 2 a2 rfl).1, (h.2 3 a3 rfl).1, (h.2 4 a4 rfl).1, (h.2 5 a5 rfl).1, (h.2 6 a6 rfl).1, (h.2 7 a7 rfl).1, (h.2 8 a8 rfl).1, (h.2 9 a9 rfl).1, (h.2 10 b0 rfl).1, (h.2 11 b1 rfl).1, (h.2 12 b2 rfl).1, (h.2 13 b3 rfl).1, (h.2 14 b4 rfl).1, (h.2 15 b5 rfl).1⟩
theorem Blk.f16 {wr : World} {g : Nat} {a0 a1 a2 a3 a4 a5 a6 a7 a8 a9 b0 b1 b2 b3 b4 b5 : Value} (h : Blk wr g [a0, a1, a2, a3, a4, a5, a6, a7, a8, a9, b0, b1, b2, b3, b4, b5]) : wr.frozen? ⟨g, 0, none⟩ = false ∧ wr.frozen? ⟨g, 1, none⟩ = false ∧ wr.frozen? ⟨g, 2, none⟩ = false ∧ wr.frozen? ⟨g, 3, none⟩ = false ∧ wr.frozen? ⟨g, 4, none⟩ = false ∧ wr.frozen? ⟨g, 5, none⟩ = false ∧ wr.frozen? ⟨g, 6, none⟩ = false ∧ wr.frozen? ⟨g, 7, none⟩ = false ∧ wr.frozen? ⟨g, 8, none⟩ = false ∧ wr.frozen? ⟨g, 9, none⟩ = false ∧ wr.frozen? ⟨g, 10, none⟩ = false ∧ wr.frozen? ⟨g, 11, none⟩ = false ∧ wr.frozen? ⟨g, 12, none⟩ = false ∧ wr.frozen? ⟨g, 13, none⟩ = false ∧ wr.frozen? ⟨g, 14, none⟩ = false ∧ wr.frozen? ⟨g, 15, none⟩ = false ∧ g < wr.heap.size :=
 ⟨(h.2 0 a0 rfl).2, (h.2 1 a1 rfl).2, (h.2 2 a2 rfl).2, (h.2 3 a3 rfl).2, (h.2 4 a4 rfl).2, (h.2 5 a5 rfl).2, (h.2 6 a6 rfl).2, (h.2 7 a7 rfl).2, (h.2 8 a8 rfl).2, (h.2 9 a9 rfl).2, (h.2 10 b0 rfl).2, (h.2 11 b1 rfl).2, (h.2 12 b2 rfl).2, (h.2 13 b3 rfl).2, (h.2 14 b4 rfl).2, (h.2 15 b5 rfl).2, h.1⟩
theorem Mm.set16 {w wr : World} {L : List (Nat × List Value)} {l : List IntAt} {g : Nat} {b0 b0' : Bool} {o0 o0' : Option Addr} {n0 c0 n0' c0' : Nat} {b1 b1' : Bool} {o1 o1' : Option Addr} {n1 c1 n1' c1' : Nat} {b2 b2' : Bool} {o2 o2' : Option Addr} {n2 c2 n2' c2' : Nat} {b3 b3' : Bool} {o3 o3' : Option Addr} {n3 c3 n3' c3' : Nat} (h : Mm w ((g, [.bool b0, .slice o0 n0 c0, .bool b0', .slice o0' n0' c0', .bool b1, .slice o1 n1 c1, .bool b1', .slice o1' n1' c1', .bool b2, .slice o2 n2 c2, .bool b2', .slice o2' n2' c2', .bool b3, .slice o3 n3 c3, .bool b3', .slice o3' n3' c3']) :: L) l wr) (hne : ∀ b ∈ L, g ≠ b.1) (s0 : Bool) (A0 : Option Addr) (p0 q0 : Nat) (z0 : Bool) (B0 : Option Addr) (m0 d0 : Nat) (s1 : Bool) (A1 : Option Addr) (p1 q1 : Nat) (z1 : Bool) (B1 : Option Addr) (m1 d1 : Nat) (s2 : Bool) (A2 : Option Addr) (p2 q2 : Nat) (z2 : Bool) (B2 : Option Addr) (m2 d2 : Nat) (s3 : Bool) (A3 : Option Addr) (p3 q3 : Nat) (z3 : Bool) (B3 : Option Addr) (m3 d3 : Nat) :
  Mm w ((g, [.bool s0, .slice A0 p0 q0, .bool z0, .slice B0 m0 d0, .bool s1, .slice A1 p1 q1, .bool z1, .slice B1 m1 d1, .bool s2, .slice A2 p2 q2, .bool z2, .slice B2 m2 d2, .bool s3, .slice A3 p3 q3, .bool z3, .slice B3 m3 d3]) :: L) l ((((((((((((((((wr.setCell ⟨g, 0, none⟩ (.bool s0)).setCell ⟨g, 1, none⟩ (.slice A0 p0 q0)).setCell ⟨g, 2, none⟩ (.bool z0)).setCell ⟨g, 3, none⟩ (.slice B0 m0 d0)).setCell ⟨g, 4, none⟩ (.bool s1)).setCell ⟨g, 5, none⟩ (.slice A1 p1 q1)).setCell ⟨g, 6, none⟩ (.bool z1)).setCell ⟨g, 7, none⟩ (.slice B1 m1 d1)).setCell ⟨g, 8, none⟩ (.bool s2)).setCell ⟨g, 9, none⟩ (.slice A2 p2 q2)).setCell ⟨g, 10, none⟩ (.bool z2)).setCell ⟨g, 11, none⟩ (.slice B2 m2 d2)).setCell ⟨g, 12, none⟩ (.bool s3)).setCell ⟨g, 13, none⟩ (.slice A3 p3 q3)).setCell ⟨g, 14, none⟩ (.bool z3)).setCell ⟨g, 15, none⟩ (.slice B3 m3 d3)) :=
 ((((((((((((((((h.set hne (.bool b0) (.bool s0) rfl (by simp)).set hne (.slice o0 n0 c0) (.slice A0 p0 q0) rfl (by simp)).set hne (.bool b0') (.bool z0) rfl (by simp)).set hne (.slice o0' n0' c0') (.slice B0 m0 d0) rfl (by simp)).set hne (.bool b1) (.bool s1) rfl (by simp)).set hne (.slice o1 n1 c1) (.slice A1 p1 q1) rfl (by simp)).set hne (.bool b1') (.bool z1) rfl (by simp)).set hne (.slice o1' n1' c1') (.slice B1 m1 d1) rfl (by simp)).set hne (.bool b2) (.bool s2) rfl (by simp)).set hne (.slice o2 n2 c2) (.slice A2 p2 q2) rfl (by simp)).set hne (.bool b2') (.bool z2) rfl (by simp)).set hne (.slice o2' n2' c2') (.slice B2 m2 d2) rfl (by simp)).set hne (.bool b3) (.bool s3) rfl (by simp)).set hne (.slice o3 n3 c3) (.slice A3 p3 q3) rfl (by simp)).set hne (.bool b3') (.bool z3) rfl (by simp)).set hne (.slice o3' n3' c3') (.slice B3 m3 d3) rfl (by simp))
def RetGa (W : World) (x y : Rat) (e : Ending) (w' : World) : Prop :=
 ∃ (s0 : Bool) (A0 : Option Addr) (p0 q0 : Nat) (z0 : Bool) (B0 : Option Addr) (m0 d0 : Nat) (s1 : Bool) (A1 : Option Addr) (p1 q1 : Nat) (z1 : Bool) (B1 : Option Addr) (m1 d1 : Nat),
  e = .returned (.agg #[.bool s0, .slice A0 p0 q0, .bool z0, .slice B0 m0 d0, .bool s1, .slice A1 p1 q1, .bool z1, .slice B1 m1 d1]) ∧
  IsInt w' s0 A0 p0 q0 x.num ∧ IsInt w' z0 B0 m0 d0 (x.den : Int) ∧ IsInt w' s1 A1 p1 q1 y.num ∧ IsInt w' z1 B1 m1 d1 (y.den : Int) ∧ Below W.heap.size W w'
theorem Sz.zero : Sz 0 1 := ⟨by decide, by decide⟩
theorem Sz.one : Sz 1 1 := ⟨by decide, by decide⟩
theorem sz_of {w w' : World} {neg neg' : Bool} {A A' : Option Addr} {n c n' c' : Nat} {x : Rat} (h : IsInt w neg A n c x.num) (k : IsInt w' neg' A' n' c' (x.den : Int)) {M : Nat} (hn : n ≤ M) (hn' : n' ≤ M) : Sz x M := by
 have h1 := isInt_lt h
 have h2 := isInt_lt k
 rw [show Lm.B ^ n = 2 ^ (32 * n) by rw [Nat.pow_mul]] at h1
 rw [show Lm.B ^ n' = 2 ^ (32 * n') by rw [Nat.pow_mul]] at h2
 exact ⟨Nat.lt_of_lt_of_le h1 (Nat.pow_le_pow_right (by decide) (by omega)), by rw [Int.natAbs_natCast] at h2; exact Nat.lt_of_lt_of_le h2 (Nat.pow_le_pow_right (by decide) (by omega))⟩
end Go.Proofs.YtgekmbfmfiikkaaGreatDoor
namespace Go.Proofs.YtgekmbfmfiikkaaGreatDoor
open Go.RowKit
def two (a b : LmE) : Nat → LmE := fun i => if i = 0 then a else b
def four (a b c d : LmE) : Nat → LmE := fun i => if i = 0 then a else if i = 1 then b else if i = 2 then c else d
theorem lfs_two (w : World) {g : Nat} (hg : w.heap.size = g) (t : TypeId) {a b : LmE} (ha : LmE.at_ w a) (hb : LmE.at_ w b) : Lfs (w.alloc (.cells (a.vs ++ b.vs).toArray t)) g 2 (two a b) := by
 have hB := Blk.new w hg (a.vs ++ b.vs) t
 have hn : Below w.heap.size w (w.alloc (.cells (a.vs ++ b.vs).toArray t)) := (Below.refl _ _).alloc (Nat.le_refl _) _
 refine ⟨hB.1, fun i hi => ?_⟩
 match i, hi with
 | 0, _ => exact ⟨⟨(hB.2 0 _ rfl).1, (hB.2 1 _ rfl).1, (hB.2 2 _ rfl).1, (hB.2 3 _ rfl).1⟩, LmE.at_.below ha hn⟩
 | 1, _ => exact ⟨⟨(hB.2 4 _ rfl).1, (hB.2 5 _ rfl).1, (hB.2 6 _ rfl).1, (hB.2 7 _ rfl).1⟩, LmE.at_.below hb hn⟩
theorem lfs_four (w : World) {g : Nat} (hg : w.heap.size = g) (t : TypeId) {a b c d : LmE} (ha : LmE.at_ w a) (hb : LmE.at_ w b) (hc : LmE.at_ w c) (hd : LmE.at_ w d) : Lfs (w.alloc (.cells (a.vs ++ b.vs ++ c.vs ++ d.vs).toArray t)) g 4 (four a b c d) := by
 have hB := Blk.new w hg (a.vs ++ b.vs ++ c.vs ++ d.vs) t
 have hn : Below w.heap.size w (w.alloc (.cells (a.vs ++ b.vs ++ c.vs ++ d.vs).toArray t)) := (Below.refl _ _).alloc (Nat.le_refl _) _
 refine ⟨hB.1, fun i hi => ?_⟩
 match i, hi with
 | 0, _ => exact ⟨⟨(hB.2 0 _ rfl).1, (hB.2 1 _ rfl).1, (hB.2 2 _ rfl).1, (hB.2 3 _ rfl).1⟩, LmE.at_.below ha hn⟩
 | 1, _ => exact ⟨⟨(hB.2 4 _ rfl).1, (hB.2 5 _ rfl).1, (hB.2 6 _ rfl).1, (hB.2 7 _ rfl).1⟩, LmE.at_.below hb hn⟩
 | 2, _ => exact ⟨⟨(hB.2 8 _ rfl).1, (hB.2 9 _ rfl).1, (hB.2 10 _ rfl).1, (hB.2 11 _ rfl).1⟩, LmE.at_.below hc hn⟩
 | 3, _ => exact ⟨⟨(hB.2 12 _ rfl).1, (hB.2 13 _ rfl).1, (hB.2 14 _ rfl).1, (hB.2 15 _ rfl).1⟩, LmE.at_.below hd hn⟩
theorem okAll_two (a b : LmE) : okAll (two a b) 2 = (okB a && okB b) := by simp [okAll, two]
theorem okAll_four (a b c d : LmE) : okAll (four a b c d) 4 = (okB a && okB b && okB c && okB d) := by simp [okAll, four]
noncomputable def rv (f : LmE) : Rat := Rat.divInt (sgnd f.1.1 (Lm.lv f.1.2.2.2.2)) (sgnd f.2.1 (Lm.lv f.2.2.2.2.2))
theorem ok_num {f : LmE} (h : okB f = true) : (rv f).num = sgnd f.1.1 (Lm.lv f.1.2.2.2.2) ∧ ((rv f).den : Int) = sgnd f.2.1 (Lm.lv f.2.2.2.2.2) := by
 have ho := (okB_iff f).1 h
 have h3 := ho.2.2.1
 have hg : (1 : Nat) = Nat.gcd (sgnd f.1.1 (Lm.lv f.1.2.2.2.2)).natAbs (sgnd f.2.1 (Lm.lv f.2.2.2.2.2)).natAbs := by rw [sgnd_abs, sgnd_abs]; exact ho.2.2.2.symm
 have e1 := low_num (p := sgnd f.1.1 (Lm.lv f.1.2.2.2.2)) (q := sgnd f.2.1 (Lm.lv f.2.2.2.2.2)) (by omega) hg
 have e2 := low_den (p := sgnd f.1.1 (Lm.lv f.1.2.2.2.2)) (q := sgnd f.2.1 (Lm.lv f.2.2.2.2.2)) (by omega) hg
 unfold tn at e1 e2
 rw [if_neg (by omega), Int.natCast_one, Int.tdiv_one] at e1 e2
 exact ⟨e1.symm, e2.symm⟩
theorem ok_ints {w : World} {f : LmE} (h : okB f = true) (ha : LmE.at_ w f) :
  IsInt w f.1.1 f.1.2.1 f.1.2.2.1 f.1.2.2.2.1 (rv f).num ∧ IsInt w f.2.1 f.2.2.1 f.2.2.2.1 f.2.2.2.2.1 ((rv f).den : Int) ∧ Sz (rv f) 2048 := by
 obtain ⟨e1, e2⟩ := ok_num h
 have ho := (okB_iff f).1 h
 have h1 : IsInt w f.1.1 f.1.2.1 f.1.2.2.1 f.1.2.2.2.1 (rv f).num := ⟨_, ha.1, ho.1.2.1, ho.1.2.2, e1⟩
 have h2 : IsInt w f.2.1 f.2.2.1 f.2.2.2.1 f.2.2.2.2.1 ((rv f).den : Int) := ⟨_, ha.2.1, ho.2.1.2.1, ho.2.1.2.2, e2⟩
 refine ⟨h1, h2, sz_of h1 h2 ?_ ?_⟩
 ·rw [← ha.1.len]; exact ho.1.1
 ·rw [← ha.2.1.len]; exact ho.2.1.1
noncomputable def okM (a b c d : LmE) : Bool := okB a && okB b && okB c && okB d && decide (rv a * rv d - rv b * rv c = 1)
noncomputable def chkBm (a b : LmE) : Int := if okB a && okB b then (if 0 < rv b then 0 else 8) else 1
theorem rat_num_sign (x : Rat) : (0 < x → x.num.sign = 1) ∧ (¬ 0 < x → x.num.sign = 0 ∨ x.num.sign = -1) := by
 have h := rcmp_sign x 0
 have e : x.num * (((0 : Rat).den : Nat) : Int) - (0 : Rat).num * (x.den : Int) = x.num := by
  rw [show (0 : Rat).num = 0 from rfl, show (0 : Rat).den = 1 from rfl]
  omega
 rw [e] at h
 rw [h]
 unfold rcmp
 constructor
 ·intro hp
  rw [if_neg (by grind), if_pos hp]
 ·intro hp
  by_cases hn : x < 0
  ·rw [if_pos hn]; exact .inr rfl
  ·rw [if_neg hn, if_neg hp]; exact .inl rfl
theorem rcmp_eq (x y : Rat) : (rcmp x y == 0) = decide (x = y) := by
 unfold rcmp
 by_cases h1 : x < y
 ·rw [if_pos h1, decide_eq_false (fun e => by rw [e] at h1; exact Rat.lt_irrefl h1)]; rfl
 ·rw [if_neg h1]
  by_cases h2 : y < x
  ·rw [if_pos h2, decide_eq_false (fun e => by rw [e] at h2; exact Rat.lt_irrefl h2)]; rfl
  ·rw [if_neg h2, decide_eq_true (Rat.le_antisymm (Rat.not_lt.1 h2) (Rat.not_lt.1 h1))]; rfl
end Go.Proofs.YtgekmbfmfiikkaaGreatDoor
namespace Go.Proofs.YtgekmbfmfiikkaaGreatDoor
open Go.RowKit
theorem icmp_rcmp (x y : Rat) : icmp (x.num * (y.den : Int)) (y.num * (x.den : Int)) = rcmp x y := by
 rw [← rcmp_sign]
 obtain ⟨h1, h2, h3⟩ := icmp_facts (x.num * (y.den : Int)) (y.num * (x.den : Int))
 rcases Int.lt_trichotomy (x.num * (y.den : Int)) (y.num * (x.den : Int)) with h | h | h
 ·rw [h1 h, Int.sign_eq_neg_one_of_neg (by omega)]
 ·rw [h3 h, h, Int.sub_self]; rfl
 ·rw [h2 h, Int.sign_eq_one_of_pos (by omega)]
theorem rat_cmp_any (neg neg' : Bool) (A A' : Option Addr) (n c n' c' : Nat) (nfg nfg' : Bool) (C C' : Option Addr) (p q p' q' : Nat) (x y : Rat) (v : Int) (m k : Nat) (w : World) (hx : IsInt w neg A n c x.num) (hx' : IsInt w neg' A' n' c' (x.den : Int)) (hy : IsInt w nfg C p q y.num) (hy' : IsInt w nfg' C' p' q' (y.den : Int)) (sx : Sz x m) (sy : Sz y k) (hm : m + k < 1000000) (hv : Hid (rcmp x y = v)) :
  Calls Tryz.prog 142 #[.agg #[.bool neg, .slice A n c, .bool neg', .slice A' n' c'], .agg #[.bool nfg, .slice C p q, .bool nfg', .slice C' p' q']] w (RetV w (.int .i64 v)) := by
 have K0 := ((((((Mm.nil w).int hx).int hx').int hy).int hy').var (g := w.heap.size) rfl [.bool neg, .slice A n c, .bool neg', .slice A' n' c'] 26).var (g := w.heap.size + 1) (by simp) [.bool nfg, .slice C p q, .bool nfg', .slice C' p' q'] 26
 have hn := int_len hx sx.1
 have hn' := int_len hx' sx.2
 have hp := int_len hy sy.1
 have hp' := int_len hy' sy.2
 have HP1 : Hid ((x.num * (y.den : Int)).natAbs < 2 ^ (32 * (m + k))) := Lib.hid (by rw [Int.natAbs_mul]; exact mul_lt_pow sx.1 sy.2)
 have HP2 : Hid ((y.num * (x.den : Int)).natAbs < 2 ^ (32 * (m + k))) := Lib.hid (by rw [Int.natAbs_mul, Nat.add_comm m k]; exact mul_lt_pow sy.1 sx.2)
 have HP3 : Hid ((x.num * (y.den : Int) - y.num * (x.den : Int)).natAbs < 2 ^ (32 * (m + k + 1))) := Lib.hid (by
  have h3 := add_lt_pow HP1.out HP2.out
  have h4 : (x.num * (y.den : Int) - y.num * (x.den : Int)).natAbs ≤ (x.num * (y.den : Int)).natAbs + (y.num * (x.den : Int)).natAbs := by omega
  omega)
 have HS : Hid (icmp (x.num * (y.den : Int)) (y.num * (x.den : Int)) = v) := Lib.hid (by rw [icmp_rcmp]; exact hv.out)
 clear hv HP3
 clear hx hx' hy hy' sx sy
 go_enter Tryz.func142, Tryz.ntmps142
 go_wp2_with fail
 generalize ((w.alloc (.cells #[.bool neg, .slice A n c, .bool neg', .slice A' n' c'] 26)).alloc (.cells #[.bool nfg, .slice C p q, .bool nfg', .slice C' p' q'] 26)) = w0 at K0 ⊢
 obtain ⟨⟨_, _, _, _⟩, ⟨_, _, _, _⟩, _⟩ := (K0.blk (g := w.heap.size) (by repeat constructor)).four
 obtain ⟨⟨_, _, _, _⟩, ⟨_, _, _, _⟩, _⟩ := (K0.blk (g := w.heap.size + 1) (by repeat constructor)).four
 go_region_held3 (fun w' => w'.cell? ⟨w.heap.size, 0, none⟩ = some (.bool neg) ∧ w'.cell? ⟨w.heap.size, 1, none⟩ = some (.slice A n c) ∧ w'.cell? ⟨w.heap.size, 2, none⟩ = some (.bool neg') ∧ w'.cell? ⟨w.heap.size, 3, none⟩ = some (.slice A' n' c') ∧ w'.cell? ⟨w.heap.size + 1, 0, none⟩ = some (.bool nfg) ∧ w'.cell? ⟨w.heap.size + 1, 1, none⟩ = some (.slice C p q) ∧ w'.cell? ⟨w.heap.size + 1, 2, none⟩ = some (.bool nfg') ∧ w'.cell? ⟨w.heap.size + 1, 3, none⟩ = some (.slice C' p' q'))
  (go_keep)
  (first
   | (go_at_call 221; apply Calls.withMm (w0 := w); (case K => with_reducible repeat (first | exact K0 | apply Mm.drew | apply Mm.drewN)); intro KX; (with_reducible refine (ex_times_any neg nfg' A C' n c p' q' x.num (y.den : Int) _ ?_ ?_ (by omega) (by omega)).mono ?_); (with_reducible exact KX.at_ (by simp)); (with_reducible exact KX.at_ (by simp)); rintro e1 w1 ⟨neg1, A1, n1, c1, rfl, I1, hb1⟩; (with_reducible have K1 := (KX.next hb1).int I1); have hn1 : n1 ≤ 1000000 := Nat.le_trans (int_len I1 HP1.out) (by omega); have Q1x := (K1.blk (g := w.heap.size) (by repeat constructor)).four; obtain ⟨⟨qa1x, qb1x, qc1x, qd1x⟩, ⟨qe1x, qf1x, qg1x, qh1x⟩, qi1x⟩ := Q1x; have Q1y := (K1.blk (g := w.heap.size + 1) (by repeat constructor)).four; obtain ⟨⟨qa1y, qb1y, qc1y, qd1y⟩, ⟨qe1y, qf1y, qg1y, qh1y⟩, qi1y⟩ := Q1y; clear KX I1 hb1)
   | (go_at_call 221; apply Calls.withMm (w0 := w); (case K => with_reducible repeat (first | exact K1 | apply Mm.drew | apply Mm.drewN)); intro KX; (with_reducible refine (ex_times_any nfg neg' C A' p q n' c' y.num (x.den : Int) _ ?_ ?_ (by omega) (by omega)).mono ?_); (with_reducible exact KX.at_ (by simp)); (with_reducible exact KX.at_ (by simp)); rintro e2 w2 ⟨neg2, A2, n2, c2, rfl, I2, hb2⟩; (with_reducible have K2 := (KX.next hb2).int I2); have hn2 : n2 ≤ 1000000 := Nat.le_trans (int_len I2 HP2.out) (by omega); have Q2x := (K2.blk (g := w.heap.size) (by repeat constructor)).four; obtain ⟨⟨qa2x, qb2x, qc2x, qd2x⟩, ⟨qe2x, qf2x, qg2x, qh2x⟩, qi2x⟩ := Q2x; have Q2y := (K2.blk (g := w.heap.size + 1) (by repeat constructor)).four; obtain ⟨⟨qa2y, qb2y, qc2y, qd2y⟩, ⟨qe2y, qf2y, qg2y, qh2y⟩, qi2y⟩ := Q2y; clear KX I2 hb2)
   | (go_at_call 220; apply Calls.withMm (w0 := w); (case K => with_reducible repeat (first | exact K2 | apply Mm.drew | apply Mm.drewN)); intro KX; (with_reducible refine (ex_cmp_of neg1 neg2 A1 A2 n1 c1 n2 c2 (x.num * (y.den : Int)) (y.num * (x.den : Int)) v _ ?_ ?_ (by omega) (by omega) HS).mono ?_); (with_reducible exact KX.at_ (by simp)); (with_reducible exact KX.at_ (by simp)); rintro e3 w3 ⟨rfl, hb3⟩; (with_reducible have K3 := (KX.next hb3)); have Q3x := (K3.blk (g := w.heap.size) (by repeat constructor)).four; obtain ⟨⟨qa3x, qb3x, qc3x, qd3x⟩, ⟨qe3x, qf3x, qg3x, qh3x⟩, qi3x⟩ := Q3x; have Q3y := (K3.blk (g := w.heap.size + 1) (by repeat constructor)).four; obtain ⟨⟨qa3y, qb3y, qc3y, qd3y⟩, ⟨qe3y, qf3y, qg3y, qh3y⟩, qi3y⟩ := Q3y; clear KX hb3))
 all_goals (go_wp2_with fail)
 all_goals go_ret
 all_goals exact ⟨rfl, K3.1⟩
theorem rat_times_any (neg neg' : Bool) (A A' : Option Addr) (n c n' c' : Nat) (nfg nfg' : Bool) (C C' : Option Addr) (p q p' q' : Nat) (x y : Rat) (r : Rat) (m k : Nat) (w : World) (hx : IsInt w neg A n c x.num) (hx' : IsInt w neg' A' n' c' (x.den : Int)) (hy : IsInt w nfg C p q y.num) (hy' : IsInt w nfg' C' p' q' (y.den : Int)) (sx : Sz x m) (sy : Sz y k) (hm : m + k < 1000000) (hr : Hid (x * y = r)) :
  Calls Tryz.prog 140 #[.agg #[.bool neg, .slice A n c, .bool neg', .slice A' n' c'], .agg #[.bool nfg, .slice C p q, .bool nfg', .slice C' p' q']] w (RetFr w r) :=
 (owr_times_any neg neg' A A' n c n' c' nfg nfg' C C' p q p' q' x y r m k w hx hx' hy hy' sx sy hm hr).mono fun _ _ h => h.fg
theorem rat_plus_any (neg neg' : Bool) (A A' : Option Addr) (n c n' c' : Nat) (nfg nfg' : Bool) (C C' : Option Addr) (p q p' q' : Nat) (x y : Rat) (r : Rat) (m k : Nat) (w : World) (hx : IsInt w neg A n c x.num) (hx' : IsInt w neg' A' n' c' (x.den : Int)) (hy : IsInt w nfg C p q y.num) (hy' : IsInt w nfg' C' p' q' (y.den : Int)) (sx : Sz x m) (sy : Sz y k) (hm : m + k < 1000000) (hr : Hid (x + y = r)) :
  Calls Tryz.prog 141 #[.agg #[.bool neg, .slice A n c, .bool neg', .slice A' n' c'], .agg #[.bool nfg, .slice C p q, .bool nfg', .slice C' p' q']] w (RetFr w r) :=
 (owr_plus_any neg neg' A A' n c n' c' nfg nfg' C C' p q p' q' x y r m k w hx hx' hy hy' sx sy hm hr).mono fun _ _ h => h.fg
theorem rat_minus_any (neg neg' : Bool) (A A' : Option Addr) (n c n' c' : Nat) (nfg nfg' : Bool) (C C' : Option Addr) (p q p' q' : Nat) (x y : Rat) (r : Rat) (m k : Nat) (w : World) (hx : IsInt w neg A n c x.num) (hx' : IsInt w neg' A' n' c' (x.den : Int)) (hy : IsInt w nfg C p q y.num) (hy' : IsInt w nfg' C' p' q' (y.den : Int)) (sx : Sz x m) (sy : Sz y k) (hm : m + k < 1000000) (hr : Hid (x - y = r)) :
  Calls Tryz.prog 139 #[.agg #[.bool neg, .slice A n c, .bool neg', .slice A' n' c'], .agg #[.bool nfg, .slice C p q, .bool nfg', .slice C' p' q']] w (RetFr w r) :=
 (owr_minus_any neg neg' A A' n c n' c' nfg nfg' C C' p q p' q' x y r m k w hx hx' hy hy' sx sy hm hr).mono fun _ _ h => h.fg
end Go.Proofs.YtgekmbfmfiikkaaGreatDoor
namespace Go.Proofs.YtgekmbfmfiikkaaGreatDoor
open Go.RowKit
def OkF (w : World) (f : LmE) (r : Rat) : Prop := LmE.at_ w f ∧ okB f = true ∧ rv f = r
theorem OkF.next {w w' : World} {f : LmE} {r : Rat} (h : OkF w f r) (hb : Below w.heap.size w w') : OkF w' f r := ⟨LmE.at_.below h.1 hb, h.2⟩
theorem okF_of {w : World} {neg neg' : Bool} {A A' : Option Addr} {n c n' c' : Nat} {r : Rat} (I : IsInt w neg A n c r.num) (J : IsInt w neg' A' n' c' (r.den : Int)) (hs : Sz r 2048) :
  ∃ l l', OkF w ((neg, A, n, c, l), (neg', A', n', c', l')) r := by
 have h1 := int_len I hs.1
 have h2 := int_len J hs.2
 obtain ⟨l, S1, c1, g1, z1⟩ := I
 obtain ⟨l', S2, c2, g2, z2⟩ := J
 have hd : 0 < sgnd neg' (Lm.lv l') := by rw [← z2]; have := r.den_nz; omega
 have hg : Nat.gcd (Lm.lv l) (Lm.lv l') = 1 := by
  have e1 : r.num.natAbs = Lm.lv l := by rw [z1, sgnd_abs]
  have e2 : r.den = Lm.lv l' := by
   have : ((r.den : Int)).natAbs = Lm.lv l' := by rw [z2, sgnd_abs]
   simpa using this
  rw [← e1, ← e2]
  exact r.reduced
 refine ⟨l, l', ⟨S1, S2, Nat.le_trans h1 (by decide), Nat.le_trans h2 (by decide)⟩, (okB_iff _).2 ⟨⟨by show l.length ≤ 2048; have := S1.len; omega, c1, g1⟩, ⟨by show l'.length ≤ 2048; have := S2.len; omega, c2, g2⟩, hd, hg⟩, ?_⟩
 show Rat.divInt (sgnd neg (Lm.lv l)) (sgnd neg' (Lm.lv l')) = r
 rw [← z1, ← z2]
 exact Rat.num_divInt_den r
theorem OkF.ints {w : World} {neg : Bool} {A : Option Addr} {n c : Nat} {l : List Nat} {neg' : Bool} {A' : Option Addr} {n' c' : Nat} {l' : List Nat} {r : Rat} (h : OkF w ((neg, A, n, c, l), (neg', A', n', c', l')) r) : IsInt w neg A n c r.num ∧ IsInt w neg' A' n' c' (r.den : Int) ∧ Sz r 2048 := by
 have := ok_ints h.2.1 h.1
 rw [h.2.2] at this
 exact this
end Go.Proofs.YtgekmbfmfiikkaaGreatDoor
namespace Go.Proofs.YtgekmbfmfiikkaaGreatDoor
open Go.RowKit
def RetFk (W : World) (x : Rat) (e : Ending) (w' : World) : Prop :=
 ∃ (neg : Bool) (A : Option Addr) (n c : Nat) (l : List Nat) (neg' : Bool) (A' : Option Addr) (n' c' : Nat) (l' : List Nat), e = .returned (.tuple #[.agg #[.bool neg, .slice A n c, .bool neg', .slice A' n' c'], .int .i64 0]) ∧ OkF w' ((neg, A, n, c, l), (neg', A', n', c', l')) x ∧ Below W.heap.size W w'
end Go.Proofs.YtgekmbfmfiikkaaGreatDoor
