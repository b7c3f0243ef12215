/-
  A walk's memory: blocks of eight and of sixteen cells; complex numbers of two fractions.
  More of a walk's memory that tells what is owned.
  The program's fractions (package ratio): products, quotients, sums, differences; held against one another.
  All of a list written out, one by one.
  May a fraction be? (ratio.Check, polestarref02.Check)
-/
import Derived.Test.YtgekmbfmfiikkaaGreatDoorBkP
import Derived.Test.YtgekmbfmfiikkaaGreatDoorFrR
import Derived.Test.YtgekmbfmfiikkaaGreatDoorExV
import Derived.Test.YtgekmbfmfiikkaaGreatDoorOwH
import Derived.Test.YtgekmbfmfiikkaaGreatDoorRaL
namespace Go.Proofs.YtgekmbfmfiikkaaGreatDoor
open Go.RowKit

theorem Blk.c8 {wr : World} {g : Nat} {a0 a1 a2 a3 a4 a5 a6 a7 : Value} (h : Blk wr g [a0, a1, a2, a3, a4, a5, a6, a7]) : wr.cell? ⟨g, 0, none⟩ = some a0 ∧ wr.cell? ⟨g, 1, none⟩ = some a1 ∧ wr.cell? ⟨g, 2, none⟩ = some a2 ∧ wr.cell? ⟨g, 3, none⟩ = some a3 ∧ wr.cell? ⟨g, 4, none⟩ = some a4 ∧ wr.cell? ⟨g, 5, none⟩ = some a5 ∧ wr.cell? ⟨g, 6, none⟩ = some a6 ∧ wr.cell? ⟨g, 7, none⟩ = some a7 :=
 ⟨(h.2 0 a0 rfl).1, (h.2 1 a1 rfl).1, (h.2 2 a2 rfl).1, (h.2 3 a3 rfl).1, (h.2 4 a4 rfl).1, (h.2 5 a5 rfl).1, (h.2 6 a6 rfl).1, (h.2 7 a7 rfl).1⟩
theorem Blk.f8 {wr : World} {g : Nat} {a0 a1 a2 a3 a4 a5 a6 a7 : Value} (h : Blk wr g [a0, a1, a2, a3, a4, a5, a6, a7]) : wr.frozen? ⟨g, 0, none⟩ = false ∧ wr.frozen? ⟨g, 1, none⟩ = false ∧ wr.frozen? ⟨g, 2, none⟩ = false ∧ wr.frozen? ⟨g, 3, none⟩ = false ∧ wr.frozen? ⟨g, 4, none⟩ = false ∧ wr.frozen? ⟨g, 5, none⟩ = false ∧ wr.frozen? ⟨g, 6, none⟩ = false ∧ wr.frozen? ⟨g, 7, none⟩ = false ∧ g < wr.heap.size :=
 ⟨(h.2 0 a0 rfl).2, (h.2 1 a1 rfl).2, (h.2 2 a2 rfl).2, (h.2 3 a3 rfl).2, (h.2 4 a4 rfl).2, (h.2 5 a5 rfl).2, (h.2 6 a6 rfl).2, (h.2 7 a7 rfl).2, h.1⟩
set_option maxHeartbeats 3200000 in
set_option maxRecDepth 100000 in
theorem Mm.set8 {w wr : World} {L : List (Nat × List Value)} {l : List IntAt} {g : Nat} {b0 b0' : Bool} {o0 o0' : Option Addr} {n0 c0 n0' c0' : Nat} {b1 b1' : Bool} {o1 o1' : Option Addr} {n1 c1 n1' c1' : Nat} (h : Mm w ((g, [.bool b0, .slice o0 n0 c0, .bool b0', .slice o0' n0' c0', .bool b1, .slice o1 n1 c1, .bool b1', .slice o1' n1' c1']) :: L) l wr) (hne : ∀ b ∈ L, g ≠ b.1) (s0 : Bool) (A0 : Option Addr) (p0 q0 : Nat) (z0 : Bool) (B0 : Option Addr) (m0 d0 : Nat) (s1 : Bool) (A1 : Option Addr) (p1 q1 : Nat) (z1 : Bool) (B1 : Option Addr) (m1 d1 : Nat) :
  Mm w ((g, [.bool s0, .slice A0 p0 q0, .bool z0, .slice B0 m0 d0, .bool s1, .slice A1 p1 q1, .bool z1, .slice B1 m1 d1]) :: L) l ((((((((wr.setCell ⟨g, 0, none⟩ (.bool s0)).setCell ⟨g, 1, none⟩ (.slice A0 p0 q0)).setCell ⟨g, 2, none⟩ (.bool z0)).setCell ⟨g, 3, none⟩ (.slice B0 m0 d0)).setCell ⟨g, 4, none⟩ (.bool s1)).setCell ⟨g, 5, none⟩ (.slice A1 p1 q1)).setCell ⟨g, 6, none⟩ (.bool z1)).setCell ⟨g, 7, none⟩ (.slice B1 m1 d1)) :=
 ((((((((h.set hne (.bool b0) (.bool s0) rfl (by simp)).set hne (.slice o0 n0 c0) (.slice A0 p0 q0) rfl (by simp)).set hne (.bool b0') (.bool z0) rfl (by simp)).set hne (.slice o0' n0' c0') (.slice B0 m0 d0) rfl (by simp)).set hne (.bool b1) (.bool s1) rfl (by simp)).set hne (.slice o1 n1 c1) (.slice A1 p1 q1) rfl (by simp)).set hne (.bool b1') (.bool z1) rfl (by simp)).set hne (.slice o1' n1' c1') (.slice B1 m1 d1) rfl (by simp))
theorem Blk.c16 {wr : World} {g : Nat} {a0 a1 a2 a3 a4 a5 a6 a7 a8 a9 b0 b1 b2 b3 b4 b5 : Value} (h : Blk wr g [a0, a1, a2, a3, a4, a5, a6, a7, a8, a9, b0, b1, b2, b3, b4, b5]) : wr.cell? ⟨g, 0, none⟩ = some a0 ∧ wr.cell? ⟨g, 1, none⟩ = some a1 ∧ wr.cell? ⟨g, 2, none⟩ = some a2 ∧ wr.cell? ⟨g, 3, none⟩ = some a3 ∧ wr.cell? ⟨g, 4, none⟩ = some a4 ∧ wr.cell? ⟨g, 5, none⟩ = some a5 ∧ wr.cell? ⟨g, 6, none⟩ = some a6 ∧ wr.cell? ⟨g, 7, none⟩ = some a7 ∧ wr.cell? ⟨g, 8, none⟩ = some a8 ∧ wr.cell? ⟨g, 9, none⟩ = some a9 ∧ wr.cell? ⟨g, 10, none⟩ = some b0 ∧ wr.cell? ⟨g, 11, none⟩ = some b1 ∧ wr.cell? ⟨g, 12, none⟩ = some b2 ∧ wr.cell? ⟨g, 13, none⟩ = some b3 ∧ wr.cell? ⟨g, 14, none⟩ = some b4 ∧ wr.cell? ⟨g, 15, none⟩ = some b5 :=
 ⟨(h.2 0 a0 rfl).1, (h.2 1 a1 rfl).1, (h.2 2 a2 rfl).1, (h.2 3 a3 rfl).1, (h.2 4 a4 rfl).1, (h.2 5 a5 rfl).1, (h.2 6 a6 rfl).1, (h.2 7 a7 rfl).1, (h.2 8 a8 rfl).1, (h.2 9 a9 rfl).1, (h.2 10 b0 rfl).1, (h.2 11 b1 rfl).1, (h.2 12 b2 rfl).1, (h.2 13 b3 rfl).1, (h.2 14 b4 rfl).1, (h.2 15 b5 rfl).1⟩
theorem Blk.f16 {wr : World} {g : Nat} {a0 a1 a2 a3 a4 a5 a6 a7 a8 a9 b0 b1 b2 b3 b4 b5 : Value} (h : Blk wr g [a0, a1, a2, a3, a4, a5, a6, a7, a8, a9, b0, b1, b2, b3, b4, b5]) : wr.frozen? ⟨g, 0, none⟩ = false ∧ wr.frozen? ⟨g, 1, none⟩ = false ∧ wr.frozen? ⟨g, 2, none⟩ = false ∧ wr.frozen? ⟨g, 3, none⟩ = false ∧ wr.frozen? ⟨g, 4, none⟩ = false ∧ wr.frozen? ⟨g, 5, none⟩ = false ∧ wr.frozen? ⟨g, 6, none⟩ = false ∧ wr.frozen? ⟨g, 7, none⟩ = false ∧ wr.frozen? ⟨g, 8, none⟩ = false ∧ wr.frozen? ⟨g, 9, none⟩ = false ∧ wr.frozen? ⟨g, 10, none⟩ = false ∧ wr.frozen? ⟨g, 11, none⟩ = false ∧ wr.frozen? ⟨g, 12, none⟩ = false ∧ wr.frozen? ⟨g, 13, none⟩ = false ∧ wr.frozen? ⟨g, 14, none⟩ = false ∧ wr.frozen? ⟨g, 15, none⟩ = false ∧ g < wr.heap.size :=
 ⟨(h.2 0 a0 rfl).2, (h.2 1 a1 rfl).2, (h.2 2 a2 rfl).2, (h.2 3 a3 rfl).2, (h.2 4 a4 rfl).2, (h.2 5 a5 rfl).2, (h.2 6 a6 rfl).2, (h.2 7 a7 rfl).2, (h.2 8 a8 rfl).2, (h.2 9 a9 rfl).2, (h.2 10 b0 rfl).2, (h.2 11 b1 rfl).2, (h.2 12 b2 rfl).2, (h.2 13 b3 rfl).2, (h.2 14 b4 rfl).2, (h.2 15 b5 rfl).2, h.1⟩
set_option maxHeartbeats 3200000 in
set_option maxRecDepth 100000 in
theorem Mm.set16 {w wr : World} {L : List (Nat × List Value)} {l : List IntAt} {g : Nat} {b0 b0' : Bool} {o0 o0' : Option Addr} {n0 c0 n0' c0' : Nat} {b1 b1' : Bool} {o1 o1' : Option Addr} {n1 c1 n1' c1' : Nat} {b2 b2' : Bool} {o2 o2' : Option Addr} {n2 c2 n2' c2' : Nat} {b3 b3' : Bool} {o3 o3' : Option Addr} {n3 c3 n3' c3' : Nat} (h : Mm w ((g, [.bool b0, .slice o0 n0 c0, .bool b0', .slice o0' n0' c0', .bool b1, .slice o1 n1 c1, .bool b1', .slice o1' n1' c1', .bool b2, .slice o2 n2 c2, .bool b2', .slice o2' n2' c2', .bool b3, .slice o3 n3 c3, .bool b3', .slice o3' n3' c3']) :: L) l wr) (hne : ∀ b ∈ L, g ≠ b.1) (s0 : Bool) (A0 : Option Addr) (p0 q0 : Nat) (z0 : Bool) (B0 : Option Addr) (m0 d0 : Nat) (s1 : Bool) (A1 : Option Addr) (p1 q1 : Nat) (z1 : Bool) (B1 : Option Addr) (m1 d1 : Nat) (s2 : Bool) (A2 : Option Addr) (p2 q2 : Nat) (z2 : Bool) (B2 : Option Addr) (m2 d2 : Nat) (s3 : Bool) (A3 : Option Addr) (p3 q3 : Nat) (z3 : Bool) (B3 : Option Addr) (m3 d3 : Nat) :
  Mm w ((g, [.bool s0, .slice A0 p0 q0, .bool z0, .slice B0 m0 d0, .bool s1, .slice A1 p1 q1, .bool z1, .slice B1 m1 d1, .bool s2, .slice A2 p2 q2, .bool z2, .slice B2 m2 d2, .bool s3, .slice A3 p3 q3, .bool z3, .slice B3 m3 d3]) :: L) l ((((((((((((((((wr.setCell ⟨g, 0, none⟩ (.bool s0)).setCell ⟨g, 1, none⟩ (.slice A0 p0 q0)).setCell ⟨g, 2, none⟩ (.bool z0)).setCell ⟨g, 3, none⟩ (.slice B0 m0 d0)).setCell ⟨g, 4, none⟩ (.bool s1)).setCell ⟨g, 5, none⟩ (.slice A1 p1 q1)).setCell ⟨g, 6, none⟩ (.bool z1)).setCell ⟨g, 7, none⟩ (.slice B1 m1 d1)).setCell ⟨g, 8, none⟩ (.bool s2)).setCell ⟨g, 9, none⟩ (.slice A2 p2 q2)).setCell ⟨g, 10, none⟩ (.bool z2)).setCell ⟨g, 11, none⟩ (.slice B2 m2 d2)).setCell ⟨g, 12, none⟩ (.bool s3)).setCell ⟨g, 13, none⟩ (.slice A3 p3 q3)).setCell ⟨g, 14, none⟩ (.bool z3)).setCell ⟨g, 15, none⟩ (.slice B3 m3 d3)) :=
 ((((((((((((((((h.set hne (.bool b0) (.bool s0) rfl (by simp)).set hne (.slice o0 n0 c0) (.slice A0 p0 q0) rfl (by simp)).set hne (.bool b0') (.bool z0) rfl (by simp)).set hne (.slice o0' n0' c0') (.slice B0 m0 d0) rfl (by simp)).set hne (.bool b1) (.bool s1) rfl (by simp)).set hne (.slice o1 n1 c1) (.slice A1 p1 q1) rfl (by simp)).set hne (.bool b1') (.bool z1) rfl (by simp)).set hne (.slice o1' n1' c1') (.slice B1 m1 d1) rfl (by simp)).set hne (.bool b2) (.bool s2) rfl (by simp)).set hne (.slice o2 n2 c2) (.slice A2 p2 q2) rfl (by simp)).set hne (.bool b2') (.bool z2) rfl (by simp)).set hne (.slice o2' n2' c2') (.slice B2 m2 d2) rfl (by simp)).set hne (.bool b3) (.bool s3) rfl (by simp)).set hne (.slice o3 n3 c3) (.slice A3 p3 q3) rfl (by simp)).set hne (.bool b3') (.bool z3) rfl (by simp)).set hne (.slice o3' n3' c3') (.slice B3 m3 d3) rfl (by simp))
theorem Sz.one : Sz 1 1 := ⟨by decide, by decide⟩
theorem sz_of {w w' : World} {neg neg' : Bool} {A A' : Option Addr} {n c n' c' : Nat} {x : Rat} (h : IsInt w neg A n c x.num) (k : IsInt w' neg' A' n' c' (x.den : Int)) {M : Nat} (hn : n ≤ M) (hn' : n' ≤ M) : Sz x M := by
 have h1 := isInt_lt h
 have h2 := isInt_lt k
 rw [show Lm.B ^ n = 2 ^ (32 * n) by rw [Nat.pow_mul]] at h1
 rw [show Lm.B ^ n' = 2 ^ (32 * n') by rw [Nat.pow_mul]] at h2
 exact ⟨Nat.lt_of_lt_of_le h1 (Nat.pow_le_pow_right (by decide) (by omega)), by rw [Int.natAbs_natCast] at h2; exact Nat.lt_of_lt_of_le h2 (Nat.pow_le_pow_right (by decide) (by omega))⟩
end Go.Proofs.YtgekmbfmfiikkaaGreatDoor

namespace Go.Proofs.YtgekmbfmfiikkaaGreatDoor
open Go.RowKit

/-- Nothing is owned so far. -/
theorem Mm.mo {w wr : World} {L : List (Nat × List Value)} {l : List IntAt} (h : Mm w L l wr) : Mo w.heap.size w L l [] wr := ⟨h.1, h.2.1, h.2.2, Owns.nil _ _, fun _ hq => absurd hq (by simp), Nat.le_refl _⟩
theorem Mo.all {B : Nat} {w wr : World} {L : List (Nat × List Value)} {l : List IntAt} {o : List OwnAt} (h : Mo B w L l o wr) : Owns B wr o := h.2.2.2.1
set_option maxHeartbeats 3200000 in
set_option maxRecDepth 100000 in
theorem Mo.set8 {B9 : Nat} {w wr : World} {L : List (Nat × List Value)} {l : List IntAt} {o : List OwnAt} {g : Nat} {b0 b0' : Bool} {o0 o0' : Option Addr} {n0 c0 n0' c0' : Nat} {b1 b1' : Bool} {o1 o1' : Option Addr} {n1 c1 n1' c1' : Nat} (h : Mo B9 w ((g, [.bool b0, .slice o0 n0 c0, .bool b0', .slice o0' n0' c0', .bool b1, .slice o1 n1 c1, .bool b1', .slice o1' n1' c1']) :: L) l o wr) (hne : ∀ b ∈ L, g ≠ b.1) (s0 : Bool) (A0 : Option Addr) (p0 q0 : Nat) (z0 : Bool) (B0 : Option Addr) (m0 d0 : Nat) (s1 : Bool) (A1 : Option Addr) (p1 q1 : Nat) (z1 : Bool) (B1 : Option Addr) (m1 d1 : Nat) :
  Mo B9 w ((g, [.bool s0, .slice A0 p0 q0, .bool z0, .slice B0 m0 d0, .bool s1, .slice A1 p1 q1, .bool z1, .slice B1 m1 d1]) :: L) l o ((((((((wr.setCell ⟨g, 0, none⟩ (.bool s0)).setCell ⟨g, 1, none⟩ (.slice A0 p0 q0)).setCell ⟨g, 2, none⟩ (.bool z0)).setCell ⟨g, 3, none⟩ (.slice B0 m0 d0)).setCell ⟨g, 4, none⟩ (.bool s1)).setCell ⟨g, 5, none⟩ (.slice A1 p1 q1)).setCell ⟨g, 6, none⟩ (.bool z1)).setCell ⟨g, 7, none⟩ (.slice B1 m1 d1)) :=
 ((((((((h.set hne (.bool b0) (.bool s0) rfl (by simp)).set hne (.slice o0 n0 c0) (.slice A0 p0 q0) rfl (by simp)).set hne (.bool b0') (.bool z0) rfl (by simp)).set hne (.slice o0' n0' c0') (.slice B0 m0 d0) rfl (by simp)).set hne (.bool b1) (.bool s1) rfl (by simp)).set hne (.slice o1 n1 c1) (.slice A1 p1 q1) rfl (by simp)).set hne (.bool b1') (.bool z1) rfl (by simp)).set hne (.slice o1' n1' c1') (.slice B1 m1 d1) rfl (by simp))
set_option maxHeartbeats 3200000 in
set_option maxRecDepth 100000 in
theorem Mo.set16 {B9 : Nat} {w wr : World} {L : List (Nat × List Value)} {l : List IntAt} {o : List OwnAt} {g : Nat} {b0 b0' : Bool} {o0 o0' : Option Addr} {n0 c0 n0' c0' : Nat} {b1 b1' : Bool} {o1 o1' : Option Addr} {n1 c1 n1' c1' : Nat} {b2 b2' : Bool} {o2 o2' : Option Addr} {n2 c2 n2' c2' : Nat} {b3 b3' : Bool} {o3 o3' : Option Addr} {n3 c3 n3' c3' : Nat} (h : Mo B9 w ((g, [.bool b0, .slice o0 n0 c0, .bool b0', .slice o0' n0' c0', .bool b1, .slice o1 n1 c1, .bool b1', .slice o1' n1' c1', .bool b2, .slice o2 n2 c2, .bool b2', .slice o2' n2' c2', .bool b3, .slice o3 n3 c3, .bool b3', .slice o3' n3' c3']) :: L) l o wr) (hne : ∀ b ∈ L, g ≠ b.1) (s0 : Bool) (A0 : Option Addr) (p0 q0 : Nat) (z0 : Bool) (B0 : Option Addr) (m0 d0 : Nat) (s1 : Bool) (A1 : Option Addr) (p1 q1 : Nat) (z1 : Bool) (B1 : Option Addr) (m1 d1 : Nat) (s2 : Bool) (A2 : Option Addr) (p2 q2 : Nat) (z2 : Bool) (B2 : Option Addr) (m2 d2 : Nat) (s3 : Bool) (A3 : Option Addr) (p3 q3 : Nat) (z3 : Bool) (B3 : Option Addr) (m3 d3 : Nat) :
  Mo B9 w ((g, [.bool s0, .slice A0 p0 q0, .bool z0, .slice B0 m0 d0, .bool s1, .slice A1 p1 q1, .bool z1, .slice B1 m1 d1, .bool s2, .slice A2 p2 q2, .bool z2, .slice B2 m2 d2, .bool s3, .slice A3 p3 q3, .bool z3, .slice B3 m3 d3]) :: L) l o ((((((((((((((((wr.setCell ⟨g, 0, none⟩ (.bool s0)).setCell ⟨g, 1, none⟩ (.slice A0 p0 q0)).setCell ⟨g, 2, none⟩ (.bool z0)).setCell ⟨g, 3, none⟩ (.slice B0 m0 d0)).setCell ⟨g, 4, none⟩ (.bool s1)).setCell ⟨g, 5, none⟩ (.slice A1 p1 q1)).setCell ⟨g, 6, none⟩ (.bool z1)).setCell ⟨g, 7, none⟩ (.slice B1 m1 d1)).setCell ⟨g, 8, none⟩ (.bool s2)).setCell ⟨g, 9, none⟩ (.slice A2 p2 q2)).setCell ⟨g, 10, none⟩ (.bool z2)).setCell ⟨g, 11, none⟩ (.slice B2 m2 d2)).setCell ⟨g, 12, none⟩ (.bool s3)).setCell ⟨g, 13, none⟩ (.slice A3 p3 q3)).setCell ⟨g, 14, none⟩ (.bool z3)).setCell ⟨g, 15, none⟩ (.slice B3 m3 d3)) :=
 ((((((((((((((((h.set hne (.bool b0) (.bool s0) rfl (by simp)).set hne (.slice o0 n0 c0) (.slice A0 p0 q0) rfl (by simp)).set hne (.bool b0') (.bool z0) rfl (by simp)).set hne (.slice o0' n0' c0') (.slice B0 m0 d0) rfl (by simp)).set hne (.bool b1) (.bool s1) rfl (by simp)).set hne (.slice o1 n1 c1) (.slice A1 p1 q1) rfl (by simp)).set hne (.bool b1') (.bool z1) rfl (by simp)).set hne (.slice o1' n1' c1') (.slice B1 m1 d1) rfl (by simp)).set hne (.bool b2) (.bool s2) rfl (by simp)).set hne (.slice o2 n2 c2) (.slice A2 p2 q2) rfl (by simp)).set hne (.bool b2') (.bool z2) rfl (by simp)).set hne (.slice o2' n2' c2') (.slice B2 m2 d2) rfl (by simp)).set hne (.bool b3) (.bool s3) rfl (by simp)).set hne (.slice o3 n3 c3) (.slice A3 p3 q3) rfl (by simp)).set hne (.bool b3') (.bool z3) rfl (by simp)).set hne (.slice o3' n3' c3') (.slice B3 m3 d3) rfl (by simp))
theorem Mo.own4 {B : Nat} {w wr : World} {L : List (Nat × List Value)} {l : List IntAt} {o : List OwnAt} (h : Mo B w L l o wr) {q1 q2 q3 q4 : OwnAt} (i j k m : Nat) (hi : o[i]? = some q1) (hj : o[j]? = some q2) (hk : o[k]? = some q3) (hm : o[m]? = some q4) (hne : (i ≠ j ∧ i ≠ k ∧ i ≠ m) ∧ (j ≠ k ∧ j ≠ m) ∧ k ≠ m) : Owns B wr [q1, q2, q3, q4] := by
 obtain ⟨⟨n1, n2, n3⟩, ⟨n4, n5⟩, n6⟩ := hne
 have hP := h.2.2.2.1.2
 refine ⟨fun q hq => ?_, ?_⟩
 ·simp only [List.mem_cons, List.not_mem_nil, or_false] at hq
  rcases hq with rfl | rfl | rfl | rfl
  ·exact h.2.2.2.1.1 _ (List.mem_of_getElem? hi)
  ·exact h.2.2.2.1.1 _ (List.mem_of_getElem? hj)
  ·exact h.2.2.2.1.1 _ (List.mem_of_getElem? hk)
  ·exact h.2.2.2.1.1 _ (List.mem_of_getElem? hm)
 ·simp [far_at hP hi hj n1, far_at hP hi hk n2, far_at hP hi hm n3, far_at hP hj hk n4, far_at hP hj hm n5, far_at hP hk hm n6]
end Go.Proofs.YtgekmbfmfiikkaaGreatDoor

namespace Go.Proofs.YtgekmbfmfiikkaaGreatDoor
open Go.RowKit

theorem icmp_rcmp (x y : Rat) : icmp (x.num * (y.den : Int)) (y.num * (x.den : Int)) = rcmp x y := by
 rw [← rcmp_sign]
 obtain ⟨h1, h2, h3⟩ := icmp_facts (x.num * (y.den : Int)) (y.num * (x.den : Int))
 rcases Int.lt_trichotomy (x.num * (y.den : Int)) (y.num * (x.den : Int)) with h | h | h
 ·rw [h1 h, Int.sign_eq_neg_one_of_neg (by omega)]
 ·rw [h3 h, h, Int.sub_self]; rfl
 ·rw [h2 h, Int.sign_eq_one_of_pos (by omega)]

set_option maxRecDepth 100000 in
set_option maxHeartbeats 3200000 in
theorem rat_cmp_any (neg neg' : Bool) (A A' : Option Addr) (n c n' c' : Nat) (nfg nfg' : Bool) (C C' : Option Addr) (p q p' q' : Nat) (x y : Rat) (v : Int) (m k : Nat) (w : World) (hx : IsInt w neg A n c x.num) (hx' : IsInt w neg' A' n' c' (x.den : Int)) (hy : IsInt w nfg C p q y.num) (hy' : IsInt w nfg' C' p' q' (y.den : Int)) (sx : Sz x m) (sy : Sz y k) (hm : m + k < 1000000) (hv : Hid (rcmp x y = v)) :
  Calls Tryz.prog 142 #[.agg #[.bool neg, .slice A n c, .bool neg', .slice A' n' c'], .agg #[.bool nfg, .slice C p q, .bool nfg', .slice C' p' q']] w (RetV w (.int .i64 v)) := by
 have K0 := ((((((Mm.nil w).int hx).int hx').int hy).int hy').var (g := w.heap.size) rfl [.bool neg, .slice A n c, .bool neg', .slice A' n' c'] 26).var (g := w.heap.size + 1) (by simp) [.bool nfg, .slice C p q, .bool nfg', .slice C' p' q'] 26
 have hn := int_len hx sx.1
 have hn' := int_len hx' sx.2
 have hp := int_len hy sy.1
 have hp' := int_len hy' sy.2
 have HP1 : Hid ((x.num * (y.den : Int)).natAbs < 2 ^ (32 * (m + k))) := Lib.hid (by rw [Int.natAbs_mul]; exact mul_lt_pow sx.1 sy.2)
 have HP2 : Hid ((y.num * (x.den : Int)).natAbs < 2 ^ (32 * (m + k))) := Lib.hid (by rw [Int.natAbs_mul, Nat.add_comm m k]; exact mul_lt_pow sy.1 sx.2)
 have HP3 : Hid ((x.num * (y.den : Int) - y.num * (x.den : Int)).natAbs < 2 ^ (32 * (m + k + 1))) := Lib.hid (by
  have h3 := add_lt_pow HP1.out HP2.out
  have h4 : (x.num * (y.den : Int) - y.num * (x.den : Int)).natAbs ≤ (x.num * (y.den : Int)).natAbs + (y.num * (x.den : Int)).natAbs := by omega
  omega)
 have HS : Hid (icmp (x.num * (y.den : Int)) (y.num * (x.den : Int)) = v) := Lib.hid (by rw [icmp_rcmp]; exact hv.out)
 clear hv HP3
 clear hx hx' hy hy' sx sy
 go_enter Tryz.func142, Tryz.ntmps142
 go_wp2_with fail
 generalize ((w.alloc (.cells #[.bool neg, .slice A n c, .bool neg', .slice A' n' c'] 26)).alloc (.cells #[.bool nfg, .slice C p q, .bool nfg', .slice C' p' q'] 26)) = w0 at K0 ⊢
 obtain ⟨⟨_, _, _, _⟩, ⟨_, _, _, _⟩, _⟩ := (K0.blk (g := w.heap.size) (by repeat constructor)).four
 obtain ⟨⟨_, _, _, _⟩, ⟨_, _, _, _⟩, _⟩ := (K0.blk (g := w.heap.size + 1) (by repeat constructor)).four
 go_region_held3 (fun w' => w'.cell? ⟨w.heap.size, 0, none⟩ = some (.bool neg) ∧ w'.cell? ⟨w.heap.size, 1, none⟩ = some (.slice A n c) ∧ w'.cell? ⟨w.heap.size, 2, none⟩ = some (.bool neg') ∧ w'.cell? ⟨w.heap.size, 3, none⟩ = some (.slice A' n' c') ∧ w'.cell? ⟨w.heap.size + 1, 0, none⟩ = some (.bool nfg) ∧ w'.cell? ⟨w.heap.size + 1, 1, none⟩ = some (.slice C p q) ∧ w'.cell? ⟨w.heap.size + 1, 2, none⟩ = some (.bool nfg') ∧ w'.cell? ⟨w.heap.size + 1, 3, none⟩ = some (.slice C' p' q'))
  (go_keep)
  (first
   | (go_at_call 221; apply Calls.withMm (w0 := w); (case K => with_reducible repeat (first | exact K0 | apply Mm.drew | apply Mm.drewN)); intro KX; (with_reducible refine (ex_times_any neg nfg' A C' n c p' q' x.num (y.den : Int) _ ?_ ?_ (by omega) (by omega)).mono ?_); (with_reducible exact KX.at_ (by simp)); (with_reducible exact KX.at_ (by simp)); rintro e1 w1 ⟨neg1, A1, n1, c1, rfl, I1, hb1⟩; (with_reducible have K1 := (KX.next hb1).int I1); have hn1 : n1 ≤ 1000000 := Nat.le_trans (int_len I1 HP1.out) (by omega); have Q1x := (K1.blk (g := w.heap.size) (by repeat constructor)).four; obtain ⟨⟨qa1x, qb1x, qc1x, qd1x⟩, ⟨qe1x, qf1x, qg1x, qh1x⟩, qi1x⟩ := Q1x; have Q1y := (K1.blk (g := w.heap.size + 1) (by repeat constructor)).four; obtain ⟨⟨qa1y, qb1y, qc1y, qd1y⟩, ⟨qe1y, qf1y, qg1y, qh1y⟩, qi1y⟩ := Q1y; clear KX I1 hb1)
   | (go_at_call 221; apply Calls.withMm (w0 := w); (case K => with_reducible repeat (first | exact K1 | apply Mm.drew | apply Mm.drewN)); intro KX; (with_reducible refine (ex_times_any nfg neg' C A' p q n' c' y.num (x.den : Int) _ ?_ ?_ (by omega) (by omega)).mono ?_); (with_reducible exact KX.at_ (by simp)); (with_reducible exact KX.at_ (by simp)); rintro e2 w2 ⟨neg2, A2, n2, c2, rfl, I2, hb2⟩; (with_reducible have K2 := (KX.next hb2).int I2); have hn2 : n2 ≤ 1000000 := Nat.le_trans (int_len I2 HP2.out) (by omega); have Q2x := (K2.blk (g := w.heap.size) (by repeat constructor)).four; obtain ⟨⟨qa2x, qb2x, qc2x, qd2x⟩, ⟨qe2x, qf2x, qg2x, qh2x⟩, qi2x⟩ := Q2x; have Q2y := (K2.blk (g := w.heap.size + 1) (by repeat constructor)).four; obtain ⟨⟨qa2y, qb2y, qc2y, qd2y⟩, ⟨qe2y, qf2y, qg2y, qh2y⟩, qi2y⟩ := Q2y; clear KX I2 hb2)
   | (go_at_call 220; apply Calls.withMm (w0 := w); (case K => with_reducible repeat (first | exact K2 | apply Mm.drew | apply Mm.drewN)); intro KX; (with_reducible refine (ex_cmp_of neg1 neg2 A1 A2 n1 c1 n2 c2 (x.num * (y.den : Int)) (y.num * (x.den : Int)) v _ ?_ ?_ (by omega) (by omega) HS).mono ?_); (with_reducible exact KX.at_ (by simp)); (with_reducible exact KX.at_ (by simp)); rintro e3 w3 ⟨rfl, hb3⟩; (with_reducible have K3 := (KX.next hb3)); have Q3x := (K3.blk (g := w.heap.size) (by repeat constructor)).four; obtain ⟨⟨qa3x, qb3x, qc3x, qd3x⟩, ⟨qe3x, qf3x, qg3x, qh3x⟩, qi3x⟩ := Q3x; have Q3y := (K3.blk (g := w.heap.size + 1) (by repeat constructor)).four; obtain ⟨⟨qa3y, qb3y, qc3y, qd3y⟩, ⟨qe3y, qf3y, qg3y, qh3y⟩, qi3y⟩ := Q3y; clear KX hb3))
 all_goals (go_wp2_with fail)
 all_goals go_ret
 all_goals exact ⟨rfl, K3.1⟩

theorem rat_times_any (neg neg' : Bool) (A A' : Option Addr) (n c n' c' : Nat) (nfg nfg' : Bool) (C C' : Option Addr) (p q p' q' : Nat) (x y : Rat) (r : Rat) (m k : Nat) (w : World) (hx : IsInt w neg A n c x.num) (hx' : IsInt w neg' A' n' c' (x.den : Int)) (hy : IsInt w nfg C p q y.num) (hy' : IsInt w nfg' C' p' q' (y.den : Int)) (sx : Sz x m) (sy : Sz y k) (hm : m + k < 1000000) (hr : Hid (x * y = r)) :
  Calls Tryz.prog 140 #[.agg #[.bool neg, .slice A n c, .bool neg', .slice A' n' c'], .agg #[.bool nfg, .slice C p q, .bool nfg', .slice C' p' q']] w (RetFr w r) :=
 (owr_times_any neg neg' A A' n c n' c' nfg nfg' C C' p q p' q' x y r m k w hx hx' hy hy' sx sy hm hr).mono fun _ _ h => h.fg
theorem rat_plus_any (neg neg' : Bool) (A A' : Option Addr) (n c n' c' : Nat) (nfg nfg' : Bool) (C C' : Option Addr) (p q p' q' : Nat) (x y : Rat) (r : Rat) (m k : Nat) (w : World) (hx : IsInt w neg A n c x.num) (hx' : IsInt w neg' A' n' c' (x.den : Int)) (hy : IsInt w nfg C p q y.num) (hy' : IsInt w nfg' C' p' q' (y.den : Int)) (sx : Sz x m) (sy : Sz y k) (hm : m + k < 1000000) (hr : Hid (x + y = r)) :
  Calls Tryz.prog 141 #[.agg #[.bool neg, .slice A n c, .bool neg', .slice A' n' c'], .agg #[.bool nfg, .slice C p q, .bool nfg', .slice C' p' q']] w (RetFr w r) :=
 (owr_plus_any neg neg' A A' n c n' c' nfg nfg' C C' p q p' q' x y r m k w hx hx' hy hy' sx sy hm hr).mono fun _ _ h => h.fg
theorem rat_minus_any (neg neg' : Bool) (A A' : Option Addr) (n c n' c' : Nat) (nfg nfg' : Bool) (C C' : Option Addr) (p q p' q' : Nat) (x y : Rat) (r : Rat) (m k : Nat) (w : World) (hx : IsInt w neg A n c x.num) (hx' : IsInt w neg' A' n' c' (x.den : Int)) (hy : IsInt w nfg C p q y.num) (hy' : IsInt w nfg' C' p' q' (y.den : Int)) (sx : Sz x m) (sy : Sz y k) (hm : m + k < 1000000) (hr : Hid (x - y = r)) :
  Calls Tryz.prog 139 #[.agg #[.bool neg, .slice A n c, .bool neg', .slice A' n' c'], .agg #[.bool nfg, .slice C p q, .bool nfg', .slice C' p' q']] w (RetFr w r) :=
 (owr_minus_any neg neg' A A' n c n' c' nfg nfg' C C' p q p' q' x y r m k w hx hx' hy hy' sx sy hm hr).mono fun _ _ h => h.fg
end Go.Proofs.YtgekmbfmfiikkaaGreatDoor

namespace Go.Proofs.YtgekmbfmfiikkaaGreatDoor
theorem all_nil {α : Type} {p : α → Prop} : ∀ b ∈ ([] : List α), p b := fun _ h => absurd h (by simp)
theorem all_cons {α : Type} {p : α → Prop} {a : α} {l : List α} (h : p a) (k : ∀ b ∈ l, p b) : ∀ b ∈ a :: l, p b := fun b hb => by
 rcases List.mem_cons.1 hb with rfl | hb
 ·exact h
 ·exact k b hb
end Go.Proofs.YtgekmbfmfiikkaaGreatDoor

namespace Go.Proofs.YtgekmbfmfiikkaaGreatDoor
open Go.RowKit

def okFr (neg : Bool) (l : List Nat) (neg' : Bool) (l' : List Nat) : Prop := okInt neg l ∧ okInt neg' l' ∧ 0 < sgnd neg' (Lm.lv l') ∧ Nat.gcd (Lm.lv l) (Lm.lv l') = 1
open Classical in
noncomputable def chkFr (neg : Bool) (l : List Nat) (neg' : Bool) (l' : List Nat) : Int := if okFr neg l neg' l' then 0 else 1
theorem chkFr_ok {neg : Bool} {l : List Nat} {neg' : Bool} {l' : List Nat} (h : okFr neg l neg' l') : chkFr neg l neg' l' = 0 := by unfold chkFr; rw [if_pos h]
theorem chkFr_no {neg : Bool} {l : List Nat} {neg' : Bool} {l' : List Nat} (h : ¬ okFr neg l neg' l') : chkFr neg l neg' l' = 1 := by unfold chkFr; rw [if_neg h]
theorem sgnd_abs (s : Bool) (a : Nat) : (sgnd s a).natAbs = a := by unfold sgnd; cases s <;> simp
theorem sign_pos {z : Int} (h : 0 < z) : z.sign = 1 := Int.sign_eq_one_of_pos h
theorem sign_not_pos {z : Int} (h : ¬ 0 < z) : z.sign = 0 ∨ z.sign = -1 := by
 rcases Int.lt_trichotomy z 0 with k | k | k
 ·exact .inr (Int.sign_eq_neg_one_of_neg k)
 ·subst k; exact .inl rfl
 ·exact absurd k h
set_option maxRecDepth 100000 in
set_option maxHeartbeats 800000 in
theorem ref_below_int (neg neg' : Bool) (A A' : Option Addr) (n c n' c' : Nat) (x y : Int) (t : Bool) (w : World) (hx : IsInt w neg A n c x) (hy : IsInt w neg' A' n' c' y) (hn : n ≤ 1000000000) (hn' : n' ≤ 1000000000) (ht : Hid (decide (x < y) = t)) :
  Calls Tryz.prog 333 #[.agg #[.bool neg, .slice A n c], .agg #[.bool neg', .slice A' n' c']] w (RetV w (.bool t)) := by
 have hx2 := (hx.alloc (.cells #[.bool neg, .slice A n c] 24)).alloc (.cells #[.bool neg', .slice A' n' c'] 24)
 have hy2 := (hy.alloc (.cells #[.bool neg, .slice A n c] 24)).alloc (.cells #[.bool neg', .slice A' n' c'] 24)
 obtain ⟨v, hv⟩ : ∃ v, icmp x y = v := ⟨_, rfl⟩
 have hvt : decide (v < 0) = t := by
  rw [← ht.out, ← hv]
  unfold icmp
  split
  ·rename_i h; rw [decide_eq_true (show (-1 : Int) < 0 by decide), decide_eq_true h]
  ·rename_i h
   rw [decide_eq_false h]
   split <;> decide
 have HV := Lib.hid hv
 have HT := Lib.hid hvt
 clear hv hvt
 go_enter Tryz.func333, Tryz.ntmps333
 go_wp2_with fail
 refine (ref_cmp_int neg neg' A A' n c n' c' x y _ (by exact hx2) (by exact hy2) hn hn').mono ?_
 rintro e1 w1 ⟨rfl, hb1⟩
 rw [HV.out]
 go_wp2_with fail
 go_ret
 exact ⟨by rw [← HT.out]; rfl, below_box (below_box hb1)⟩

set_option maxRecDepth 100000 in
set_option maxHeartbeats 3200000 in
theorem ratio_check (neg neg' : Bool) (A A' : Option Addr) (n c n' c' : Nat) (l l' : List Nat) (w : World) (ha : Sl w A n c l) (hb : Sl w A' n' c' l') (hn : n ≤ 1000000000) (hn' : n' ≤ 1000000000) :
  Calls Tryz.prog 257 #[.agg #[.bool neg, .slice A n c, .bool neg', .slice A' n' c']] w (RetV w (.int .i64 (chkFr neg l neg' l'))) := by
 have K0 := (Mm.nil w).var (g := w.heap.size) rfl [.bool neg, .slice A n c, .bool neg', .slice A' n' c'] 26
 have ha0 := ha.below K0.1
 have hb0 := hb.below K0.1
 by_cases k1 : okInt neg l
 ·have E1 : Hid (chk neg l = 0) := Lib.hid (chk_ok k1)
  by_cases k2 : okInt neg' l'
  ·have E2 : Hid (chk neg' l' = 0) := Lib.hid (chk_ok k2)
   have HI1 : IsInt w neg A n c (sgnd neg (Lm.lv l)) := ⟨l, ha, k1.2.1, k1.2.2, rfl⟩
   have HI2 : IsInt w neg' A' n' c' (sgnd neg' (Lm.lv l')) := ⟨l', hb, k2.2.1, k2.2.2, rfl⟩
   have hl1 : n ≤ 2048 := by have := k1.1; have := ha.len; omega
   have hl2 : n' ≤ 2048 := by have := k2.1; have := hb.len; omega
   by_cases k3 : 0 < sgnd neg' (Lm.lv l')
   ·have E3 : Hid ((sgnd neg' (Lm.lv l')).sign = 1) := Lib.hid (sign_pos k3)
    obtain ⟨G, hG⟩ : ∃ G, Nat.gcd (Lm.lv l) (Lm.lv l') = G := ⟨_, rfl⟩
    have HG : Hid (Nat.gcd (sgnd neg (Lm.lv l)).natAbs (sgnd neg' (Lm.lv l')).natAbs = G) := Lib.hid (by rw [sgnd_abs, sgnd_abs]; exact hG)
    have HGB : Hid ((G : Int).natAbs < 2 ^ (32 * n')) := Lib.hid (by
     have hp : 0 < Lm.lv l' := by
      unfold sgnd at k3
      split at k3 <;> omega
     have h1 : G ≤ Lm.lv l' := by rw [← hG]; exact Nat.le_of_dvd hp (Nat.gcd_dvd_right _ _)
     have h2 := Lm.lv_lt hb.ok
     rw [hb.len, show Lm.B ^ n' = 2 ^ (32 * n') by rw [Nat.pow_mul]] at h2
     rw [Int.natAbs_natCast]
     omega)
    have HC : Hid (chkFr neg l neg' l' = if G = 1 then 0 else 1) := Lib.hid (by
     by_cases hg : G = 1
     ·rw [if_pos hg]; exact chkFr_ok ⟨k1, k2, k3, by rw [hG, hg]⟩
     ·rw [if_neg hg]; exact chkFr_no (fun h => hg (by rw [← hG]; exact h.2.2.2)))
    have K0 := (((Mm.nil w).int HI1).int HI2).var (g := w.heap.size) rfl [.bool neg, .slice A n c, .bool neg', .slice A' n' c'] 26
    clear k1 k2 k3 hG HI1 HI2 ha hb
    go_enter Tryz.func257, Tryz.ntmps257
    go_wp2_with fail
    refine (ex_check_sl neg A n c l _ ha0 hn).mono ?_
    rintro e1 w1 ⟨rfl, hb1⟩
    rw [E1.out]
    have K1 := (K0.next hb1)
    have ha1 := ha0.below hb1
    have hb1' := hb0.below hb1
    obtain ⟨⟨qa1, qb1, qc1, qd1⟩, ⟨qe1, qf1, qg1, qh1⟩, qi1⟩ := (K1.blk (g := w.heap.size) (by repeat constructor)).four
    go_wp2_with fail
    refine (ex_check_sl neg' A' n' c' l' _ hb1' hn').mono ?_
    rintro e2 w2 ⟨rfl, hb2⟩
    rw [E2.out]
    have K2 := (K1.next hb2)
    have ha2 := ha1.below hb2
    have hb2' := hb1'.below hb2
    obtain ⟨⟨qa2, qb2, qc2, qd2⟩, ⟨qe2, qf2, qg2, qh2⟩, qi2⟩ := (K2.blk (g := w.heap.size) (by repeat constructor)).four
    go_wp2_with fail
    refine (ex_sign_any neg' A' n' c' _ _ (K2.at_ (neg := neg') (A := A') (n := n') (c := c') (z := sgnd neg' (Lm.lv l')) (by simp))).mono ?_
    rintro e3 w3 ⟨rfl, hb3⟩
    rw [E3.out]
    have K3 := (K2.next hb3)
    have ha3 := ha2.below hb3
    have hb3' := hb2'.below hb3
    obtain ⟨⟨qa3, qb3, qc3, qd3⟩, ⟨qe3, qf3, qg3, qh3⟩, qi3⟩ := (K3.blk (g := w.heap.size) (by repeat constructor)).four
    go_wp2_with fail
    refine (ex_Common_any neg neg' A A' n c n' c' _ _ G _ (K3.at_ (neg := neg) (A := A) (n := n) (c := c) (z := sgnd neg (Lm.lv l)) (by simp)) (K3.at_ (neg := neg') (A := A') (n := n') (c := c') (z := sgnd neg' (Lm.lv l')) (by simp)) (by omega) (by omega) HG).mono ?_
    rintro e4 w4 ⟨ng, Ag, m4, c4, rfl, I4, hb4⟩
    have hm4 : m4 ≤ n' := int_len I4 HGB.out
    have K4 := (K3.next hb4).int I4
    clear I4
    go_wp2_with fail
    refine (ex_of_any 1 _ (by decide)).mono ?_
    rintro e5 w5 ⟨no, Ao, m5, c5, rfl, I5, hb5⟩
    have hm5 : m5 ≤ 1 := int_len I5 (by decide)
    have K5 := (K4.next hb5).int I5
    clear I5
    go_wp2_with fail
    refine (ex_cmp_int ng no Ag Ao m4 c4 m5 c5 (G : Int) 1 _ (K5.at_ (by simp)) (K5.at_ (by simp)) (by omega) (by omega)).mono ?_
    rintro e6 w6 ⟨rfl, hb6⟩
    have K6 := K5.next hb6
    by_cases hg : G = 1
    ·have E6 : Hid (icmp (G : Int) 1 = 0) := Lib.hid (by rw [hg]; rfl)
     rw [E6.out]
     rw [if_pos hg] at HC
     clear hg
     go_wp2_with fail
     go_ret
     exact ⟨by rw [HC.out]; rfl, K6.1⟩
    ·obtain ⟨v, hv⟩ : ∃ v, icmp (G : Int) 1 = v := ⟨_, rfl⟩
     have hv0 : (v != 0) = true := by
      rw [← hv]; unfold icmp
      split
      ·rfl
      ·rw [if_pos (by omega)]; rfl
     rw [hv]
     rw [if_neg hg] at HC
     clear hg hv
     go_wp2_with fail
     go_ret
     exact ⟨by rw [HC.out]; rfl, K6.1⟩
   ·obtain ⟨S, hS⟩ : ∃ S, (sgnd neg' (Lm.lv l')).sign = S := ⟨_, rfl⟩
    have hS0 : S ≤ 0 := by rw [← hS]; rcases sign_not_pos k3 with h | h <;> omega
    have E3 := Lib.hid hS
    have HC := Lib.hid (chkFr_no (neg := neg) (l := l) (neg' := neg') (l' := l') (fun h => k3 h.2.2.1))
    have K0 := (((Mm.nil w).int HI1).int HI2).var (g := w.heap.size) rfl [.bool neg, .slice A n c, .bool neg', .slice A' n' c'] 26
    clear k1 k2 k3 hS HI1 HI2 ha hb
    go_enter Tryz.func257, Tryz.ntmps257
    go_wp2_with fail
    refine (ex_check_sl neg A n c l _ ha0 hn).mono ?_
    rintro e1 w1 ⟨rfl, hb1⟩
    rw [E1.out]
    have K1 := (K0.next hb1)
    have ha1 := ha0.below hb1
    have hb1' := hb0.below hb1
    obtain ⟨⟨qa1, qb1, qc1, qd1⟩, ⟨qe1, qf1, qg1, qh1⟩, qi1⟩ := (K1.blk (g := w.heap.size) (by repeat constructor)).four
    go_wp2_with fail
    refine (ex_check_sl neg' A' n' c' l' _ hb1' hn').mono ?_
    rintro e2 w2 ⟨rfl, hb2⟩
    rw [E2.out]
    have K2 := (K1.next hb2)
    have ha2 := ha1.below hb2
    have hb2' := hb1'.below hb2
    obtain ⟨⟨qa2, qb2, qc2, qd2⟩, ⟨qe2, qf2, qg2, qh2⟩, qi2⟩ := (K2.blk (g := w.heap.size) (by repeat constructor)).four
    go_wp2_with fail
    refine (ex_sign_any neg' A' n' c' _ _ (K2.at_ (neg := neg') (A := A') (n := n') (c := c') (z := sgnd neg' (Lm.lv l')) (by simp))).mono ?_
    rintro e3 w3 ⟨rfl, hb3⟩
    rw [E3.out]
    have K3 := (K2.next hb3)
    have ha3 := ha2.below hb3
    have hb3' := hb2'.below hb3
    obtain ⟨⟨qa3, qb3, qc3, qd3⟩, ⟨qe3, qf3, qg3, qh3⟩, qi3⟩ := (K3.blk (g := w.heap.size) (by repeat constructor)).four
    go_wp2_with fail
    go_ret
    exact ⟨by rw [HC.out]; rfl, K3.1⟩
  ·have E2 : Hid (chk neg' l' = 1) := Lib.hid (chk_no k2)
   have HC := Lib.hid (chkFr_no (neg := neg) (l := l) (neg' := neg') (l' := l') (fun h => k2 h.2.1))
   clear k1 k2 ha hb
   go_enter Tryz.func257, Tryz.ntmps257
   go_wp2_with fail
   refine (ex_check_sl neg A n c l _ ha0 hn).mono ?_
   rintro e1 w1 ⟨rfl, hb1⟩
   rw [E1.out]
   have K1 := (K0.next hb1)
   have ha1 := ha0.below hb1
   have hb1' := hb0.below hb1
   obtain ⟨⟨qa1, qb1, qc1, qd1⟩, ⟨qe1, qf1, qg1, qh1⟩, qi1⟩ := (K1.blk (g := w.heap.size) (by repeat constructor)).four
   go_wp2_with fail
   refine (ex_check_sl neg' A' n' c' l' _ hb1' hn').mono ?_
   rintro e2 w2 ⟨rfl, hb2⟩
   rw [E2.out]
   have K2 := (K1.next hb2)
   have ha2 := ha1.below hb2
   have hb2' := hb1'.below hb2
   obtain ⟨⟨qa2, qb2, qc2, qd2⟩, ⟨qe2, qf2, qg2, qh2⟩, qi2⟩ := (K2.blk (g := w.heap.size) (by repeat constructor)).four
   go_wp2_with fail
   go_ret
   exact ⟨by rw [HC.out]; rfl, K2.1⟩
 ·have E1 : Hid (chk neg l = 1) := Lib.hid (chk_no k1)
  have HC := Lib.hid (chkFr_no (neg := neg) (l := l) (neg' := neg') (l' := l') (fun h => k1 h.1))
  clear k1 ha hb
  go_enter Tryz.func257, Tryz.ntmps257
  go_wp2_with fail
  refine (ex_check_sl neg A n c l _ ha0 hn).mono ?_
  rintro e1 w1 ⟨rfl, hb1⟩
  rw [E1.out]
  have K1 := (K0.next hb1)
  have ha1 := ha0.below hb1
  have hb1' := hb0.below hb1
  obtain ⟨⟨qa1, qb1, qc1, qd1⟩, ⟨qe1, qf1, qg1, qh1⟩, qi1⟩ := (K1.blk (g := w.heap.size) (by repeat constructor)).four
  go_wp2_with fail
  go_ret
  exact ⟨by rw [HC.out]; rfl, K1.1⟩
set_option maxRecDepth 100000 in
set_option maxHeartbeats 3200000 in
theorem ref2_check (neg neg' : Bool) (A A' : Option Addr) (n c n' c' : Nat) (l l' : List Nat) (w : World) (ha : Sl w A n c l) (hb : Sl w A' n' c' l') (hn : n ≤ 1000000000) (hn' : n' ≤ 1000000000) :
  Calls Tryz.prog 258 #[.agg #[.bool neg, .slice A n c, .bool neg', .slice A' n' c']] w (RetV w (.int .i64 (chkFr neg l neg' l'))) := by
 have K0 := (Mm.nil w).var (g := w.heap.size) rfl [.bool neg, .slice A n c, .bool neg', .slice A' n' c'] 26
 have ha0 := ha.below K0.1
 have hb0 := hb.below K0.1
 by_cases k1 : okInt neg l
 ·have E1 : Hid (chk neg l = 0) := Lib.hid (chk_ok k1)
  by_cases k2 : okInt neg' l'
  ·have E2 : Hid (chk neg' l' = 0) := Lib.hid (chk_ok k2)
   have HI1 : IsInt w neg A n c (sgnd neg (Lm.lv l)) := ⟨l, ha, k1.2.1, k1.2.2, rfl⟩
   have HI2 : IsInt w neg' A' n' c' (sgnd neg' (Lm.lv l')) := ⟨l', hb, k2.2.1, k2.2.2, rfl⟩
   have hl1 : n ≤ 2048 := by have := k1.1; have := ha.len; omega
   have hl2 : n' ≤ 2048 := by have := k2.1; have := hb.len; omega
   by_cases k3 : 0 < sgnd neg' (Lm.lv l')
   ·have E3 : Hid ((sgnd neg' (Lm.lv l')).sign = 1) := Lib.hid (sign_pos k3)
    obtain ⟨G, hG⟩ : ∃ G, Nat.gcd (Lm.lv l) (Lm.lv l') = G := ⟨_, rfl⟩
    have HG : Hid (Nat.gcd (sgnd neg (Lm.lv l)).natAbs (sgnd neg' (Lm.lv l')).natAbs = G) := Lib.hid (by rw [sgnd_abs, sgnd_abs]; exact hG)
    have HGB : Hid ((G : Int).natAbs < 2 ^ (32 * n')) := Lib.hid (by
     have hp : 0 < Lm.lv l' := by
      unfold sgnd at k3
      split at k3 <;> omega
     have h1 : G ≤ Lm.lv l' := by rw [← hG]; exact Nat.le_of_dvd hp (Nat.gcd_dvd_right _ _)
     have h2 := Lm.lv_lt hb.ok
     rw [hb.len, show Lm.B ^ n' = 2 ^ (32 * n') by rw [Nat.pow_mul]] at h2
     rw [Int.natAbs_natCast]
     omega)
    have HC : Hid (chkFr neg l neg' l' = if G = 1 then 0 else 1) := Lib.hid (by
     by_cases hg : G = 1
     ·rw [if_pos hg]; exact chkFr_ok ⟨k1, k2, k3, by rw [hG, hg]⟩
     ·rw [if_neg hg]; exact chkFr_no (fun h => hg (by rw [← hG]; exact h.2.2.2)))
    have K0 := (((Mm.nil w).int HI1).int HI2).var (g := w.heap.size) rfl [.bool neg, .slice A n c, .bool neg', .slice A' n' c'] 26
    clear k1 k2 k3 hG HI1 HI2 ha hb
    go_enter Tryz.func258, Tryz.ntmps258
    go_wp2_with fail
    refine (ref_check_sl neg A n c l _ ha0 hn).mono ?_
    rintro e1 w1 ⟨rfl, hb1⟩
    rw [E1.out]
    have K1 := (K0.next hb1)
    have ha1 := ha0.below hb1
    have hb1' := hb0.below hb1
    obtain ⟨⟨qa1, qb1, qc1, qd1⟩, ⟨qe1, qf1, qg1, qh1⟩, qi1⟩ := (K1.blk (g := w.heap.size) (by repeat constructor)).four
    go_wp2_with fail
    refine (ref_check_sl neg' A' n' c' l' _ hb1' hn').mono ?_
    rintro e2 w2 ⟨rfl, hb2⟩
    rw [E2.out]
    have K2 := (K1.next hb2)
    have ha2 := ha1.below hb2
    have hb2' := hb1'.below hb2
    obtain ⟨⟨qa2, qb2, qc2, qd2⟩, ⟨qe2, qf2, qg2, qh2⟩, qi2⟩ := (K2.blk (g := w.heap.size) (by repeat constructor)).four
    go_wp2_with fail
    refine (ref_sign_any neg' A' n' c' _ _ (K2.at_ (neg := neg') (A := A') (n := n') (c := c') (z := sgnd neg' (Lm.lv l')) (by simp))).mono ?_
    rintro e3 w3 ⟨rfl, hb3⟩
    rw [E3.out]
    have K3 := (K2.next hb3)
    have ha3 := ha2.below hb3
    have hb3' := hb2'.below hb3
    obtain ⟨⟨qa3, qb3, qc3, qd3⟩, ⟨qe3, qf3, qg3, qh3⟩, qi3⟩ := (K3.blk (g := w.heap.size) (by repeat constructor)).four
    go_wp2_with fail
    refine (ref2_common_any neg neg' A A' n c n' c' _ _ G _ (K3.at_ (neg := neg) (A := A) (n := n) (c := c) (z := sgnd neg (Lm.lv l)) (by simp)) (K3.at_ (neg := neg') (A := A') (n := n') (c := c') (z := sgnd neg' (Lm.lv l')) (by simp)) (by omega) (by omega) HG).mono ?_
    rintro e4 w4 ⟨ng, Ag, m4, c4, rfl, I4, hb4⟩
    have hm4 : m4 ≤ n' := int_len I4 HGB.out
    have K4 := ((K3.next hb4).int I4).var (g := w4.heap.size) rfl [.bool ng, .slice Ag m4 c4] 24
    clear I4
    obtain ⟨t, ht⟩ : ∃ t, decide ((1 : Int) < (G : Int)) = t := ⟨_, rfl⟩
    have HT := Lib.hid ht
    clear ht
    have qv := (K4.blk (g := w4.heap.size) (by repeat constructor)).two
    generalize hw5 : w4.alloc (.cells #[.bool ng, .slice Ag m4 c4] 24) = w5 at K4 qv
    obtain ⟨qv0, qv1, qv2, qv3, qv4⟩ := qv
    go_wp2_with fail
    try rw [hw5]
    go_region_held3 (fun w' => w'.cell? ⟨w4.heap.size, 0, none⟩ = some (.bool ng) ∧ w'.cell? ⟨w4.heap.size, 1, none⟩ = some (.slice Ag m4 c4))
     (go_keep)
     (first
      | (go_at_call 284; apply Calls.withMm (w0 := w); (case K => with_reducible repeat (first | exact K4 | apply Mm.drew | apply Mm.drewN)); intro KX; (with_reducible refine (ref_of_any 1 _ ?_).mono ?_); (focus (decide; done)); rintro e6 w6 ⟨no, Ao, m6, c6, rfl, I6, hb6⟩; have hm6 : m6 ≤ 1 := int_len I6 (by decide); (with_reducible have K6 := (KX.next hb6).int I6); obtain ⟨za, zb, zc, zd, ze⟩ := (K6.blk (g := w4.heap.size) (by repeat constructor)).two; clear KX I6 hb6)
      | (go_at_call 333; apply Calls.withMm (w0 := w); (case K => with_reducible repeat (first | exact K6 | apply Mm.drew | apply Mm.drewN)); intro KX; (with_reducible refine (ref_below_int no ng Ao Ag m6 c6 m4 c4 1 (G : Int) t _ ?_ ?_ (by omega) (by omega) HT).mono ?_); (with_reducible exact KX.at_ (by simp)); (with_reducible exact KX.at_ (by simp)); rintro e7 w7 ⟨rfl, hb7⟩; (with_reducible have K7 := KX.next hb7); obtain ⟨ya, yb, yc, yd, ye⟩ := (K7.blk (g := w4.heap.size) (by repeat constructor)).two; clear KX hb7))
    have hG0 : G ≠ 0 := fun h => by
     have := HG.out
     rw [h, sgnd_abs, sgnd_abs] at this
     have h2 := Nat.eq_zero_of_gcd_eq_zero_right this
     have h3 := E3.out
     rw [h2] at h3
     unfold sgnd at h3
     split at h3 <;> exact absurd h3 (by decide)
    by_cases hg : G = 1
    ·have ht : t = false := by rw [← HT.out]; exact decide_eq_false (by omega)
     subst ht
     rw [if_pos hg] at HC
     clear hg
     go_wp2_with fail
     go_ret
     exact ⟨by rw [HC.out]; rfl, K7.1⟩
    ·have ht : t = true := by rw [← HT.out]; exact decide_eq_true (by omega)
     subst ht
     rw [if_neg hg] at HC
     clear hg
     go_wp2_with fail
     go_ret
     exact ⟨by rw [HC.out]; rfl, K7.1⟩
   ·obtain ⟨S, hS⟩ : ∃ S, (sgnd neg' (Lm.lv l')).sign = S := ⟨_, rfl⟩
    have hS0 : S ≤ 0 := by rw [← hS]; rcases sign_not_pos k3 with h | h <;> omega
    have E3 := Lib.hid hS
    have HC := Lib.hid (chkFr_no (neg := neg) (l := l) (neg' := neg') (l' := l') (fun h => k3 h.2.2.1))
    have K0 := (((Mm.nil w).int HI1).int HI2).var (g := w.heap.size) rfl [.bool neg, .slice A n c, .bool neg', .slice A' n' c'] 26
    clear k1 k2 k3 hS HI1 HI2 ha hb
    go_enter Tryz.func258, Tryz.ntmps258
    go_wp2_with fail
    refine (ref_check_sl neg A n c l _ ha0 hn).mono ?_
    rintro e1 w1 ⟨rfl, hb1⟩
    rw [E1.out]
    have K1 := (K0.next hb1)
    have ha1 := ha0.below hb1
    have hb1' := hb0.below hb1
    obtain ⟨⟨qa1, qb1, qc1, qd1⟩, ⟨qe1, qf1, qg1, qh1⟩, qi1⟩ := (K1.blk (g := w.heap.size) (by repeat constructor)).four
    go_wp2_with fail
    refine (ref_check_sl neg' A' n' c' l' _ hb1' hn').mono ?_
    rintro e2 w2 ⟨rfl, hb2⟩
    rw [E2.out]
    have K2 := (K1.next hb2)
    have ha2 := ha1.below hb2
    have hb2' := hb1'.below hb2
    obtain ⟨⟨qa2, qb2, qc2, qd2⟩, ⟨qe2, qf2, qg2, qh2⟩, qi2⟩ := (K2.blk (g := w.heap.size) (by repeat constructor)).four
    go_wp2_with fail
    refine (ref_sign_any neg' A' n' c' _ _ (K2.at_ (neg := neg') (A := A') (n := n') (c := c') (z := sgnd neg' (Lm.lv l')) (by simp))).mono ?_
    rintro e3 w3 ⟨rfl, hb3⟩
    rw [E3.out]
    have K3 := (K2.next hb3)
    have ha3 := ha2.below hb3
    have hb3' := hb2'.below hb3
    obtain ⟨⟨qa3, qb3, qc3, qd3⟩, ⟨qe3, qf3, qg3, qh3⟩, qi3⟩ := (K3.blk (g := w.heap.size) (by repeat constructor)).four
    go_wp2_with fail
    go_ret
    exact ⟨by rw [HC.out]; rfl, K3.1⟩
  ·have E2 : Hid (chk neg' l' = 1) := Lib.hid (chk_no k2)
   have HC := Lib.hid (chkFr_no (neg := neg) (l := l) (neg' := neg') (l' := l') (fun h => k2 h.2.1))
   clear k1 k2 ha hb
   go_enter Tryz.func258, Tryz.ntmps258
   go_wp2_with fail
   refine (ref_check_sl neg A n c l _ ha0 hn).mono ?_
   rintro e1 w1 ⟨rfl, hb1⟩
   rw [E1.out]
   have K1 := (K0.next hb1)
   have ha1 := ha0.below hb1
   have hb1' := hb0.below hb1
   obtain ⟨⟨qa1, qb1, qc1, qd1⟩, ⟨qe1, qf1, qg1, qh1⟩, qi1⟩ := (K1.blk (g := w.heap.size) (by repeat constructor)).four
   go_wp2_with fail
   refine (ref_check_sl neg' A' n' c' l' _ hb1' hn').mono ?_
   rintro e2 w2 ⟨rfl, hb2⟩
   rw [E2.out]
   have K2 := (K1.next hb2)
   have ha2 := ha1.below hb2
   have hb2' := hb1'.below hb2
   obtain ⟨⟨qa2, qb2, qc2, qd2⟩, ⟨qe2, qf2, qg2, qh2⟩, qi2⟩ := (K2.blk (g := w.heap.size) (by repeat constructor)).four
   go_wp2_with fail
   go_ret
   exact ⟨by rw [HC.out]; rfl, K2.1⟩
 ·have E1 : Hid (chk neg l = 1) := Lib.hid (chk_no k1)
  have HC := Lib.hid (chkFr_no (neg := neg) (l := l) (neg' := neg') (l' := l') (fun h => k1 h.1))
  clear k1 ha hb
  go_enter Tryz.func258, Tryz.ntmps258
  go_wp2_with fail
  refine (ref_check_sl neg A n c l _ ha0 hn).mono ?_
  rintro e1 w1 ⟨rfl, hb1⟩
  rw [E1.out]
  have K1 := (K0.next hb1)
  have ha1 := ha0.below hb1
  have hb1' := hb0.below hb1
  obtain ⟨⟨qa1, qb1, qc1, qd1⟩, ⟨qe1, qf1, qg1, qh1⟩, qi1⟩ := (K1.blk (g := w.heap.size) (by repeat constructor)).four
  go_wp2_with fail
  go_ret
  exact ⟨by rw [HC.out]; rfl, K1.1⟩
end Go.Proofs.YtgekmbfmfiikkaaGreatDoor
