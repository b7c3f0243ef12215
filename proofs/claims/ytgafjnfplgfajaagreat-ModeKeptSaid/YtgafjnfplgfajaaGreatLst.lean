/-
  A walk's memory: blocks of eight and of sixteen cells; complex numbers of two fractions. All of a list written out, one by one.
-/
import Derived.Test.YtgafjnfplgfajaaGreatMem
import Derived.Test.YtgafjnfplgfajaaGreatFrR
namespace Go.Proofs.YtgafjnfplgfajaaGreat
open Go.RowKit

theorem Blk.c8 {wr : World} {g : Nat} {a0 a1 a2 a3 a4 a5 a6 a7 : Value} (h : Blk wr g [a0, a1, a2, a3, a4, a5, a6, a7]) : wr.cell? ⟨g, 0, none⟩ = some a0 ∧ wr.cell? ⟨g, 1, none⟩ = some a1 ∧ wr.cell? ⟨g, 2, none⟩ = some a2 ∧ wr.cell? ⟨g, 3, none⟩ = some a3 ∧ wr.cell? ⟨g, 4, none⟩ = some a4 ∧ wr.cell? ⟨g, 5, none⟩ = some a5 ∧ wr.cell? ⟨g, 6, none⟩ = some a6 ∧ wr.cell? ⟨g, 7, none⟩ = some a7 :=
  ⟨(h.2 0 a0 rfl).1, (h.2 1 a1 rfl).1, (h.2 2 a2 rfl).1, (h.2 3 a3 rfl).1, (h.2 4 a4 rfl).1, (h.2 5 a5 rfl).1, (h.2 6 a6 rfl).1, (h.2 7 a7 rfl).1⟩
theorem Blk.f8 {wr : World} {g : Nat} {a0 a1 a2 a3 a4 a5 a6 a7 : Value} (h : Blk wr g [a0, a1, a2, a3, a4, a5, a6, a7]) : wr.frozen? ⟨g, 0, none⟩ = false ∧ wr.frozen? ⟨g, 1, none⟩ = false ∧ wr.frozen? ⟨g, 2, none⟩ = false ∧ wr.frozen? ⟨g, 3, none⟩ = false ∧ wr.frozen? ⟨g, 4, none⟩ = false ∧ wr.frozen? ⟨g, 5, none⟩ = false ∧ wr.frozen? ⟨g, 6, none⟩ = false ∧ wr.frozen? ⟨g, 7, none⟩ = false ∧ g < wr.heap.size :=
  ⟨(h.2 0 a0 rfl).2, (h.2 1 a1 rfl).2, (h.2 2 a2 rfl).2, (h.2 3 a3 rfl).2, (h.2 4 a4 rfl).2, (h.2 5 a5 rfl).2, (h.2 6 a6 rfl).2, (h.2 7 a7 rfl).2, h.1⟩
set_option maxHeartbeats 3200000 in
set_option maxRecDepth 100000 in
theorem Mm.set8 {w wr : World} {L : List (Nat × List Value)} {l : List IntAt} {g : Nat} {b0 b0' : Bool} {o0 o0' : Option Addr} {n0 c0 n0' c0' : Nat} {b1 b1' : Bool} {o1 o1' : Option Addr} {n1 c1 n1' c1' : Nat} (h : Mm w ((g, [.bool b0, .slice o0 n0 c0, .bool b0', .slice o0' n0' c0', .bool b1, .slice o1 n1 c1, .bool b1', .slice o1' n1' c1']) :: L) l wr) (hne : ∀ b ∈ L, g ≠ b.1) (s0 : Bool) (A0 : Option Addr) (p0 q0 : Nat) (z0 : Bool) (B0 : Option Addr) (m0 d0 : Nat) (s1 : Bool) (A1 : Option Addr) (p1 q1 : Nat) (z1 : Bool) (B1 : Option Addr) (m1 d1 : Nat) :
    Mm w ((g, [.bool s0, .slice A0 p0 q0, .bool z0, .slice B0 m0 d0, .bool s1, .slice A1 p1 q1, .bool z1, .slice B1 m1 d1]) :: L) l ((((((((wr.setCell ⟨g, 0, none⟩ (.bool s0)).setCell ⟨g, 1, none⟩ (.slice A0 p0 q0)).setCell ⟨g, 2, none⟩ (.bool z0)).setCell ⟨g, 3, none⟩ (.slice B0 m0 d0)).setCell ⟨g, 4, none⟩ (.bool s1)).setCell ⟨g, 5, none⟩ (.slice A1 p1 q1)).setCell ⟨g, 6, none⟩ (.bool z1)).setCell ⟨g, 7, none⟩ (.slice B1 m1 d1)) :=
  ((((((((h.set hne (.bool b0) (.bool s0) rfl (by simp)).set hne (.slice o0 n0 c0) (.slice A0 p0 q0) rfl (by simp)).set hne (.bool b0') (.bool z0) rfl (by simp)).set hne (.slice o0' n0' c0') (.slice B0 m0 d0) rfl (by simp)).set hne (.bool b1) (.bool s1) rfl (by simp)).set hne (.slice o1 n1 c1) (.slice A1 p1 q1) rfl (by simp)).set hne (.bool b1') (.bool z1) rfl (by simp)).set hne (.slice o1' n1' c1') (.slice B1 m1 d1) rfl (by simp))
theorem Blk.c16 {wr : World} {g : Nat} {a0 a1 a2 a3 a4 a5 a6 a7 a8 a9 b0 b1 b2 b3 b4 b5 : Value} (h : Blk wr g [a0, a1, a2, a3, a4, a5, a6, a7, a8, a9, b0, b1, b2, b3, b4, b5]) : wr.cell? ⟨g, 0, none⟩ = some a0 ∧ wr.cell? ⟨g, 1, none⟩ = some a1 ∧ wr.cell? ⟨g, 2, none⟩ = some a2 ∧ wr.cell? ⟨g, 3, none⟩ = some a3 ∧ wr.cell? ⟨g, 4, none⟩ = some a4 ∧ wr.cell? ⟨g, 5, none⟩ = some a5 ∧ wr.cell? ⟨g, 6, none⟩ = some a6 ∧ wr.cell? ⟨g, 7, none⟩ = some a7 ∧ wr.cell? ⟨g, 8, none⟩ = some a8 ∧ wr.cell? ⟨g, 9, none⟩ = some a9 ∧ wr.cell? ⟨g, 10, none⟩ = some b0 ∧ wr.cell? ⟨g, 11, none⟩ = some b1 ∧ wr.cell? ⟨g, 12, none⟩ = some b2 ∧ wr.cell? ⟨g, 13, none⟩ = some b3 ∧ wr.cell? ⟨g, 14, none⟩ = some b4 ∧ wr.cell? ⟨g, 15, none⟩ = some b5 :=
  ⟨(h.2 0 a0 rfl).1, (h.2 1 a1 rfl).1, (h.2 2 a2 rfl).1, (h.2 3 a3 rfl).1, (h.2 4 a4 rfl).1, (h.2 5 a5 rfl).1, (h.2 6 a6 rfl).1, (h.2 7 a7 rfl).1, (h.2 8 a8 rfl).1, (h.2 9 a9 rfl).1, (h.2 10 b0 rfl).1, (h.2 11 b1 rfl).1, (h.2 12 b2 rfl).1, (h.2 13 b3 rfl).1, (h.2 14 b4 rfl).1, (h.2 15 b5 rfl).1⟩
theorem Blk.f16 {wr : World} {g : Nat} {a0 a1 a2 a3 a4 a5 a6 a7 a8 a9 b0 b1 b2 b3 b4 b5 : Value} (h : Blk wr g [a0, a1, a2, a3, a4, a5, a6, a7, a8, a9, b0, b1, b2, b3, b4, b5]) : wr.frozen? ⟨g, 0, none⟩ = false ∧ wr.frozen? ⟨g, 1, none⟩ = false ∧ wr.frozen? ⟨g, 2, none⟩ = false ∧ wr.frozen? ⟨g, 3, none⟩ = false ∧ wr.frozen? ⟨g, 4, none⟩ = false ∧ wr.frozen? ⟨g, 5, none⟩ = false ∧ wr.frozen? ⟨g, 6, none⟩ = false ∧ wr.frozen? ⟨g, 7, none⟩ = false ∧ wr.frozen? ⟨g, 8, none⟩ = false ∧ wr.frozen? ⟨g, 9, none⟩ = false ∧ wr.frozen? ⟨g, 10, none⟩ = false ∧ wr.frozen? ⟨g, 11, none⟩ = false ∧ wr.frozen? ⟨g, 12, none⟩ = false ∧ wr.frozen? ⟨g, 13, none⟩ = false ∧ wr.frozen? ⟨g, 14, none⟩ = false ∧ wr.frozen? ⟨g, 15, none⟩ = false ∧ g < wr.heap.size :=
  ⟨(h.2 0 a0 rfl).2, (h.2 1 a1 rfl).2, (h.2 2 a2 rfl).2, (h.2 3 a3 rfl).2, (h.2 4 a4 rfl).2, (h.2 5 a5 rfl).2, (h.2 6 a6 rfl).2, (h.2 7 a7 rfl).2, (h.2 8 a8 rfl).2, (h.2 9 a9 rfl).2, (h.2 10 b0 rfl).2, (h.2 11 b1 rfl).2, (h.2 12 b2 rfl).2, (h.2 13 b3 rfl).2, (h.2 14 b4 rfl).2, (h.2 15 b5 rfl).2, h.1⟩
set_option maxHeartbeats 3200000 in
set_option maxRecDepth 100000 in
theorem Mm.set16 {w wr : World} {L : List (Nat × List Value)} {l : List IntAt} {g : Nat} {b0 b0' : Bool} {o0 o0' : Option Addr} {n0 c0 n0' c0' : Nat} {b1 b1' : Bool} {o1 o1' : Option Addr} {n1 c1 n1' c1' : Nat} {b2 b2' : Bool} {o2 o2' : Option Addr} {n2 c2 n2' c2' : Nat} {b3 b3' : Bool} {o3 o3' : Option Addr} {n3 c3 n3' c3' : Nat} (h : Mm w ((g, [.bool b0, .slice o0 n0 c0, .bool b0', .slice o0' n0' c0', .bool b1, .slice o1 n1 c1, .bool b1', .slice o1' n1' c1', .bool b2, .slice o2 n2 c2, .bool b2', .slice o2' n2' c2', .bool b3, .slice o3 n3 c3, .bool b3', .slice o3' n3' c3']) :: L) l wr) (hne : ∀ b ∈ L, g ≠ b.1) (s0 : Bool) (A0 : Option Addr) (p0 q0 : Nat) (z0 : Bool) (B0 : Option Addr) (m0 d0 : Nat) (s1 : Bool) (A1 : Option Addr) (p1 q1 : Nat) (z1 : Bool) (B1 : Option Addr) (m1 d1 : Nat) (s2 : Bool) (A2 : Option Addr) (p2 q2 : Nat) (z2 : Bool) (B2 : Option Addr) (m2 d2 : Nat) (s3 : Bool) (A3 : Option Addr) (p3 q3 : Nat) (z3 : Bool) (B3 : Option Addr) (m3 d3 : Nat) :
    Mm w ((g, [.bool s0, .slice A0 p0 q0, .bool z0, .slice B0 m0 d0, .bool s1, .slice A1 p1 q1, .bool z1, .slice B1 m1 d1, .bool s2, .slice A2 p2 q2, .bool z2, .slice B2 m2 d2, .bool s3, .slice A3 p3 q3, .bool z3, .slice B3 m3 d3]) :: L) l ((((((((((((((((wr.setCell ⟨g, 0, none⟩ (.bool s0)).setCell ⟨g, 1, none⟩ (.slice A0 p0 q0)).setCell ⟨g, 2, none⟩ (.bool z0)).setCell ⟨g, 3, none⟩ (.slice B0 m0 d0)).setCell ⟨g, 4, none⟩ (.bool s1)).setCell ⟨g, 5, none⟩ (.slice A1 p1 q1)).setCell ⟨g, 6, none⟩ (.bool z1)).setCell ⟨g, 7, none⟩ (.slice B1 m1 d1)).setCell ⟨g, 8, none⟩ (.bool s2)).setCell ⟨g, 9, none⟩ (.slice A2 p2 q2)).setCell ⟨g, 10, none⟩ (.bool z2)).setCell ⟨g, 11, none⟩ (.slice B2 m2 d2)).setCell ⟨g, 12, none⟩ (.bool s3)).setCell ⟨g, 13, none⟩ (.slice A3 p3 q3)).setCell ⟨g, 14, none⟩ (.bool z3)).setCell ⟨g, 15, none⟩ (.slice B3 m3 d3)) :=
  ((((((((((((((((h.set hne (.bool b0) (.bool s0) rfl (by simp)).set hne (.slice o0 n0 c0) (.slice A0 p0 q0) rfl (by simp)).set hne (.bool b0') (.bool z0) rfl (by simp)).set hne (.slice o0' n0' c0') (.slice B0 m0 d0) rfl (by simp)).set hne (.bool b1) (.bool s1) rfl (by simp)).set hne (.slice o1 n1 c1) (.slice A1 p1 q1) rfl (by simp)).set hne (.bool b1') (.bool z1) rfl (by simp)).set hne (.slice o1' n1' c1') (.slice B1 m1 d1) rfl (by simp)).set hne (.bool b2) (.bool s2) rfl (by simp)).set hne (.slice o2 n2 c2) (.slice A2 p2 q2) rfl (by simp)).set hne (.bool b2') (.bool z2) rfl (by simp)).set hne (.slice o2' n2' c2') (.slice B2 m2 d2) rfl (by simp)).set hne (.bool b3) (.bool s3) rfl (by simp)).set hne (.slice o3 n3 c3) (.slice A3 p3 q3) rfl (by simp)).set hne (.bool b3') (.bool z3) rfl (by simp)).set hne (.slice o3' n3' c3') (.slice B3 m3 d3) rfl (by simp))
def RetGa (W : World) (x y : Rat) (e : Ending) (w' : World) : Prop :=
  ∃ (s0 : Bool) (A0 : Option Addr) (p0 q0 : Nat) (z0 : Bool) (B0 : Option Addr) (m0 d0 : Nat) (s1 : Bool) (A1 : Option Addr) (p1 q1 : Nat) (z1 : Bool) (B1 : Option Addr) (m1 d1 : Nat),
    e = .returned (.agg #[.bool s0, .slice A0 p0 q0, .bool z0, .slice B0 m0 d0, .bool s1, .slice A1 p1 q1, .bool z1, .slice B1 m1 d1]) ∧
    IsInt w' s0 A0 p0 q0 x.num ∧ IsInt w' z0 B0 m0 d0 (x.den : Int) ∧ IsInt w' s1 A1 p1 q1 y.num ∧ IsInt w' z1 B1 m1 d1 (y.den : Int) ∧ Below W.heap.size W w'
theorem Sz.zero : Sz 0 1 := ⟨by decide, by decide⟩
theorem Sz.one : Sz 1 1 := ⟨by decide, by decide⟩
theorem sz_of {w w' : World} {neg neg' : Bool} {A A' : Option Addr} {n c n' c' : Nat} {x : Rat} (h : IsInt w neg A n c x.num) (k : IsInt w' neg' A' n' c' (x.den : Int)) {M : Nat} (hn : n ≤ M) (hn' : n' ≤ M) : Sz x M := by
  have h1 := isInt_lt h
  have h2 := isInt_lt k
  rw [show Lm.B ^ n = 2 ^ (32 * n) by rw [Nat.pow_mul]] at h1
  rw [show Lm.B ^ n' = 2 ^ (32 * n') by rw [Nat.pow_mul]] at h2
  exact ⟨Nat.lt_of_lt_of_le h1 (Nat.pow_le_pow_right (by decide) (by omega)), by rw [Int.natAbs_natCast] at h2; exact Nat.lt_of_lt_of_le h2 (Nat.pow_le_pow_right (by decide) (by omega))⟩
end Go.Proofs.YtgafjnfplgfajaaGreat

namespace Go.Proofs.YtgafjnfplgfajaaGreat
theorem all_nil {α : Type} {p : α → Prop} : ∀ b ∈ ([] : List α), p b := fun _ h => absurd h (by simp)
theorem all_cons {α : Type} {p : α → Prop} {a : α} {l : List α} (h : p a) (k : ∀ b ∈ l, p b) : ∀ b ∈ a :: l, p b := fun b hb => by
  rcases List.mem_cons.1 hb with rfl | hb
  · exact h
  · exact k b hb
end Go.Proofs.YtgafjnfplgfajaaGreat
