/-
  A walk's memory: blocks of eight and of sixteen cells; complex numbers of two fractions.
  What may be: two or four fractions, a matrix, a beam.
-/
import Derived.Test.YtdmdaoginojalaaFrp
import Derived.Test.YtdmdaoginojalaaExB
import Derived.Test.YtdmdaoginojalaaChk
namespace Go.Proofs.Ytdmdaoginojalaa
open Go.RowKit

theorem Blk.c8 {wr : World} {g : Nat} {a0 a1 a2 a3 a4 a5 a6 a7 : Value} (h : Blk wr g [a0, a1, a2, a3, a4, a5, a6, a7]) : wr.cell? ⟨g, 0, none⟩ = some a0 ∧ wr.cell? ⟨g, 1, none⟩ = some a1 ∧ wr.cell? ⟨g, 2, none⟩ = some a2 ∧ wr.cell? ⟨g, 3, none⟩ = some a3 ∧ wr.cell? ⟨g, 4, none⟩ = some a4 ∧ wr.cell? ⟨g, 5, none⟩ = some a5 ∧ wr.cell? ⟨g, 6, none⟩ = some a6 ∧ wr.cell? ⟨g, 7, none⟩ = some a7 :=
  ⟨(h.2 0 a0 rfl).1, (h.2 1 a1 rfl).1, (h.2 2 a2 rfl).1, (h.2 3 a3 rfl).1, (h.2 4 a4 rfl).1, (h.2 5 a5 rfl).1, (h.2 6 a6 rfl).1, (h.2 7 a7 rfl).1⟩
theorem Blk.f8 {wr : World} {g : Nat} {a0 a1 a2 a3 a4 a5 a6 a7 : Value} (h : Blk wr g [a0, a1, a2, a3, a4, a5, a6, a7]) : wr.frozen? ⟨g, 0, none⟩ = false ∧ wr.frozen? ⟨g, 1, none⟩ = false ∧ wr.frozen? ⟨g, 2, none⟩ = false ∧ wr.frozen? ⟨g, 3, none⟩ = false ∧ wr.frozen? ⟨g, 4, none⟩ = false ∧ wr.frozen? ⟨g, 5, none⟩ = false ∧ wr.frozen? ⟨g, 6, none⟩ = false ∧ wr.frozen? ⟨g, 7, none⟩ = false ∧ g < wr.heap.size :=
  ⟨(h.2 0 a0 rfl).2, (h.2 1 a1 rfl).2, (h.2 2 a2 rfl).2, (h.2 3 a3 rfl).2, (h.2 4 a4 rfl).2, (h.2 5 a5 rfl).2, (h.2 6 a6 rfl).2, (h.2 7 a7 rfl).2, h.1⟩
set_option maxHeartbeats 3200000 in
set_option maxRecDepth 100000 in
theorem Mm.set8 {w wr : World} {L : List (Nat × List Value)} {l : List IntAt} {g : Nat} {b0 b0' : Bool} {o0 o0' : Option Addr} {n0 c0 n0' c0' : Nat} {b1 b1' : Bool} {o1 o1' : Option Addr} {n1 c1 n1' c1' : Nat} (h : Mm w ((g, [.bool b0, .slice o0 n0 c0, .bool b0', .slice o0' n0' c0', .bool b1, .slice o1 n1 c1, .bool b1', .slice o1' n1' c1']) :: L) l wr) (hne : ∀ b ∈ L, g ≠ b.1) (s0 : Bool) (A0 : Option Addr) (p0 q0 : Nat) (z0 : Bool) (B0 : Option Addr) (m0 d0 : Nat) (s1 : Bool) (A1 : Option Addr) (p1 q1 : Nat) (z1 : Bool) (B1 : Option Addr) (m1 d1 : Nat) :
    Mm w ((g, [.bool s0, .slice A0 p0 q0, .bool z0, .slice B0 m0 d0, .bool s1, .slice A1 p1 q1, .bool z1, .slice B1 m1 d1]) :: L) l ((((((((wr.setCell ⟨g, 0, none⟩ (.bool s0)).setCell ⟨g, 1, none⟩ (.slice A0 p0 q0)).setCell ⟨g, 2, none⟩ (.bool z0)).setCell ⟨g, 3, none⟩ (.slice B0 m0 d0)).setCell ⟨g, 4, none⟩ (.bool s1)).setCell ⟨g, 5, none⟩ (.slice A1 p1 q1)).setCell ⟨g, 6, none⟩ (.bool z1)).setCell ⟨g, 7, none⟩ (.slice B1 m1 d1)) :=
  ((((((((h.set hne (.bool b0) (.bool s0) rfl (by simp)).set hne (.slice o0 n0 c0) (.slice A0 p0 q0) rfl (by simp)).set hne (.bool b0') (.bool z0) rfl (by simp)).set hne (.slice o0' n0' c0') (.slice B0 m0 d0) rfl (by simp)).set hne (.bool b1) (.bool s1) rfl (by simp)).set hne (.slice o1 n1 c1) (.slice A1 p1 q1) rfl (by simp)).set hne (.bool b1') (.bool z1) rfl (by simp)).set hne (.slice o1' n1' c1') (.slice B1 m1 d1) rfl (by simp))
theorem Blk.c16 {wr : World} {g : Nat} {a0 a1 a2 a3 a4 a5 a6 a7 a8 a9 b0 b1 b2 b3 b4 b5 : Value} (h : Blk wr g [a0, a1, a2, a3, a4, a5, a6, a7, a8, a9, b0, b1, b2, b3, b4, b5]) : wr.cell? ⟨g, 0, none⟩ = some a0 ∧ wr.cell? ⟨g, 1, none⟩ = some a1 ∧ wr.cell? ⟨g, 2, none⟩ = some a2 ∧ wr.cell? ⟨g, 3, none⟩ = some a3 ∧ wr.cell? ⟨g, 4, none⟩ = some a4 ∧ wr.cell? ⟨g, 5, none⟩ = some a5 ∧ wr.cell? ⟨g, 6, none⟩ = some a6 ∧ wr.cell? ⟨g, 7, none⟩ = some a7 ∧ wr.cell? ⟨g, 8, none⟩ = some a8 ∧ wr.cell? ⟨g, 9, none⟩ = some a9 ∧ wr.cell? ⟨g, 10, none⟩ = some b0 ∧ wr.cell? ⟨g, 11, none⟩ = some b1 ∧ wr.cell? ⟨g, 12, none⟩ = some b2 ∧ wr.cell? ⟨g, 13, none⟩ = some b3 ∧ wr.cell? ⟨g, 14, none⟩ = some b4 ∧ wr.cell? ⟨g, 15, none⟩ = some b5 :=
  ⟨(h.2 0 a0 rfl).1, (h.2 1 a1 rfl).1, (h.2 2 a2 rfl).1, (h.2 3 a3 rfl).1, (h.2 4 a4 rfl).1, (h.2 5 a5 rfl).1, (h.2 6 a6 rfl).1, (h.2 7 a7 rfl).1, (h.2 8 a8 rfl).1, (h.2 9 a9 rfl).1, (h.2 10 b0 rfl).1, (h.2 11 b1 rfl).1, (h.2 12 b2 rfl).1, (h.2 13 b3 rfl).1, (h.2 14 b4 rfl).1, (h.2 15 b5 rfl).1⟩
theorem Blk.f16 {wr : World} {g : Nat} {a0 a1 a2 a3 a4 a5 a6 a7 a8 a9 b0 b1 b2 b3 b4 b5 : Value} (h : Blk wr g [a0, a1, a2, a3, a4, a5, a6, a7, a8, a9, b0, b1, b2, b3, b4, b5]) : wr.frozen? ⟨g, 0, none⟩ = false ∧ wr.frozen? ⟨g, 1, none⟩ = false ∧ wr.frozen? ⟨g, 2, none⟩ = false ∧ wr.frozen? ⟨g, 3, none⟩ = false ∧ wr.frozen? ⟨g, 4, none⟩ = false ∧ wr.frozen? ⟨g, 5, none⟩ = false ∧ wr.frozen? ⟨g, 6, none⟩ = false ∧ wr.frozen? ⟨g, 7, none⟩ = false ∧ wr.frozen? ⟨g, 8, none⟩ = false ∧ wr.frozen? ⟨g, 9, none⟩ = false ∧ wr.frozen? ⟨g, 10, none⟩ = false ∧ wr.frozen? ⟨g, 11, none⟩ = false ∧ wr.frozen? ⟨g, 12, none⟩ = false ∧ wr.frozen? ⟨g, 13, none⟩ = false ∧ wr.frozen? ⟨g, 14, none⟩ = false ∧ wr.frozen? ⟨g, 15, none⟩ = false ∧ g < wr.heap.size :=
  ⟨(h.2 0 a0 rfl).2, (h.2 1 a1 rfl).2, (h.2 2 a2 rfl).2, (h.2 3 a3 rfl).2, (h.2 4 a4 rfl).2, (h.2 5 a5 rfl).2, (h.2 6 a6 rfl).2, (h.2 7 a7 rfl).2, (h.2 8 a8 rfl).2, (h.2 9 a9 rfl).2, (h.2 10 b0 rfl).2, (h.2 11 b1 rfl).2, (h.2 12 b2 rfl).2, (h.2 13 b3 rfl).2, (h.2 14 b4 rfl).2, (h.2 15 b5 rfl).2, h.1⟩
set_option maxHeartbeats 3200000 in
set_option maxRecDepth 100000 in
theorem Mm.set16 {w wr : World} {L : List (Nat × List Value)} {l : List IntAt} {g : Nat} {b0 b0' : Bool} {o0 o0' : Option Addr} {n0 c0 n0' c0' : Nat} {b1 b1' : Bool} {o1 o1' : Option Addr} {n1 c1 n1' c1' : Nat} {b2 b2' : Bool} {o2 o2' : Option Addr} {n2 c2 n2' c2' : Nat} {b3 b3' : Bool} {o3 o3' : Option Addr} {n3 c3 n3' c3' : Nat} (h : Mm w ((g, [.bool b0, .slice o0 n0 c0, .bool b0', .slice o0' n0' c0', .bool b1, .slice o1 n1 c1, .bool b1', .slice o1' n1' c1', .bool b2, .slice o2 n2 c2, .bool b2', .slice o2' n2' c2', .bool b3, .slice o3 n3 c3, .bool b3', .slice o3' n3' c3']) :: L) l wr) (hne : ∀ b ∈ L, g ≠ b.1) (s0 : Bool) (A0 : Option Addr) (p0 q0 : Nat) (z0 : Bool) (B0 : Option Addr) (m0 d0 : Nat) (s1 : Bool) (A1 : Option Addr) (p1 q1 : Nat) (z1 : Bool) (B1 : Option Addr) (m1 d1 : Nat) (s2 : Bool) (A2 : Option Addr) (p2 q2 : Nat) (z2 : Bool) (B2 : Option Addr) (m2 d2 : Nat) (s3 : Bool) (A3 : Option Addr) (p3 q3 : Nat) (z3 : Bool) (B3 : Option Addr) (m3 d3 : Nat) :
    Mm w ((g, [.bool s0, .slice A0 p0 q0, .bool z0, .slice B0 m0 d0, .bool s1, .slice A1 p1 q1, .bool z1, .slice B1 m1 d1, .bool s2, .slice A2 p2 q2, .bool z2, .slice B2 m2 d2, .bool s3, .slice A3 p3 q3, .bool z3, .slice B3 m3 d3]) :: L) l ((((((((((((((((wr.setCell ⟨g, 0, none⟩ (.bool s0)).setCell ⟨g, 1, none⟩ (.slice A0 p0 q0)).setCell ⟨g, 2, none⟩ (.bool z0)).setCell ⟨g, 3, none⟩ (.slice B0 m0 d0)).setCell ⟨g, 4, none⟩ (.bool s1)).setCell ⟨g, 5, none⟩ (.slice A1 p1 q1)).setCell ⟨g, 6, none⟩ (.bool z1)).setCell ⟨g, 7, none⟩ (.slice B1 m1 d1)).setCell ⟨g, 8, none⟩ (.bool s2)).setCell ⟨g, 9, none⟩ (.slice A2 p2 q2)).setCell ⟨g, 10, none⟩ (.bool z2)).setCell ⟨g, 11, none⟩ (.slice B2 m2 d2)).setCell ⟨g, 12, none⟩ (.bool s3)).setCell ⟨g, 13, none⟩ (.slice A3 p3 q3)).setCell ⟨g, 14, none⟩ (.bool z3)).setCell ⟨g, 15, none⟩ (.slice B3 m3 d3)) :=
  ((((((((((((((((h.set hne (.bool b0) (.bool s0) rfl (by simp)).set hne (.slice o0 n0 c0) (.slice A0 p0 q0) rfl (by simp)).set hne (.bool b0') (.bool z0) rfl (by simp)).set hne (.slice o0' n0' c0') (.slice B0 m0 d0) rfl (by simp)).set hne (.bool b1) (.bool s1) rfl (by simp)).set hne (.slice o1 n1 c1) (.slice A1 p1 q1) rfl (by simp)).set hne (.bool b1') (.bool z1) rfl (by simp)).set hne (.slice o1' n1' c1') (.slice B1 m1 d1) rfl (by simp)).set hne (.bool b2) (.bool s2) rfl (by simp)).set hne (.slice o2 n2 c2) (.slice A2 p2 q2) rfl (by simp)).set hne (.bool b2') (.bool z2) rfl (by simp)).set hne (.slice o2' n2' c2') (.slice B2 m2 d2) rfl (by simp)).set hne (.bool b3) (.bool s3) rfl (by simp)).set hne (.slice o3 n3 c3) (.slice A3 p3 q3) rfl (by simp)).set hne (.bool b3') (.bool z3) rfl (by simp)).set hne (.slice o3' n3' c3') (.slice B3 m3 d3) rfl (by simp))
def RetGa (W : World) (x y : Rat) (e : Ending) (w' : World) : Prop :=
  ∃ (s0 : Bool) (A0 : Option Addr) (p0 q0 : Nat) (z0 : Bool) (B0 : Option Addr) (m0 d0 : Nat) (s1 : Bool) (A1 : Option Addr) (p1 q1 : Nat) (z1 : Bool) (B1 : Option Addr) (m1 d1 : Nat),
    e = .returned (.agg #[.bool s0, .slice A0 p0 q0, .bool z0, .slice B0 m0 d0, .bool s1, .slice A1 p1 q1, .bool z1, .slice B1 m1 d1]) ∧
    IsInt w' s0 A0 p0 q0 x.num ∧ IsInt w' z0 B0 m0 d0 (x.den : Int) ∧ IsInt w' s1 A1 p1 q1 y.num ∧ IsInt w' z1 B1 m1 d1 (y.den : Int) ∧ Below W.heap.size W w'
theorem Sz.zero : Sz 0 1 := ⟨by decide, by decide⟩
theorem Sz.one : Sz 1 1 := ⟨by decide, by decide⟩
theorem sz_of {w w' : World} {neg neg' : Bool} {A A' : Option Addr} {n c n' c' : Nat} {x : Rat} (h : IsInt w neg A n c x.num) (k : IsInt w' neg' A' n' c' (x.den : Int)) {M : Nat} (hn : n ≤ M) (hn' : n' ≤ M) : Sz x M := by
  have h1 := isInt_lt h
  have h2 := isInt_lt k
  rw [show Lm.B ^ n = 2 ^ (32 * n) by rw [Nat.pow_mul]] at h1
  rw [show Lm.B ^ n' = 2 ^ (32 * n') by rw [Nat.pow_mul]] at h2
  exact ⟨Nat.lt_of_lt_of_le h1 (Nat.pow_le_pow_right (by decide) (by omega)), by rw [Int.natAbs_natCast] at h2; exact Nat.lt_of_lt_of_le h2 (Nat.pow_le_pow_right (by decide) (by omega))⟩
end Go.Proofs.Ytdmdaoginojalaa

namespace Go.Proofs.Ytdmdaoginojalaa
open Go.RowKit

def two (a b : LmE) : Nat → LmE := fun i => if i = 0 then a else b
def four (a b c d : LmE) : Nat → LmE := fun i => if i = 0 then a else if i = 1 then b else if i = 2 then c else d
theorem lfs_two (w : World) {g : Nat} (hg : w.heap.size = g) (t : TypeId) {a b : LmE} (ha : LmE.at_ w a) (hb : LmE.at_ w b) : Lfs (w.alloc (.cells (a.vs ++ b.vs).toArray t)) g 2 (two a b) := by
  have hB := Blk.new w hg (a.vs ++ b.vs) t
  have hn : Below w.heap.size w (w.alloc (.cells (a.vs ++ b.vs).toArray t)) := (Below.refl _ _).alloc (Nat.le_refl _) _
  refine ⟨hB.1, fun i hi => ?_⟩
  match i, hi with
  | 0, _ => exact ⟨⟨(hB.2 0 _ rfl).1, (hB.2 1 _ rfl).1, (hB.2 2 _ rfl).1, (hB.2 3 _ rfl).1⟩, LmE.at_.below ha hn⟩
  | 1, _ => exact ⟨⟨(hB.2 4 _ rfl).1, (hB.2 5 _ rfl).1, (hB.2 6 _ rfl).1, (hB.2 7 _ rfl).1⟩, LmE.at_.below hb hn⟩
theorem lfs_four (w : World) {g : Nat} (hg : w.heap.size = g) (t : TypeId) {a b c d : LmE} (ha : LmE.at_ w a) (hb : LmE.at_ w b) (hc : LmE.at_ w c) (hd : LmE.at_ w d) : Lfs (w.alloc (.cells (a.vs ++ b.vs ++ c.vs ++ d.vs).toArray t)) g 4 (four a b c d) := by
  have hB := Blk.new w hg (a.vs ++ b.vs ++ c.vs ++ d.vs) t
  have hn : Below w.heap.size w (w.alloc (.cells (a.vs ++ b.vs ++ c.vs ++ d.vs).toArray t)) := (Below.refl _ _).alloc (Nat.le_refl _) _
  refine ⟨hB.1, fun i hi => ?_⟩
  match i, hi with
  | 0, _ => exact ⟨⟨(hB.2 0 _ rfl).1, (hB.2 1 _ rfl).1, (hB.2 2 _ rfl).1, (hB.2 3 _ rfl).1⟩, LmE.at_.below ha hn⟩
  | 1, _ => exact ⟨⟨(hB.2 4 _ rfl).1, (hB.2 5 _ rfl).1, (hB.2 6 _ rfl).1, (hB.2 7 _ rfl).1⟩, LmE.at_.below hb hn⟩
  | 2, _ => exact ⟨⟨(hB.2 8 _ rfl).1, (hB.2 9 _ rfl).1, (hB.2 10 _ rfl).1, (hB.2 11 _ rfl).1⟩, LmE.at_.below hc hn⟩
  | 3, _ => exact ⟨⟨(hB.2 12 _ rfl).1, (hB.2 13 _ rfl).1, (hB.2 14 _ rfl).1, (hB.2 15 _ rfl).1⟩, LmE.at_.below hd hn⟩
theorem okAll_two (a b : LmE) : okAll (two a b) 2 = (okB a && okB b) := by simp [okAll, two]
theorem okAll_four (a b c d : LmE) : okAll (four a b c d) 4 = (okB a && okB b && okB c && okB d) := by simp [okAll, four]
/-- What a fraction of limbs is worth. -/
noncomputable def rv (f : LmE) : Rat := Rat.divInt (sgnd f.1.1 (Lm.lv f.1.2.2.2.2)) (sgnd f.2.1 (Lm.lv f.2.2.2.2.2))
theorem ok_num {f : LmE} (h : okB f = true) : (rv f).num = sgnd f.1.1 (Lm.lv f.1.2.2.2.2) ∧ ((rv f).den : Int) = sgnd f.2.1 (Lm.lv f.2.2.2.2.2) := by
  have ho := (okB_iff f).1 h
  have h3 := ho.2.2.1
  have hg : (1 : Nat) = Nat.gcd (sgnd f.1.1 (Lm.lv f.1.2.2.2.2)).natAbs (sgnd f.2.1 (Lm.lv f.2.2.2.2.2)).natAbs := by rw [sgnd_abs, sgnd_abs]; exact ho.2.2.2.symm
  have e1 := low_num (p := sgnd f.1.1 (Lm.lv f.1.2.2.2.2)) (q := sgnd f.2.1 (Lm.lv f.2.2.2.2.2)) (by omega) hg
  have e2 := low_den (p := sgnd f.1.1 (Lm.lv f.1.2.2.2.2)) (q := sgnd f.2.1 (Lm.lv f.2.2.2.2.2)) (by omega) hg
  unfold tn at e1 e2
  rw [if_neg (by omega), Int.natCast_one, Int.tdiv_one] at e1 e2
  exact ⟨e1.symm, e2.symm⟩
theorem ok_ints {w : World} {f : LmE} (h : okB f = true) (ha : LmE.at_ w f) :
    IsInt w f.1.1 f.1.2.1 f.1.2.2.1 f.1.2.2.2.1 (rv f).num ∧ IsInt w f.2.1 f.2.2.1 f.2.2.2.1 f.2.2.2.2.1 ((rv f).den : Int) ∧ Sz (rv f) 2048 := by
  obtain ⟨e1, e2⟩ := ok_num h
  have ho := (okB_iff f).1 h
  have h1 : IsInt w f.1.1 f.1.2.1 f.1.2.2.1 f.1.2.2.2.1 (rv f).num := ⟨_, ha.1, ho.1.2.1, ho.1.2.2, e1⟩
  have h2 : IsInt w f.2.1 f.2.2.1 f.2.2.2.1 f.2.2.2.2.1 ((rv f).den : Int) := ⟨_, ha.2.1, ho.2.1.2.1, ho.2.1.2.2, e2⟩
  refine ⟨h1, h2, sz_of h1 h2 ?_ ?_⟩
  · rw [← ha.1.len]; exact ho.1.1
  · rw [← ha.2.1.len]; exact ho.2.1.1
/-- May a matrix be? -/
noncomputable def okM (a b c d : LmE) : Bool := okB a && okB b && okB c && okB d && decide (rv a * rv d - rv b * rv c = 1)
/-- May a beam be? -/
noncomputable def chkBm (a b : LmE) : Int := if okB a && okB b then (if 0 < rv b then 0 else 8) else 1
theorem rat_num_sign (x : Rat) : (0 < x → x.num.sign = 1) ∧ (¬ 0 < x → x.num.sign = 0 ∨ x.num.sign = -1) := by
  have h := rcmp_sign x 0
  have e : x.num * (((0 : Rat).den : Nat) : Int) - (0 : Rat).num * (x.den : Int) = x.num := by
    rw [show (0 : Rat).num = 0 from rfl, show (0 : Rat).den = 1 from rfl]
    omega
  rw [e] at h
  rw [h]
  unfold rcmp
  constructor
  · intro hp
    rw [if_neg (by grind), if_pos hp]
  · intro hp
    by_cases hn : x < 0
    · rw [if_pos hn]; exact .inr rfl
    · rw [if_neg hn, if_neg hp]; exact .inl rfl

theorem rcmp_eq (x y : Rat) : (rcmp x y == 0) = decide (x = y) := by
  unfold rcmp
  by_cases h1 : x < y
  · rw [if_pos h1, decide_eq_false (fun e => by rw [e] at h1; exact Rat.lt_irrefl h1)]; rfl
  · rw [if_neg h1]
    by_cases h2 : y < x
    · rw [if_pos h2, decide_eq_false (fun e => by rw [e] at h2; exact Rat.lt_irrefl h2)]; rfl
    · rw [if_neg h2, decide_eq_true (Rat.le_antisymm (Rat.not_lt.1 h2) (Rat.not_lt.1 h1))]; rfl
end Go.Proofs.Ytdmdaoginojalaa
