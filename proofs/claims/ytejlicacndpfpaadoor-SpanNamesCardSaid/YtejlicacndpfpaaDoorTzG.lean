/-
  May all of these fractions be? (ratio.Checks)
  A walk's memory: blocks of eight and of sixteen cells; complex numbers of two fractions.
  What may be: two or four fractions, a matrix, a beam.
  The fractions (frac): may one be, what a float is worth, two against one another.
-/
import Derived.Test.YtejlicacndpfpaaDoorExX
import Derived.Test.YtejlicacndpfpaaDoorMem
import Derived.Test.YtejlicacndpfpaaDoorExW
import Derived.Test.YtejlicacndpfpaaDoorTzF
import Derived.Test.YtejlicacndpfpaaDoorRaL
namespace Go.Proofs.YtejlicacndpfpaaDoor
open Go.RowKit

/-- A fraction in memory as limbs: its two numbers' values and limbs. -/
abbrev LmE := (Bool × Option Addr × Nat × Nat × List Nat) × (Bool × Option Addr × Nat × Nat × List Nat)
def LmE.at_ (wr : World) (f : LmE) : Prop := Sl wr f.1.2.1 f.1.2.2.1 f.1.2.2.2.1 f.1.2.2.2.2 ∧ Sl wr f.2.2.1 f.2.2.2.1 f.2.2.2.2.1 f.2.2.2.2.2 ∧ f.1.2.2.1 ≤ 1000000000 ∧ f.2.2.2.1 ≤ 1000000000
theorem LmE.at_.below {w w' : World} {f : LmE} (h : LmE.at_ w f) (hb : Below w.heap.size w w') : LmE.at_ w' f := ⟨h.1.below hb, h.2.1.below hb, h.2.2⟩
def LmE.vs (f : LmE) : List Value := [.bool f.1.1, .slice f.1.2.1 f.1.2.2.1 f.1.2.2.2.1, .bool f.2.1, .slice f.2.2.1 f.2.2.2.1 f.2.2.2.2.1]
/-- A block that holds fractions. -/
def Lfs (wr : World) (g N : Nat) (F : Nat → LmE) : Prop :=
  g < wr.heap.size ∧ ∀ i, i < N → (wr.cell? ⟨g, i * 4, none⟩ = some (.bool (F i).1.1) ∧ wr.cell? ⟨g, i * 4 + 1, none⟩ = some (.slice (F i).1.2.1 (F i).1.2.2.1 (F i).1.2.2.2.1) ∧
    wr.cell? ⟨g, i * 4 + 2, none⟩ = some (.bool (F i).2.1) ∧ wr.cell? ⟨g, i * 4 + 3, none⟩ = some (.slice (F i).2.2.1 (F i).2.2.2.1 (F i).2.2.2.2.1)) ∧ LmE.at_ wr (F i)
theorem Lfs.next {wr w' : World} {g N : Nat} {F : Nat → LmE} (h : Lfs wr g N F) (hb : Below wr.heap.size wr w') : Lfs w' g N F := by
  refine ⟨Nat.lt_of_lt_of_le h.1 hb.size, fun i hi => ?_⟩
  obtain ⟨⟨h0, h1, h2, h3⟩, h4⟩ := h.2 i hi
  obtain ⟨hc, _⟩ := bcell hb
  exact ⟨⟨(hc _ _ h.1).trans h0, (hc _ _ h.1).trans h1, (hc _ _ h.1).trans h2, (hc _ _ h.1).trans h3⟩, h4.below hb⟩
open Classical in
noncomputable def okB (f : LmE) : Bool := decide (okFr f.1.1 f.1.2.2.2.2 f.2.1 f.2.2.2.2.2)
open Classical in
theorem okB_iff (f : LmE) : okB f = true ↔ okFr f.1.1 f.1.2.2.2.2 f.2.1 f.2.2.2.2.2 := by
  unfold okB
  exact decide_eq_true_iff
open Classical in
theorem okB_chk (f : LmE) : chkFr f.1.1 f.1.2.2.2.2 f.2.1 f.2.2.2.2.2 = if okB f then 0 else 1 := by
  unfold okB
  by_cases h : okFr f.1.1 f.1.2.2.2.2 f.2.1 f.2.2.2.2.2
  · rw [chkFr_ok h, decide_eq_true h]; rfl
  · rw [chkFr_no h, decide_eq_false h]; rfl
end Go.Proofs.YtejlicacndpfpaaDoor

namespace Go.Proofs.YtejlicacndpfpaaDoor
open Go.RowKit

theorem Blk.c8 {wr : World} {g : Nat} {a0 a1 a2 a3 a4 a5 a6 a7 : Value} (h : Blk wr g [a0, a1, a2, a3, a4, a5, a6, a7]) : wr.cell? ⟨g, 0, none⟩ = some a0 ∧ wr.cell? ⟨g, 1, none⟩ = some a1 ∧ wr.cell? ⟨g, 2, none⟩ = some a2 ∧ wr.cell? ⟨g, 3, none⟩ = some a3 ∧ wr.cell? ⟨g, 4, none⟩ = some a4 ∧ wr.cell? ⟨g, 5, none⟩ = some a5 ∧ wr.cell? ⟨g, 6, none⟩ = some a6 ∧ wr.cell? ⟨g, 7, none⟩ = some a7 :=
  ⟨(h.2 0 a0 rfl).1, (h.2 1 a1 rfl).1, (h.2 2 a2 rfl).1, (h.2 3 a3 rfl).1, (h.2 4 a4 rfl).1, (h.2 5 a5 rfl).1, (h.2 6 a6 rfl).1, (h.2 7 a7 rfl).1⟩
theorem Sz.zero : Sz 0 1 := ⟨by decide, by decide⟩
theorem Sz.one : Sz 1 1 := ⟨by decide, by decide⟩
end Go.Proofs.YtejlicacndpfpaaDoor

namespace Go.Proofs.YtejlicacndpfpaaDoor
open Go.RowKit

def two (a b : LmE) : Nat → LmE := fun i => if i = 0 then a else b
def four (a b c d : LmE) : Nat → LmE := fun i => if i = 0 then a else if i = 1 then b else if i = 2 then c else d
/-- What a fraction of limbs is worth. -/
noncomputable def rv (f : LmE) : Rat := Rat.divInt (sgnd f.1.1 (Lm.lv f.1.2.2.2.2)) (sgnd f.2.1 (Lm.lv f.2.2.2.2.2))
theorem ok_num {f : LmE} (h : okB f = true) : (rv f).num = sgnd f.1.1 (Lm.lv f.1.2.2.2.2) ∧ ((rv f).den : Int) = sgnd f.2.1 (Lm.lv f.2.2.2.2.2) := by
  have ho := (okB_iff f).1 h
  have h3 := ho.2.2.1
  have hg : (1 : Nat) = Nat.gcd (sgnd f.1.1 (Lm.lv f.1.2.2.2.2)).natAbs (sgnd f.2.1 (Lm.lv f.2.2.2.2.2)).natAbs := by rw [sgnd_abs, sgnd_abs]; exact ho.2.2.2.symm
  have e1 := low_num (p := sgnd f.1.1 (Lm.lv f.1.2.2.2.2)) (q := sgnd f.2.1 (Lm.lv f.2.2.2.2.2)) (by omega) hg
  have e2 := low_den (p := sgnd f.1.1 (Lm.lv f.1.2.2.2.2)) (q := sgnd f.2.1 (Lm.lv f.2.2.2.2.2)) (by omega) hg
  unfold tn at e1 e2
  rw [if_neg (by omega), Int.natCast_one, Int.tdiv_one] at e1 e2
  exact ⟨e1.symm, e2.symm⟩
end Go.Proofs.YtejlicacndpfpaaDoor

namespace Go.Proofs.YtejlicacndpfpaaDoor
open Go.RowKit

/-- A fraction that may be, in memory as limbs, and what it is worth. -/
def OkF (w : World) (f : LmE) (r : Rat) : Prop := LmE.at_ w f ∧ okB f = true ∧ rv f = r
theorem OkF.next {w w' : World} {f : LmE} {r : Rat} (h : OkF w f r) (hb : Below w.heap.size w w') : OkF w' f r := ⟨LmE.at_.below h.1 hb, h.2⟩
theorem okF_of {w : World} {neg neg' : Bool} {A A' : Option Addr} {n c n' c' : Nat} {r : Rat} (I : IsInt w neg A n c r.num) (J : IsInt w neg' A' n' c' (r.den : Int)) (hs : Sz r 2048) :
    ∃ l l', OkF w ((neg, A, n, c, l), (neg', A', n', c', l')) r := by
  have h1 := int_len I hs.1
  have h2 := int_len J hs.2
  obtain ⟨l, S1, c1, g1, z1⟩ := I
  obtain ⟨l', S2, c2, g2, z2⟩ := J
  have hd : 0 < sgnd neg' (Lm.lv l') := by rw [← z2]; have := r.den_nz; omega
  have hg : Nat.gcd (Lm.lv l) (Lm.lv l') = 1 := by
    have e1 : r.num.natAbs = Lm.lv l := by rw [z1, sgnd_abs]
    have e2 : r.den = Lm.lv l' := by
      have : ((r.den : Int)).natAbs = Lm.lv l' := by rw [z2, sgnd_abs]
      simpa using this
    rw [← e1, ← e2]
    exact r.reduced
  refine ⟨l, l', ⟨S1, S2, Nat.le_trans h1 (by decide), Nat.le_trans h2 (by decide)⟩, (okB_iff _).2 ⟨⟨by show l.length ≤ 2048; have := S1.len; omega, c1, g1⟩, ⟨by show l'.length ≤ 2048; have := S2.len; omega, c2, g2⟩, hd, hg⟩, ?_⟩
  show Rat.divInt (sgnd neg (Lm.lv l)) (sgnd neg' (Lm.lv l')) = r
  rw [← z1, ← z2]
  exact Rat.num_divInt_den r
set_option maxRecDepth 100000 in
set_option maxHeartbeats 800000 in
theorem frac_check_any (neg : Bool) (A : Option Addr) (n c : Nat) (l : List Nat) (neg' : Bool) (A' : Option Addr) (n' c' : Nat) (l' : List Nat) (w : World) (hx : LmE.at_ w ((neg, A, n, c, l), (neg', A', n', c', l'))) :
    Calls Tryd.prog 16 #[.agg #[.bool neg, .slice A n c, .bool neg', .slice A' n' c']] w (RetV w (.int .i64 (if okB ((neg, A, n, c, l), (neg', A', n', c', l')) then 0 else 1))) := by
  obtain ⟨ha, hb, hn, hn'⟩ := hx
  obtain ⟨v, hv⟩ : ∃ v : Int, (if okB ((neg, A, n, c, l), (neg', A', n', c', l')) then 0 else 1) = v := ⟨_, rfl⟩
  have HE : Hid (chkFr neg l neg' l' = v) := Lib.hid ((okB_chk ((neg, A, n, c, l), (neg', A', n', c', l'))).trans hv)
  rw [hv]
  clear hv
  go_enter Tryd.func16, Tryd.ntmps16
  go_wp2_with fail
  refine (ratio_check neg neg' A A' n c n' c' l l' _ (ha.alloc _) (hb.alloc _) hn hn').mono ?_
  rintro e1 w1 ⟨rfl, hb1⟩
  rw [HE.out]
  go_wp2_with fail
  go_ret
  exact ⟨rfl, below_box hb1⟩

end Go.Proofs.YtejlicacndpfpaaDoor
