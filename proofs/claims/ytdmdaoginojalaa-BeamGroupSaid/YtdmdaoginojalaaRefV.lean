/-
  The references whole numbers (polestarref01): limbs, sums, products, comparisons.
  The references whole numbers (polestarref01): shifts, bits, quotients.
-/
import Derived.Test.YtdmdaoginojalaaZero
import Derived.Deep.RegionHeld3
import Derived.StillTailTactics
/-! The references' whole numbers (polestarref01): limbs. -/
namespace Go.Proofs.Ytdmdaoginojalaa
open Go.RowKit

/-- What 'signed' makes of limbs. -/
theorem isInt_signed {w : World} {neg : Bool} {A : Option Addr} {n c : Nat} {l : List Nat} (h : Sl w A n c l) (hne : Lm.trim l ≠ []) :
    IsInt w neg A (Lm.trim l).length c (sgnd neg (Lm.lv l)) :=
  ⟨Lm.trim l, h.trim, Lm.trim_canon l, fun e => absurd e hne, by rw [Lm.trim_lv]⟩
theorem isInt_nought {w : World} : IsInt w false none 0 0 0 := ⟨[], Sl.nil, Lm.canon_nil, fun _ => rfl, rfl⟩

end Go.Proofs.Ytdmdaoginojalaa

/-! The references' whole numbers (polestarref01): limbs and limbs, limbs less limbs. -/
namespace Go.Proofs.Ytdmdaoginojalaa
open Go.RowKit

theorem info_u32 : (Try.prog.info? 116).map (fun i => (i.zero, i.size, i.bytes)) = some (some (.int .u32 0), 1, 4) := by kernel_rfl

end Go.Proofs.Ytdmdaoginojalaa




/-! The references' whole numbers (polestarref01): sums, differences, products. -/
namespace Go.Proofs.Ytdmdaoginojalaa
open Go.RowKit

theorem sgnd_mul (s t : Bool) (a b : Nat) : sgnd (s != t) (a * b) = sgnd s a * sgnd t b := by
  unfold sgnd; cases s <;> cases t <;> simp [Int.neg_mul, Int.mul_neg]
theorem IsInt.alloc {w : World} {neg : Bool} {A : Option Addr} {n c : Nat} {z : Int} (h : IsInt w neg A n c z) (o : Obj) : IsInt (w.alloc o) neg A n c z := h.below ((Below.refl _ _).alloc (Nat.le_refl _) _)

end Go.Proofs.Ytdmdaoginojalaa

/-! The references' whole numbers (polestarref01): signs, sizes, numbers of 64 bits. -/
namespace Go.Proofs.Ytdmdaoginojalaa
open Go.RowKit

def RetV (W : World) (v : Value) (e : Ending) (w' : World) : Prop := e = .returned v ∧ Below W.heap.size W w'

theorem isInt_zero {w : World} {neg : Bool} {A : Option Addr} {n c : Nat} {z : Int} (h : IsInt w neg A n c z) : n = 0 ↔ z = 0 := by
  obtain ⟨l, h1, h2, h3, rfl⟩ := h
  have := h1.len
  have hz := Lm.lv_zero h2
  unfold sgnd
  constructor
  · intro e
    have : l = [] := List.eq_nil_of_length_eq_zero (by omega)
    rw [hz.2 this]; split <;> rfl
  · intro e
    have : Lm.lv l = 0 := by split at e <;> omega
    rw [hz.1 this] at h1
    exact h1.len.symm
theorem isInt_neg {w : World} {neg : Bool} {A : Option Addr} {n c : Nat} {z : Int} (h : IsInt w neg A n c z) : neg = decide (z < 0) := by
  obtain ⟨l, h1, h2, h3, rfl⟩ := h
  have hz := Lm.lv_zero h2
  unfold sgnd
  cases neg
  · simp
  · have : l ≠ [] := fun e => by have := h3 e; cases this
    have : Lm.lv l ≠ 0 := fun e => this (hz.1 e)
    simp; omega

theorem sl_new2_box (w : World) (o : Obj) (t : TypeId) (d d' : Nat) (hd : d < 4294967296) (hd' : d' < 4294967296) :
    Sl ((w.alloc o).alloc (.cells #[.int .u32 (d : Int), .int .u32 (d' : Int)] t)) (some ⟨w.heap.size + 1, 0, none⟩) 2 2 [d, d'] := by
  have h := sl_new2 (w.alloc o) t d d' hd hd'
  have e : (w.alloc o).heap.size = w.heap.size + 1 := by simp
  rwa [e] at h
theorem of_limbs (m : Nat) : Lm.lv [m % 4294967296, m / 4294967296] = m := by
  have := Nat.div_add_mod m 4294967296
  show m % 4294967296 + Lm.B * (m / 4294967296 + Lm.B * 0) = m
  have : Lm.B = 4294967296 := rfl
  rw [this]; omega

end Go.Proofs.Ytdmdaoginojalaa

/-! The references' whole numbers (polestarref01): order. -/
namespace Go.Proofs.Ytdmdaoginojalaa
open Go.RowKit

/-- Two numbers held against one another. -/
def icmp (x y : Int) : Int := if x < y then -1 else if y < x then 1 else 0

end Go.Proofs.Ytdmdaoginojalaa

/-! The references' whole numbers (polestarref01): differences, products. -/
namespace Go.Proofs.Ytdmdaoginojalaa
open Go.RowKit

/-- Numbers of one size have one length. -/
theorem isInt_len {w w' : World} {neg neg' : Bool} {A A' : Option Addr} {n c n' c' : Nat} {x y : Int} (h : IsInt w neg A n c x) (k : IsInt w' neg' A' n' c' y) (e : x.natAbs = y.natAbs) : n = n' := by
  obtain ⟨a, ha, ca, _, rfl⟩ := h
  obtain ⟨b, hb, cb, _, rfl⟩ := k
  have : Lm.lv a = Lm.lv b := by
    have h1 : ∀ (s : Bool) (m : Nat), (sgnd s m).natAbs = m := by intro s m; unfold sgnd; split <;> omega
    rw [h1, h1] at e; exact e
  have := Lm.lv_inj ha.ok ca hb.ok cb this
  subst this
  rw [← ha.len, ← hb.len]
theorem IsInt.drewN {w : World} {neg : Bool} {A : Option Addr} {n c : Nat} {z : Int} (h : IsInt w neg A n c z) (k : Nat) : IsInt (w.drewN k) neg A n c z := h

end Go.Proofs.Ytdmdaoginojalaa

/-! The references' whole numbers (polestarref01): doubled so many times. -/
namespace Go.Proofs.Ytdmdaoginojalaa
open Go.RowKit

theorem two_pow_lt (k : Nat) (h : k < 32) : 2 ^ k < 4294967296 := Nat.lt_of_lt_of_le (Nat.pow_lt_pow_right (by decide) h) (by decide)
/-- 2^k, closed to the walk. -/
def pw (k : Nat) : Nat := 2 ^ k
theorem pw_lt (k : Nat) (h : k < 32) : pw k < 4294967296 := two_pow_lt k h

end Go.Proofs.Ytdmdaoginojalaa

/-! The references' whole numbers (polestarref01): may it be; as a number of 64 bits. -/
namespace Go.Proofs.Ytdmdaoginojalaa
open Go.RowKit

/-- May limbs and a sign be a number? -/
def okInt (neg : Bool) (l : List Nat) : Prop := l.length ≤ 2048 ∧ Lm.canon l ∧ (l = [] → neg = false)
open Classical in
noncomputable def chk (neg : Bool) (l : List Nat) : Int := if okInt neg l then 0 else 1
theorem chk_ok {neg : Bool} {l : List Nat} (h : okInt neg l) : chk neg l = 0 := by unfold chk; rw [if_pos h]
theorem chk_no {neg : Bool} {l : List Nat} (h : ¬ okInt neg l) : chk neg l = 1 := by unfold chk; rw [if_neg h]
theorem canon_last {l : List Nat} (h : 0 < l.length) : Lm.canon l ↔ l[l.length - 1] ≠ 0 := by
  have hne : l ≠ [] := by intro e; subst e; simp at h
  unfold Lm.canon
  constructor
  · intro hh; have := hh hne; rwa [List.getLast_eq_getElem] at this
  · intro hh hne'; rw [List.getLast_eq_getElem]; exact hh

end Go.Proofs.Ytdmdaoginojalaa

/-! The references' whole numbers (polestarref01): a number below 2^63 as one of 64 bits. -/
namespace Go.Proofs.Ytdmdaoginojalaa
open Go.RowKit

theorem isInt_len_le {w : World} {neg : Bool} {A : Option Addr} {n c : Nat} {z : Int} (h : IsInt w neg A n c z) {k : Nat} (hz : z.natAbs < Lm.B ^ k) : n ≤ k := by
  obtain ⟨l, hl, cl, _, rfl⟩ := h
  have h1 : (sgnd neg (Lm.lv l)).natAbs = Lm.lv l := by unfold sgnd; split <;> omega
  rw [h1] at hz
  rcases Nat.lt_or_ge k n with hk | hk
  · exfalso
    have hne : l ≠ [] := by intro e; subst e; have := hl.len; simp at this; omega
    have h2 := Lm.lv_pos cl hne
    have h3 : Lm.B ^ k ≤ Lm.B ^ (l.length - 1) := Nat.pow_le_pow_right (by decide) (by have := hl.len; omega)
    omega
  · exact hk
end Go.Proofs.Ytdmdaoginojalaa

/-! The references' whole numbers (polestarref01): bits; halved so many times. -/
namespace Go.Proofs.Ytdmdaoginojalaa
open Go.RowKit

theorem Sl.cut {w : World} {n c : Nat} {A : Option Addr} {l : List Nat} (h : Sl w A n c l) {k : Nat} (hk : k ≤ n) : Sl w (if c = k then A else A.map (·.add k)) (n - k) (c - k) (l.drop k) :=
  ⟨by have := h.1.cut (cap := c) hk h.cap; unfold u32s at this ⊢; rwa [List.map_drop], by have := h.cap; omega, Lm.ok_drop h.ok k⟩

end Go.Proofs.Ytdmdaoginojalaa

/-! The references' whole numbers (polestarref01): quotients: by one limb; what the call answers. -/
namespace Go.Proofs.Ytdmdaoginojalaa
open Go.RowKit

theorem cell_far (w : World) (g : Nat) (u v : Value) (p : Addr) (h : ¬ p.block = g) : ((w.setCell ⟨g, 0, none⟩ u).setCell ⟨g, 1, none⟩ v).cell? p = w.cell? p := by
  rw [World.cell?_setCell_other _ ⟨g, 1, none⟩ p v (by rintro rfl; exact h rfl), World.cell?_setCell_other _ ⟨g, 0, none⟩ p u (by rintro rfl; exact h rfl)]
theorem sgnd_tdiv (s t : Bool) (a b : Nat) : (sgnd s a).tdiv (sgnd t b) = sgnd (s != t) (a / b) := by
  unfold sgnd
  cases s <;> cases t <;> simp [Int.neg_tdiv, Int.tdiv_neg]
theorem sgnd_tmod (s t : Bool) (a b : Nat) : (sgnd s a).tmod (sgnd t b) = sgnd s (a % b) := by
  unfold sgnd
  cases s <;> cases t <;> simp [Int.neg_tmod, Int.tmod_neg] <;> exact (Int.ofNat_tmod a b).symm
def RetTwoInts (W : World) (x y : Int) (e : Ending) (w' : World) : Prop :=
  ∃ neg A n c neg' A' n' c', e = .returned (.tuple #[.agg #[.bool neg, .slice A n c], .agg #[.bool neg', .slice A' n' c']]) ∧ IsInt w' neg A n c x ∧ IsInt w' neg' A' n' c' y ∧ Below W.heap.size W w'

end Go.Proofs.Ytdmdaoginojalaa


/-! The references' whole numbers (polestarref01): limbs by limbs. -/
namespace Go.Proofs.Ytdmdaoginojalaa
open Go.RowKit

/-- One limb more of a quotient. -/
theorem divide_step {a out : List Nat} {k D R q R' : Nat} (ha : k < a.length) (ho : k < out.length) (hE : Lm.lv (a.drop (k + 1)) = D * Lm.lv (out.drop (k + 1)) + R) (hR : a[k] + Lm.B * R = D * q + R') :
    Lm.lv (a.drop k) = D * Lm.lv ((out.set k q).drop k) + R' := by
  have e1 := Lm.lv_drop a ha
  have hl : k < (out.set k q).length := by rw [List.length_set]; exact ho
  have e2 := Lm.lv_drop (out.set k q) hl
  rw [List.getElem_set_self] at e2
  have e3 : (out.set k q).drop (k + 1) = out.drop (k + 1) := List.drop_set_of_lt (by omega)
  rw [e1, e2, e3, hE, Nat.mul_add, Nat.mul_add, Nat.mul_left_comm]
  generalize D * (Lm.B * Lm.lv (out.drop (k + 1))) = X
  omega
theorem only_of_below {a w : World} (h : Below a.heap.size a w) : a.grownBy w none := ⟨h.os, h.tape, h.output, h.size, fun i hi _ => h.block i hi⟩
theorem own_kept {w w' : World} {base : Nat} {e : TypeId} {g n c : Nat} {xs : List Value} (h : w.ownsRow base e 1 (.slice (some ⟨g, 0, none⟩) n c) n xs) (hb : Below w.heap.size w w') : w'.ownsRow base e 1 (.slice (some ⟨g, 0, none⟩) n c) n xs :=
  h.kept (only_of_below hb) (.inr (by simp [Value.ownBlock]))
end Go.Proofs.Ytdmdaoginojalaa
