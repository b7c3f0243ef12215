/-
  Roots, rounded down and up (round.Sqrt).
  What becomes of pairs of floats beside when signs are turned.
  Pairs of floats beside and the own answers.
  Whether sizes, taken together, are too many to be copied (polestarlaw01.Beyond).
-/
import Derived.Test.YtjcjphgpmpjmbaaGreatDoorPrdU
import Derived.Test.YtjcjphgpmpjmbaaGreatDoorZero
namespace Go.Proofs.YtjcjphgpmpjmbaaGreatDoor
open Go.RowKit

/-! ### plain -/
/-- The greatest float whose square is not above V. -/
def DnSq (V r : Nat) : Prop := r < Flt.inf ∧ Flt.val r * Flt.val r ≤ V ∧ V < Flt.val (r + 1) * Flt.val (r + 1)
theorem DnSq.unique {V r s : Nat} (h : DnSq V r) (k : DnSq V s) : r = s := by
  have key : ∀ {r s : Nat}, DnSq V r → DnSq V s → ¬ r < s := by
    intro r s h k hlt
    have h1 : Flt.val (r + 1) * Flt.val (r + 1) ≤ Flt.val s * Flt.val s := Nat.mul_le_mul (Flt.val_le hlt) (Flt.val_le hlt)
    have := h.2.2
    have := k.2.1
    omega
  have := key h k
  have := key k h
  omega
/-- What the machine's root may give. -/
def IsSq (x z : Nat) : Prop := z < 2 ^ 64 ∧ (match Ieee.double.sqrt x with | some r => z = r | none => Flt.Nan z)
theorem IsSq.same {x s t : Nat} (h : IsSq x s) (k : IsSq x t) : Flt.Same s t := by
  have a := h.2
  have b := k.2
  cases hf : Ieee.double.sqrt x with
  | some z => rw [hf] at a b; exact .inl (a.trans b.symm)
  | none => rw [hf] at a b; exact .inr ⟨a, b⟩
def Pos (x : Nat) : Prop := Flt.Fin x ∧ Flt.sgn x = false ∧ Flt.rg x ≠ 0
/-- The pair that is told of a root. -/
def IsRoot (x d u : Nat) : Prop :=
  (¬ Pos x → ∃ z, IsSq x z ∧ d = z ∧ u = z) ∧
  (Pos x → ∃ r, DnSq (Flt.val (Flt.rg x) * 2 ^ Flt.K74) r ∧ d = r ∧ u = if Flt.val r * Flt.val r = Flt.val (Flt.rg x) * 2 ^ Flt.K74 then r else r + 1)
theorem IsRoot.same {x d u d' u' : Nat} (h : IsRoot x d u) (k : IsRoot x d' u') : Flt.Same d d' ∧ Flt.Same u u' := by
  by_cases hw : Pos x
  · obtain ⟨r, h1, rfl, rfl⟩ := h.2 hw
    obtain ⟨s, k1, rfl, rfl⟩ := k.2 hw
    have := h1.unique k1
    subst this
    exact ⟨.inl rfl, .inl rfl⟩
  · obtain ⟨z, h1, rfl, rfl⟩ := h.1 hw
    obtain ⟨t, k1, rfl, rfl⟩ := k.1 hw
    exact ⟨h1.same k1, h1.same k1⟩

end Go.Proofs.YtjcjphgpmpjmbaaGreatDoor

namespace Go.Proofs.YtjcjphgpmpjmbaaGreatDoor
open Go.RowKit

namespace Flt
open Ieee

/-! ### operations and signs -/
theorem not_nan_word {s : Bool} {r : Nat} (h : r ≤ inf) : ¬ Nan (word s r) := by
  have := inf_lt
  unfold Nan
  rw [rg_word _ _ (by omega)]; omega
theorem product_comm (d e : Datum) : d.product e = e.product d := by
  cases d <;> cases e <;> simp [Datum.product, Bool.xor_comm, Nat.mul_comm, Int.add_comm]
theorem sum_comm (d e : Datum) : d.sum e = e.sum d := by
  cases d with
  | nan => cases e <;> rfl
  | infinity s =>
    cases e with
    | nan => rfl
    | infinity t =>
      simp only [Datum.sum]
      by_cases h : s = t
      · subst h; rfl
      · rw [if_neg h, if_neg (fun h' => h h'.symm)]
    | number => rfl
  | number s m i =>
    cases e with
    | nan => rfl
    | infinity t => rfl
    | number t n j =>
      simp only [Datum.sum]
      rw [Int.min_comm j i, Int.add_comm (signed t n _), Bool.and_comm t s]

theorem mul_comm (x y : Nat) : double.mul x y = double.mul y x := by unfold Format.mul; rw [product_comm]
theorem add_comm (x y : Nat) : double.add x y = double.add y x := by unfold Format.add; rw [sum_comm]
end Flt

/-- The one pair is the other one with the other sign; or none of the four is a number. -/
def Turned (d u e v : Nat) : Prop :=
  (Flt.Nan d ∧ Flt.Nan u ∧ Flt.Nan e ∧ Flt.Nan v) ∨ (¬ Flt.Nan d ∧ ¬ Flt.Nan u ∧ ¬ Flt.Nan e ∧ ¬ Flt.Nan v ∧ Flt.sv d = - Flt.sv v ∧ Flt.sv u = - Flt.sv e)

theorem hiR_le' {num den r : Nat} (h : Flt.Dn num den r) : hiR num den r ≤ Flt.inf := by have := h.1; unfold hiR; split <;> omega
theorem Brk.turned {s : Bool} {num den d u e v : Nat} (h : Brk s num den d u) (k : Brk (!s) num den e v) : Turned d u e v := by
  obtain ⟨r, h1, rfl, rfl⟩ := h
  obtain ⟨r', k1, rfl, rfl⟩ := k
  have := h1.unique k1
  subst this
  have hr : r ≤ Flt.inf := by have := h1.1; omega
  have hh := hiR_le' h1
  have hi := Flt.inf_lt
  have w : ∀ (t : Bool) (a b : Nat), (if t then 2 ^ 63 + a else b) = if t then Flt.word true a else Flt.word false b := fun t a b => by cases t <;> rfl
  simp only [w]
  right
  cases s <;> simp only [Bool.not_false, Bool.not_true, Bool.false_eq_true, ↓reduceIte]
  · exact ⟨Flt.not_nan_word hr, Flt.not_nan_word hh, Flt.not_nan_word hh, Flt.not_nan_word hr, by simp [Flt.sv_word (show r < 2 ^ 63 by omega)], by simp [Flt.sv_word (show hiR num den r < 2 ^ 63 by omega)]⟩
  · exact ⟨Flt.not_nan_word hh, Flt.not_nan_word hr, Flt.not_nan_word hr, Flt.not_nan_word hh, by simp [Flt.sv_word (show hiR num den r < 2 ^ 63 by omega)], by simp [Flt.sv_word (show r < 2 ^ 63 by omega)]⟩

theorem sum_comm {x y d u : Nat} (h : IsSum x y d u) : IsSum y x d u := by
  obtain ⟨s, h1, h2, h3⟩ := h
  refine ⟨s, ⟨h1.1, by rw [Flt.add_comm]; exact h1.2⟩, fun k => h2 ?_, fun a b k => ?_⟩
  · rcases k with k | k
    · exact .inl (fun h => k ⟨h.2, h.1⟩)
    · exact .inr (by omega)
  · rw [Int.add_comm] at k ⊢
    exact h3 b a k

end Go.Proofs.YtjcjphgpmpjmbaaGreatDoor

namespace Go.Proofs.YtjcjphgpmpjmbaaGreatDoor
open Go.RowKit

/-- The pair is one float, or two that follow one another, and the own answer is one of them; or none is a number. -/
def Beside (d u o : Nat) : Prop :=
  (Flt.Nan d ∧ Flt.Nan u ∧ Flt.Nan o) ∨ (¬ Flt.Nan d ∧ ¬ Flt.Nan u ∧ ¬ Flt.Nan o ∧ (Flt.sv o = Flt.sv d ∨ Flt.sv o = Flt.sv u) ∧
    (Flt.sv d = Flt.sv u ∨ (Flt.sv d < Flt.sv u ∧ ¬ Flt.Nan (nxt d true) ∧ Flt.sv (nxt d true) = Flt.sv u ∧ ¬ Flt.Nan (nxt u false) ∧ Flt.sv (nxt u false) = Flt.sv d)))

end Go.Proofs.YtjcjphgpmpjmbaaGreatDoor

namespace Go.Proofs.YtjcjphgpmpjmbaaGreatDoor
open Go.RowKit

def nats (l : List Nat) : List Value := l.map fun (x : Nat) => Value.int .i64 (x : Int)
theorem nats_get {l : List Nat} {k : Nat} {u : Value} (h : (nats l)[k]? = some u) : ∃ hk : k < l.length, u = .int .i64 (l[k] : Nat) := by
  unfold nats at h
  rw [List.getElem?_map] at h
  rcases Nat.lt_or_ge k l.length with hk | hk
  · rw [List.getElem?_eq_getElem hk] at h
    exact ⟨hk, by simpa using h.symm⟩
  · rw [List.getElem?_eq_none hk] at h; cases h
theorem sum_take_succ (l : List Nat) (k : Nat) (h : k < l.length) : (l.take (k + 1)).sum = (l.take k).sum + l[k] := by
  rw [List.take_succ_eq_append_getElem h, List.sum_append]
  simp
theorem sum_take_le (l : List Nat) (k : Nat) : (l.take k).sum ≤ l.sum := by
  have h : l.sum = (l.take k).sum + (l.drop k).sum := by rw [← List.sum_append, List.take_append_drop]
  omega
set_option maxRecDepth 100000 in
set_option maxHeartbeats 1600000 in
theorem beyond_any (A : Option Addr) (n c : Nat) (l : List Nat) (w : World) (h : Reads w w.heap.size A n (nats l)) (hn : n ≤ 1000000) (hl : l.sum ≤ 9223372036854775807) :
    Calls Tryz.prog 5 #[.slice A n c] w fun e w' => e = .returned (.bool (decide (1048576 < l.sum))) ∧ w = w' := by
  have hlen : l.length = n := by have := h.1; unfold nats at this; simpa using this
  have HS := Lib.hid (sum_take_le l)
  have HL := Lib.hid hl
  have HLEN := Lib.hid hlen
  clear hl hlen
  go_enter Tryz.func5, Tryz.ntmps5
  go_wp2_with fail
  go_loopw [3, 4] (fun s i wr => ∃ k : Nat, k ≤ n ∧ s = .int .i64 (((l.take k).sum : Nat) : Int) ∧ (l.take k).sum ≤ 1048576 ∧ i = .int .i64 (k : Int) ∧ wr = w) (fun _ i _ => n - (intOf i).toNat)
  case atStart => exact ⟨0, Nat.zero_le _, rfl, by simp, rfl, rfl⟩
  case round =>
    obtain ⟨k, hk, rfl, hs, rfl, rfl⟩ := hrel
    by_cases hlt : k < n
    · obtain ⟨ad, v, rfl, hb, hv, hc⟩ := h.at_ hlt
      obtain ⟨hkl, rfl⟩ := nats_get hv
      have hx : (l.take (k + 1)).sum ≤ 9223372036854775807 := Nat.le_trans (sum_take_le l _) HL.out
      have hsum := sum_take_succ l k hkl
      have hle := HS.out (k + 1)
      obtain ⟨x, hxx⟩ : ∃ x, l[k] = x := ⟨_, rfl⟩
      obtain ⟨s, hss⟩ : ∃ s, (l.take k).sum = s := ⟨_, rfl⟩
      rw [hsum, hxx, hss] at hx
      rw [hxx] at hc hsum
      rw [hss] at hs hsum
      rw [hss]
      have HSUM := Lib.hid hsum
      have hlt' : (k : Int) < (n : Int) := by omega
      have hk0 : (0 : Int) ≤ (k : Int) := Int.natCast_nonneg _
      have HLE := Lib.hid hle
      clear hv hsum hss hxx hle
      by_cases hbig : 1048576 < s + x
      · have hbig' : (1048576 : Int) < (s : Int) + (x : Int) := by omega
        have E : Hid (decide (1048576 < l.sum) = true) := Lib.hid (decide_eq_true (by have := HLE.out; have := HSUM.out; omega))
        go_wp2_with fail
        go_ret
        exact ⟨by rw [E.out]; rfl, rfl⟩
      · have hbig' : ¬ (1048576 : Int) < (s : Int) + (x : Int) := by omega
        go_wp2_with fail
        go_roundw
        case rel => exact ⟨k + 1, hlt, by rw [HSUM.out]; go_num, by rw [HSUM.out]; omega, by go_num, trivial⟩
        case measure => simp [intOf]; omega
    · obtain rfl : k = n := by omega
      have E : Hid (decide (1048576 < l.sum) = false) := Lib.hid (decide_eq_false (by rw [List.take_of_length_le (by rw [HLEN.out]; exact Nat.le_refl _)] at hs; omega))
      go_wp2_with fail
      go_ret
      exact ⟨by rw [E.out]; rfl, rfl⟩
theorem nats_new (w : World) (t : TypeId) (l : List Nat) : Reads (w.alloc (.cells (nats l).toArray t)) (w.alloc (.cells (nats l).toArray t)).heap.size (some ⟨w.heap.size, 0, none⟩) l.length (nats l) := by
  have h := reads_new w t (nats l)
  have e : (nats l).length = l.length := by unfold nats; simp
  rw [e] at h
  exact h
end Go.Proofs.YtjcjphgpmpjmbaaGreatDoor
