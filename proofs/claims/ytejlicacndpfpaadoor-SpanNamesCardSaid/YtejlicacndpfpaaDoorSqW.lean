/-
  What becomes of pairs of floats beside when signs are turned.
  Fractions between floats, plainly; what is beside what is beside.
  Spans: roots (span.Sqrt) of spans that may be and do not lie below nought.
  Spans: the reference's In, plain, lesser, greater, Meet, Join.
  The references' spans (polestarref05): Square.
-/
import Derived.Test.YtejlicacndpfpaaDoorRoot
import Derived.Test.YtejlicacndpfpaaDoorTzG
import Derived.Test.YtejlicacndpfpaaDoorSpnR
import Derived.Test.YtejlicacndpfpaaDoorSto
import Derived.Test.YtejlicacndpfpaaDoorSpnV
import Derived.Test.YtejlicacndpfpaaDoorRootW
import Derived.Test.YtejlicacndpfpaaDoorSpnX
import Derived.Test.YtejlicacndpfpaaDoorFrame2
import Derived.Test.YtejlicacndpfpaaDoorCom
namespace Go.Proofs.YtejlicacndpfpaaDoor
open Go.RowKit

namespace Flt
open Ieee

/-! ### operations and signs -/
theorem not_nan_word {s : Bool} {r : Nat} (h : r ≤ inf) : ¬ Nan (word s r) := by
  have := inf_lt
  unfold Nan
  rw [rg_word _ _ (by omega)]; omega
theorem product_comm (d e : Datum) : d.product e = e.product d := by
  cases d <;> cases e <;> simp [Datum.product, Bool.xor_comm, Nat.mul_comm, Int.add_comm]
theorem sum_comm (d e : Datum) : d.sum e = e.sum d := by
  cases d with
  | nan => cases e <;> rfl
  | infinity s =>
    cases e with
    | nan => rfl
    | infinity t =>
      simp only [Datum.sum]
      by_cases h : s = t
      · subst h; rfl
      · rw [if_neg h, if_neg (fun h' => h h'.symm)]
    | number => rfl
  | number s m i =>
    cases e with
    | nan => rfl
    | infinity t => rfl
    | number t n j =>
      simp only [Datum.sum]
      rw [Int.min_comm j i, Int.add_comm (signed t n _), Bool.and_comm t s]

theorem mul_comm (x y : Nat) : double.mul x y = double.mul y x := by unfold Format.mul; rw [product_comm]
theorem add_comm (x y : Nat) : double.add x y = double.add y x := by unfold Format.add; rw [sum_comm]
end Flt

/-- The one pair is the other one with the other sign; or none of the four is a number. -/
def Turned (d u e v : Nat) : Prop :=
  (Flt.Nan d ∧ Flt.Nan u ∧ Flt.Nan e ∧ Flt.Nan v) ∨ (¬ Flt.Nan d ∧ ¬ Flt.Nan u ∧ ¬ Flt.Nan e ∧ ¬ Flt.Nan v ∧ Flt.sv d = - Flt.sv v ∧ Flt.sv u = - Flt.sv e)

theorem hiR_le' {num den r : Nat} (h : Flt.Dn num den r) : hiR num den r ≤ Flt.inf := by have := h.1; unfold hiR; split <;> omega
theorem Brk.turned {s : Bool} {num den d u e v : Nat} (h : Brk s num den d u) (k : Brk (!s) num den e v) : Turned d u e v := by
  obtain ⟨r, h1, rfl, rfl⟩ := h
  obtain ⟨r', k1, rfl, rfl⟩ := k
  have := h1.unique k1
  subst this
  have hr : r ≤ Flt.inf := by have := h1.1; omega
  have hh := hiR_le' h1
  have hi := Flt.inf_lt
  have w : ∀ (t : Bool) (a b : Nat), (if t then 2 ^ 63 + a else b) = if t then Flt.word true a else Flt.word false b := fun t a b => by cases t <;> rfl
  simp only [w]
  right
  cases s <;> simp only [Bool.not_false, Bool.not_true, Bool.false_eq_true, ↓reduceIte]
  · exact ⟨Flt.not_nan_word hr, Flt.not_nan_word hh, Flt.not_nan_word hh, Flt.not_nan_word hr, by simp [Flt.sv_word (show r < 2 ^ 63 by omega)], by simp [Flt.sv_word (show hiR num den r < 2 ^ 63 by omega)]⟩
  · exact ⟨Flt.not_nan_word hh, Flt.not_nan_word hr, Flt.not_nan_word hr, Flt.not_nan_word hh, by simp [Flt.sv_word (show hiR num den r < 2 ^ 63 by omega)], by simp [Flt.sv_word (show r < 2 ^ 63 by omega)]⟩

theorem sum_comm {x y d u : Nat} (h : IsSum x y d u) : IsSum y x d u := by
  obtain ⟨s, h1, h2, h3⟩ := h
  refine ⟨s, ⟨h1.1, by rw [Flt.add_comm]; exact h1.2⟩, fun k => h2 ?_, fun a b k => ?_⟩
  · rcases k with k | k
    · exact .inl (fun h => k ⟨h.2, h.1⟩)
    · exact .inr (by omega)
  · rw [Int.add_comm] at k ⊢
    exact h3 b a k

end Go.Proofs.YtejlicacndpfpaaDoor

namespace Go.Proofs.YtejlicacndpfpaaDoor
open Go.RowKit

/-- Of a fraction that may be: what is told of it. -/
theorem okF_brk {w : World} {neg : Bool} {A : Option Addr} {n c : Nat} {l : List Nat} {neg' : Bool} {A' : Option Addr} {n' c' : Nat} {l' : List Nat} {r : Rat} {d u : Nat} (h : OkF w ((neg, A, n, c, l), (neg', A', n', c', l')) r)
    (k : okFr neg l neg' l' → Brk (decide (sgnd neg (Lm.lv l) < 0)) (Lm.lv l * 2 ^ Flt.K74) (Lm.lv l') d u) :
    ∃ s num den, Brk s num den d u ∧ (r.num = 0 → s = false ∧ num = 0) ∧ Down (r.num * ((2 ^ Flt.K74 : Nat) : Int)) r.den d ∧ Up (r.num * ((2 ^ Flt.K74 : Nat) : Int)) r.den u := by
  have ho := (okB_iff _).1 h.2.1
  obtain ⟨e1, e2⟩ := ok_num h.2.1
  rw [h.2.2] at e1 e2
  have hB := k ho
  have hp : 0 < Lm.lv l' := (okFr_den ho).2
  have ed : r.den = Lm.lv l' := by
    have h2 : (r.den : Int) = sgnd neg' (Lm.lv l') := e2
    have h3 : sgnd neg' (Lm.lv l') = (Lm.lv l' : Int) := (okFr_den ho).1
    rw [h3] at h2
    omega
  have e1' : r.num = sgnd neg (Lm.lv l) := e1
  have hz : r.num * ((2 ^ Flt.K74 : Nat) : Int) = if decide (sgnd neg (Lm.lv l) < 0) then -((Lm.lv l * 2 ^ Flt.K74 : Nat) : Int) else ((Lm.lv l * 2 ^ Flt.K74 : Nat) : Int) := by
    rw [e1', Int.natCast_mul]
    generalize ((2 ^ Flt.K74 : Nat) : Int) = K
    unfold sgnd
    cases neg with
    | false => simp; intro hc; omega
    | true =>
      simp
      by_cases h0 : Lm.lv l = 0
      · rw [h0]; simp
      · rw [if_pos (by omega), Int.neg_mul]
  obtain ⟨a, b⟩ := brk_down (z := r.num * ((2 ^ Flt.K74 : Nat) : Int)) hp hz hB
  refine ⟨_, _, _, hB, fun h0 => ?_, by rw [ed]; exact a, by rw [ed]; exact b⟩
  rw [e1'] at h0
  have hl : Lm.lv l = 0 := by
    have := sgnd_abs neg (Lm.lv l)
    rw [h0] at this
    exact this.symm
  rw [h0, hl]
  exact ⟨rfl, Nat.zero_mul _⟩
end Go.Proofs.YtejlicacndpfpaaDoor

namespace Go.Proofs.YtejlicacndpfpaaDoor
open Go.RowKit

theorem pz_lt6 {v : Nat} (h : v < 2 ^ 64) : pz v < 2 ^ 64 := by unfold pz; split <;> omega
theorem IsRoot.lt5 {x d u : Nat} (h : IsRoot x d u) : d < 2 ^ 64 ∧ u < 2 ^ 64 := by
  have hil := Flt.inf_lt
  by_cases hw : Pos x
  · obtain ⟨r, h1, rfl, rfl⟩ := h.2 hw
    have := h1.1
    refine ⟨by omega, ?_⟩
    split <;> omega
  · obtain ⟨z, h1, rfl, rfl⟩ := h.1 hw
    exact ⟨h1.1, h1.1⟩
set_option maxRecDepth 100000 in
set_option maxHeartbeats 1600000 in
theorem span_sqrt_ok (la ha : Nat) (b1 : la < 2 ^ 64) (b2 : ha < 2 ^ 64) (ok : okS la ha = true) (h0 : 0 ≤ Flt.sv ha) (w : World) :
    Calls Tryd.prog 7 #[.agg #[.float .f64 la, .float .f64 ha]] w (RetSp w fun p => ∃ lo lu hd hi, IsRoot (pz (mx la 0)) lo lu ∧ IsRoot (pz ha) hd hi ∧ p = endsF lo hi) := by
  obtain ⟨f1, f2, _⟩ := okS_iff.1 ok
  have HOK := Lib.hid ok
  have o1 : (Ieee.double.order ha 0 == some .lt) = false := by
    rw [Flt.lt_spec (fun k => Flt.not_fin_nan k f2) nan_zero, sv_zero]
    exact decide_eq_false (by omega)
  have HMX : Hid (∀ z, IsSel mx la 0 z → z < 2 ^ 64 ∧ z = mx la 0 ∧ ∀ t, IsOp Ieee.double.add z 0 t → t = pz z) := Lib.hid (fun z hz => by
    have e := hz.2 (fun h => Flt.not_fin_nan h f1) nan_zero
    have fz : Flt.Fin z := by rw [e]; unfold mx; split <;> (try split) <;> (try split) <;> first | exact f1 | exact fin_zero
    exact ⟨hz.1, e, fun t => isOp_nought hz.1 fz⟩)
  have KH : Hid (∀ t, IsOp Ieee.double.add ha 0 t → t = pz ha) := Lib.hid (fun t => isOp_nought b2 f2)
  clear f1 f2 ok h0
  go_enter Tryd.func7, Tryd.ntmps7
  go_wp2_with fail
  refine (span_may_one5 (w.heap.size + 1 + 1) la ha _ b1 b2 (by simp) (by simp [go_sem]) (by simp [go_sem])).mono ?_
  rintro e1 w1 ⟨rfl, hb1⟩
  rw [HOK.out]
  have K1 := ((((Kept.nil w).two rfl _ _ _).two (g := w.heap.size + 1) (by simp) _ _ _).box _).next hb1
  have R1 := ((Free.new (w.alloc (.cells #[.float .f64 la, .float .f64 ha] 32)) (g := w.heap.size + 1) (by simp) (.float .f64 0) (.float .f64 0) 32).next ((Below.refl _ _).alloc (Nat.le_refl _) _)).next hb1
  clear hb1
  have a1 := (K1).2.1
  have c1 := (K1).2.2
  simp only [List.mem_cons, List.not_mem_nil, or_false, forall_eq_or_imp, forall_eq] at a1 c1
  go_wp2_with (first
    | (obtain ⟨z, n1, hrz, hz⟩ := run_fmax (P := Tryd.prog) w1 #[30, 30] 30 la 0 b1 (by decide); rw [hrz]; obtain ⟨z64, ez, K3⟩ := HMX.out z hz; have HK3 := Lib.hid K3; have HEZ := Lib.hid ez; clear hz hrz K3 ez)
    | (refine wpList_fadd _ rfl rfl ?_; intro t1 d1 hs1; have e3 := HK3.out _ hs1; subst e3; clear hs1 HK3))
  refine (rnd_sqrt_any (pz z) (pz_lt6 z64) _).mono ?_
  rintro e2 w2 ⟨lo, lu, rfl, hr2, hb2⟩
  have l64 := (IsRoot.lt5 hr2).1
  have K2 := K1.next (below_of_drewN hb2)
  have R2 := R1.next (below_of_drewN hb2)
  have HR2 := Lib.hid hr2
  clear a1 c1 hb2 hr2
  have a2 := (K2).2.1
  have c2 := (K2).2.2
  simp only [List.mem_cons, List.not_mem_nil, or_false, forall_eq_or_imp, forall_eq] at a2 c2
  go_wp2_with (refine wpList_fadd _ rfl rfl ?_; intro t2 d2 hs2; have e4 := KH.out _ hs2; subst e4; clear hs2 KH)
  refine (rnd_sqrt_any (pz ha) (pz_lt6 b2) _).mono ?_
  rintro e3 w3 ⟨hd, hi, rfl, hr3, hb3⟩
  have h64 := (IsRoot.lt5 hr3).2
  have K3 := K2.next (below_of_drewN hb3)
  have R3 := R2.next (below_of_drewN hb3)
  have HR3 := Lib.hid hr3
  clear a2 c2 hb3 hr3
  have a3 := (K3).2.1
  have c3 := (K3).2.2
  simp only [List.mem_cons, List.not_mem_nil, or_false, forall_eq_or_imp, forall_eq] at a3 c3
  go_wp2_with fail
  refine (span_ends_any lo hi l64 h64 _).mono ?_
  rintro e4 w4 ⟨rfl, hb4⟩
  have K4 := K3.next hb4
  have R4 := R3.next hb4
  clear a3 c3 hb4
  have a4 := (K4).2.1
  have c4 := (K4).2.2
  simp only [List.mem_cons, List.not_mem_nil, or_false, forall_eq_or_imp, forall_eq] at a4 c4
  obtain ⟨_, r0, r1⟩ := R4
  have i0 := c4.1
  have i1 := c4.2.1
  go_wp2_with fail
  exact bodyPost_ret (v := .tuple #[.agg #[.float .f64 (endsF lo hi).1, .float .f64 (endsF lo hi).2.1], .int .i64 (endsF lo hi).2.2]) (by simp [results, Tryd.results7, go_sem, i0, i1]) rfl
    ⟨endsF lo hi, ⟨lo, lu, hd, hi, by rw [← HEZ.out]; exact HR2.out, HR3.out, rfl⟩, rfl, below_result K4.1 (Nat.le_succ _) _ _⟩
end Go.Proofs.YtejlicacndpfpaaDoor

namespace Go.Proofs.YtejlicacndpfpaaDoor
open Go.RowKit

theorem pz_same {x y : Nat} (hx : x < 2 ^ 64) (hy : y < 2 ^ 64) (h : Flt.sv x = Flt.sv y) : pz x = pz y := by
  by_cases h0 : Flt.sv x = 0
  · unfold pz
    rw [if_pos (Flt.sv_zero_iff.1 h0), if_pos (Flt.sv_zero_iff.1 (by omega))]
  · rw [Flt.fin_eq hx hy h h0]
end Go.Proofs.YtejlicacndpfpaaDoor

namespace Go.Proofs.YtejlicacndpfpaaDoor
open Go.RowKit

theorem Frs.box {wr : World} {g N : Nat} {F : Nat → FrE} (h : Frs wr g N F) (x : Obj) : Frs (wr.alloc x) g N F := h.next ((Below.refl _ _).alloc (Nat.le_refl _) _)
theorem Frs.drew {wr : World} {g N : Nat} {F : Nat → FrE} (h : Frs wr g N F) : Frs wr.drew g N F := h.next ⟨rfl, rfl, rfl, Nat.le_refl _, fun _ _ => rfl⟩
end Go.Proofs.YtejlicacndpfpaaDoor
