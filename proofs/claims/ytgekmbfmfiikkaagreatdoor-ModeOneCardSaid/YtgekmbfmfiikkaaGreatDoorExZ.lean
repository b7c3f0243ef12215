/-
  A whole number is what another one is (SameInt).
  Are fractions, complex numbers the same (SameFrac, SameGauss)? Sizes (MatrixSize, GaussSize).
  Floats stored into memory: the laws that the kit has for integers, Booleans, slices.
  Spans, plainly: the least and the greatest of two floats, noughts without a sign.
  Spans: the walks of package span and of its reference (floats alone).
  Spans: the least and the greatest of several pairs (span.outer, span.both).
  Spans: sums, differences (span.Add, span.Sub).
  Spans: whether two are the same; the chapter's examples (polestarlaw05.lives).
  Cells that a walk keeps: a list of them, carried from call to call.
  Spans: squares (span.Square).
  Spans: roots (span.Sqrt) of spans that may be and do not lie below nought.
  Discs of turns, plainly: the steps' spans stay within bounds.
  The floats beside a fraction, plainly: it does not hang on how the fraction is written; a quotient of 64 or 65 bits.
-/
import Derived.Test.YtgekmbfmfiikkaaGreatDoorRefW
import Derived.Test.YtgekmbfmfiikkaaGreatDoorBmG
import Derived.Test.YtgekmbfmfiikkaaGreatDoorExFb
import Derived.Test.YtgekmbfmfiikkaaGreatDoorZero
import Derived.Test.YtgekmbfmfiikkaaGreatDoorRootW
import Derived.Test.YtgekmbfmfiikkaaGreatDoorRndU
import Derived.Test.YtgekmbfmfiikkaaGreatDoorEyB
import Derived.Test.YtgekmbfmfiikkaaGreatDoorTzF
import Derived.Test.YtgekmbfmfiikkaaGreatDoorOwn
import Derived.Test.YtgekmbfmfiikkaaGreatDoorEdgU
set_option maxHeartbeats 1600000
set_option maxRecDepth 100000
namespace Go.Proofs.YtgekmbfmfiikkaaGreatDoor
open Go.RowKit
theorem same_int_any (neg : Bool) (A A' : Option Addr) (n c c' : Nat) (l : List Nat) (w : World) (ha : Sl w A n c l) (hb : Sl w A' n c' l) (hn : n ≤ 1000000000) :
  Calls Tryz.prog 123 #[.agg #[.bool neg, .slice A n c], .agg #[.bool neg, .slice A' n c']] w (RetV w (.bool true)) := by
 have K0 := ((Mm.nil w).var (g := w.heap.size) rfl [.bool neg, .slice A n c] 24).var (g := w.heap.size + 1) (by simp) [.bool neg, .slice A' n c'] 24
 have ha0 := ha.below K0.1
 have hb0 := hb.below K0.1
 clear ha hb
 go_enter Tryz.func123, Tryz.ntmps123
 go_wp2_with fail
 generalize (w.alloc (.cells #[.bool neg, .slice A n c] 24)).alloc (.cells #[.bool neg, .slice A' n c'] 24) = w0 at K0 ha0 hb0 ⊢
 go_loopw [5] (fun ix wr => ∃ k : Nat, k ≤ n ∧ ix = .int .i64 (k : Int) ∧ Sl wr A n c l ∧ Sl wr A' n c' l ∧ Mm w [(w.heap.size, [.bool neg, .slice A n c]), (w.heap.size + 1, [.bool neg, .slice A' n c'])] [] wr) (fun ix _ => n - (intOf ix).toNat)
 case atStart => exact ⟨0, Nat.zero_le _, rfl, ha0, hb0, K0.pick (by simp) (by simp)⟩
 case round =>
  clear ha0 hb0 K0
  obtain ⟨k, hk, rfl, ha0, hb0, K0⟩ := hrel
  obtain ⟨_, _, _, _, _⟩ := (K0.blk (g := w.heap.size) (by repeat constructor)).two
  obtain ⟨_, _, _, _, _⟩ := (K0.blk (g := w.heap.size + 1) (by repeat constructor)).two
  by_cases hkn : k = n
  ·subst hkn
   go_wp2_with fail
   go_ret
   exact ⟨rfl, K0.1⟩
  ·have hlt : k < n := by omega
   obtain ⟨ad, rfl, _, hld, hcd, _⟩ := ha0.at_ hlt
   obtain ⟨bd, rfl, _, _, hce, _⟩ := hb0.at_ hlt
   obtain ⟨x, hx⟩ : ∃ x, l[k] = x := ⟨_, rfl⟩
   rw [hx] at hcd hce
   have hlt' : (k : Int) < (n : Int) := by omega
   have hk0 : (0 : Int) ≤ (k : Int) := Int.natCast_nonneg _
   clear hx hkn
   go_wp2_with fail
   go_quiet (fail)
   go_wp2_with fail
   go_roundw
   case rel => exact ⟨k + 1, hlt, congrArg (Value.int .i64) (by omega), ha0.drewN _, hb0.drewN _, K0.drewN _⟩
   case measure => simp [intOf] <;> omega
end Go.Proofs.YtgekmbfmfiikkaaGreatDoor
namespace Go.Proofs.YtgekmbfmfiikkaaGreatDoor
open Go.RowKit
theorem isInt_same {w w' : World} {s s' : Bool} {A A' : Option Addr} {n c n' c' : Nat} {z : Int} (h : IsInt w s A n c z) (k : IsInt w' s' A' n' c' z) : s = s' ∧ n = n' ∧ ∃ l, Sl w A n c l ∧ Sl w' A' n' c' l := by
 have hn := isInt_len h k rfl
 obtain ⟨a, ha, ca, na, rfl⟩ := h
 obtain ⟨b, hb, cb, nb, e⟩ := k
 have hs : ∀ (s : Bool) (m : Nat), (sgnd s m).natAbs = m := by intro s m; unfold sgnd; split <;> omega
 have h1 : Lm.lv a = Lm.lv b := by have := congrArg Int.natAbs e; rw [hs, hs] at this; exact this
 have := Lm.lv_inj ha.ok ca hb.ok cb h1
 subst this
 refine ⟨?_, hn, a, ha, hb⟩
 by_cases h0 : a = []
 ·rw [na h0, nb h0]
 ·have hp : Lm.lv a ≠ 0 := fun x => h0 ((Lm.lv_zero ca).1 x)
  cases s <;> cases s' <;> simp [sgnd] at e ⊢ <;> omega
end Go.Proofs.YtgekmbfmfiikkaaGreatDoor
namespace Go.Proofs.YtgekmbfmfiikkaaGreatDoor
open Go.RowKit
@[go_sem] theorem run_store_float {P : Program} {w : World} {a : Addr} {m : Mode} (k : FloatKind) (x : Nat) : (store a (.float k x) m).run P w = stored P w a (.float k x) m := run_store P w a _ m rfl
end Go.Proofs.YtgekmbfmfiikkaaGreatDoor
namespace Go.Proofs.YtgekmbfmfiikkaaGreatDoor
open Go.RowKit
def mx (x y : Nat) : Nat := if Flt.sv x < Flt.sv y then y else if Flt.sv y < Flt.sv x then x else if Flt.sgn x then y else x
def IsSel (f : Nat → Nat → Nat) (x y z : Nat) : Prop := z < 2 ^ 64 ∧ (¬ Flt.Nan x → ¬ Flt.Nan y → z = f x y)
theorem decode_neg (x : Nat) : (FloatKind.f64.decode x).neg = Flt.sgn x := by
 unfold FloatKind.decode
 show (Ieee.double.read x).neg = _
 by_cases h : Flt.Fin x
 ·obtain ⟨m, p, h1, _⟩ := Flt.read_fin h
  rw [h1]; rfl
 ·by_cases h2 : Flt.rg x = Flt.inf
  ·rw [Flt.read_inf h2]; rfl
  ·obtain ⟨f, h3⟩ := Flt.read_nan (x := x) (by unfold Flt.Fin at h; unfold Flt.Nan; omega)
   rw [h3]; rfl
theorem nanMinMax_cut (b : Bool) (x y t : Nat) : (Question.nanMinMax .f64 b x y).cut t < 2 ^ 64 := (nan_cut x y t).2
section
variable {P : Program} (w : World)
theorem run_fmax (ts : Array TypeId) (t : TypeId) (x y : Nat) (hx : x < 2 ^ 64) (hy : y < 2 ^ 64) : ∃ z n, (Builtin.max_ ts t #[.float .f64 x, .float .f64 y]).run P w = .ok (.float .f64 z) (w.drewN n) ∧ IsSel mx x y z := by
 have hf : FloatKind.f64.format = Ieee.double := rfl
 by_cases hnx : Flt.Nan x ∨ Flt.Nan y
 ·have ho : Ieee.double.order x y = none := by rcases hnx with h | h; exact Flt.order_nan_left h; exact Flt.order_nan_right h
  have e : (Question.nanMinMax .f64 true x y).forced = false := rfl
  refine ⟨(Question.nanMinMax .f64 true x y).cut (w.tape w.drawn (Question.nanMinMax .f64 true x y)), 1, ?_, nanMinMax_cut _ _ _ _, fun a b => absurd hnx (by rintro (h | h); exact a h; exact b h)⟩
  simp [Builtin.max_, Builtin.max2, hf, ho, e]
  rfl
 ·have h1 : ¬ Flt.Nan x := fun h => hnx (.inl h)
  have h2 : ¬ Flt.Nan y := fun h => hnx (.inr h)
  have ho := Flt.order_spec h1 h2
  refine ⟨mx x y, 0, ?_, by unfold mx; split <;> (try split) <;> (try split) <;> assumption, fun _ _ => rfl⟩
  rw [World.drewN_zero]
  unfold mx
  rcases Int.lt_trichotomy (Flt.sv x) (Flt.sv y) with h | h | h
  ·rw [show compare (Flt.sv x) (Flt.sv y) = .lt by first | exact (Flt.cmp_lt).2 h | (simp only [Flt.cmp_lt]; exact h)] at ho
   simp [Builtin.max_, Builtin.max2, hf, ho, h]
  ·rw [show compare (Flt.sv x) (Flt.sv y) = .eq by first | exact (Flt.cmp_eq).2 h | (simp only [Flt.cmp_eq]; exact h)] at ho
   simp [Builtin.max_, Builtin.max2, hf, ho, h, decode_neg]
  ·rw [show compare (Flt.sv x) (Flt.sv y) = .gt by first | exact (Flt.cmp_gt).2 h | (simp only [Flt.cmp_gt]; exact h)] at ho
   have h' : ¬ Flt.sv x < Flt.sv y := by omega
   simp [Builtin.max_, Builtin.max2, hf, ho, h, h']
end
theorem fin_zero : Flt.Fin 0 := by unfold Flt.Fin Flt.rg; rw [Flt.inf_eq]; decide
def pz (v : Nat) : Nat := if Flt.rg v = 0 then 0 else v
theorem add_nought {v : Nat} (hv : v < 2 ^ 64) (h : Flt.Fin v) : Ieee.double.add v 0 = some (pz v) := by
 have h1 : Flt.rg v < Flt.inf := h
 have e := Flt.add_exact (x := v) (y := 0) (r := Flt.rg v) h fin_zero h1 (by rw [sv_zero, Int.add_zero, sv_abs])
 rw [sv_zero, Int.add_zero] at e
 rw [e]
 unfold pz
 by_cases h0 : Flt.rg v = 0
 ·rw [if_pos h0, if_pos (Flt.sv_zero_iff.2 h0), h0]
  have : Flt.sgn 0 = false := by decide
  rw [this, Bool.and_false]
  rfl
 ·rw [if_neg h0, if_neg (fun k => h0 (Flt.sv_zero_iff.1 k)), sv_neg h0, Flt.word_eq v hv]
theorem isOp_nought {v t : Nat} (hv : v < 2 ^ 64) (h : Flt.Fin v) (ht : IsOp Ieee.double.add v 0 t) : t = pz v := by
 have := ht.2
 rw [add_nought hv h] at this
 exact this
def okS (lo hi : Nat) : Bool := Flt.finB lo && Flt.finB hi && !(Ieee.double.order lo hi == some .gt)
theorem okS_iff {lo hi : Nat} : okS lo hi = true ↔ Flt.Fin lo ∧ Flt.Fin hi ∧ Flt.sv lo ≤ Flt.sv hi := by
 unfold okS
 constructor
 ·intro h
  rw [Bool.and_eq_true, Bool.and_eq_true] at h
  obtain ⟨⟨h1, h2⟩, h3⟩ := h
  have f1 := Flt.finB_iff.1 h1
  have f2 := Flt.finB_iff.1 h2
  rw [Flt.gt_spec (fun k => Flt.not_fin_nan k f1) (fun k => Flt.not_fin_nan k f2), Bool.not_eq_true', decide_eq_false_iff_not] at h3
  exact ⟨f1, f2, by omega⟩
 ·rintro ⟨f1, f2, h3⟩
  rw [Flt.finB_iff.2 f1, Flt.finB_iff.2 f2, Flt.gt_spec (fun k => Flt.not_fin_nan k f1) (fun k => Flt.not_fin_nan k f2), decide_eq_false (by omega)]
  rfl
def endsF (lo hi : Nat) : Nat × Nat × Int := if Flt.finB lo && Flt.finB hi then (pz lo, pz hi, 0) else (0, 0, 6)
end Go.Proofs.YtgekmbfmfiikkaaGreatDoor
namespace Go.Proofs.YtgekmbfmfiikkaaGreatDoor
open Go.RowKit
theorem span_finite_any (x : Nat) (hx : x < 2 ^ 64) (w : World) : Calls Tryz.prog 352 #[.float .f64 x] w fun e w' => e = .returned (.bool (Flt.finB x)) ∧ w = w' := by
 cases h : Flt.nanB x with
 | true =>
  have HF : Hid (Flt.finB x = false) := Lib.hid (by rw [Flt.finB_eq, h]; rfl)
  rw [HF.out]
  go_enter Tryz.func352, Tryz.ntmps352
  go_wp2_with (first | (go_at_call 321; refine (isNaN_any _ _).mono ?_; rintro e w' ⟨rfl, rfl⟩; rw [h]) | (go_at_call 319; refine (isInf0_any _ hx _).mono ?_; rintro e w' ⟨rfl, rfl⟩))
  go_ret
  exact ⟨rfl, rfl⟩
 | false =>
  have HF : Hid (Flt.finB x = !Flt.infB x) := Lib.hid (by rw [Flt.finB_eq, h]; rfl)
  rw [HF.out]
  go_enter Tryz.func352, Tryz.ntmps352
  go_wp2_with (first | (go_at_call 321; refine (isNaN_any _ _).mono ?_; rintro e w' ⟨rfl, rfl⟩; rw [h]) | (go_at_call 319; refine (isInf0_any _ hx _).mono ?_; rintro e w' ⟨rfl, rfl⟩))
  go_ret
  exact ⟨rfl, rfl⟩
def InSpans (w : World) (g : Nat) (l : List (Nat × Nat)) : Prop :=
 g < w.heap.size ∧ ∀ i (h : i < l.length), w.cell? ⟨g, i * 2, none⟩ = some (.float .f64 l[i].1) ∧ w.cell? ⟨g, i * 2 + 1, none⟩ = some (.float .f64 l[i].2) ∧ l[i].1 < 2 ^ 64 ∧ l[i].2 < 2 ^ 64
theorem span_may_any (g : Nat) (l : List (Nat × Nat)) (w : World) (h : InSpans w g l) (hn : l.length ≤ 1000) :
  Calls Tryz.prog 311 #[.slice (some ⟨g, 0, none⟩) l.length l.length] w fun e w' => e = .returned (.bool (l.all fun p => okS p.1 p.2)) ∧ Below w.heap.size w w' := by
 obtain ⟨n, hnl⟩ : ∃ n, l.length = n := ⟨_, rfl⟩
 have HN := Lib.hid hnl
 rw [hnl] at hn ⊢
 have HI := Lib.hid h
 have hg := h.1
 clear h hnl
 go_enter Tryz.func311, Tryz.ntmps311
 go_wp2
 go_loopw [7] (fun i wr => ∃ k : Nat, i = .int .i64 (k : Int) ∧ k ≤ n ∧ Hid (∀ j (h : j < l.length), j < k → okS l[j].1 l[j].2 = true) ∧ Below w.heap.size w wr) (fun i _ => n - (intOf i).toNat)
 case atStart => exact ⟨0, rfl, Nat.zero_le _, Lib.hid (fun j h hj => by omega), Below.refl _ _⟩
 case round =>
  obtain ⟨k, rfl, hk, HJ, hb⟩ := hrel
  by_cases hkn : k = n
  ·subst hkn
   have HF : Hid ((l.all fun p => okS p.1 p.2) = true) := Lib.hid (List.all_eq_true.2 (fun p hp => by
    obtain ⟨j, hj, rfl⟩ := List.getElem_of_mem hp
    exact HJ.out j hj (by have := HN.out; omega)))
   go_wp2_with fail
   go_ret
   exact ⟨by rw [HF.out]; rfl, hb⟩
  ·have hkl : k < l.length := by have := HN.out; omega
   obtain ⟨c0, c1, b0, b1⟩ := HI.out.2 k hkl
   have d0 : wr.cell? ⟨g, k * 2, none⟩ = some (.float .f64 l[k].1) := (hb.cell (p := ⟨g, k * 2, none⟩) hg).trans c0
   have d1 : wr.cell? ⟨g, k * 2 + 1, none⟩ = some (.float .f64 l[k].2) := (hb.cell (p := ⟨g, k * 2 + 1, none⟩) hg).trans c1
   obtain ⟨lo, hlo⟩ : ∃ v, l[k].1 = v := ⟨_, rfl⟩
   obtain ⟨hi, hhi⟩ : ∃ v, l[k].2 = v := ⟨_, rfl⟩
   rw [hlo] at d0 b0
   rw [hhi] at d1 b1
   have HLO := Lib.hid hlo
   have HHI := Lib.hid hhi
   clear c0 c1 hlo hhi
   have hkn' : k < n := by omega
   clear hkn
   have hfalse : okS lo hi = false → Hid ((l.all fun p => okS p.1 p.2) = false) := fun h => Lib.hid (List.all_eq_false.2 ⟨l[k], List.getElem_mem hkl, by rw [HLO.out, HHI.out, h]; simp⟩)
   cases h1 : Flt.finB lo with
   | false =>
    have HF := hfalse (by unfold okS; rw [h1]; rfl)
    clear hfalse
    go_wp2_with (first | (go_at_call 352; (with_reducible refine (span_finite_any lo b0 _).mono ?_); rintro e1 w1 ⟨rfl, rfl⟩; rw [h1]) | (go_at_call 352; (with_reducible refine (span_finite_any hi b1 _).mono ?_); rintro e2 w2 ⟨rfl, rfl⟩; rw [h2]))
    go_ret
    exact ⟨by rw [HF.out]; rfl, hb.alloc hb.size _⟩
   | true =>
    cases h2 : Flt.finB hi with
    | false =>
     have HF := hfalse (by unfold okS; rw [h1, h2]; rfl)
     clear hfalse
     go_wp2_with (first | (go_at_call 352; (with_reducible refine (span_finite_any lo b0 _).mono ?_); rintro e1 w1 ⟨rfl, rfl⟩; rw [h1]) | (go_at_call 352; (with_reducible refine (span_finite_any hi b1 _).mono ?_); rintro e2 w2 ⟨rfl, rfl⟩; rw [h2]))
     go_ret
     exact ⟨by rw [HF.out]; rfl, hb.alloc hb.size _⟩
    | true =>
     cases h3 : (Ieee.double.order lo hi == some .gt) with
     | true =>
      have HF := hfalse (by unfold okS; rw [h1, h2, h3]; rfl)
      clear hfalse
      go_wp2_with (first | (go_at_call 352; (with_reducible refine (span_finite_any lo b0 _).mono ?_); rintro e1 w1 ⟨rfl, rfl⟩; rw [h1]) | (go_at_call 352; (with_reducible refine (span_finite_any hi b1 _).mono ?_); rintro e2 w2 ⟨rfl, rfl⟩; rw [h2]))
      go_ret
      exact ⟨by rw [HF.out]; rfl, hb.alloc hb.size _⟩
     | false =>
      have HT : Hid (okS lo hi = true) := Lib.hid (by unfold okS; rw [h1, h2, h3]; rfl)
      clear hfalse
      go_wp2_with (first | (go_at_call 352; (with_reducible refine (span_finite_any lo b0 _).mono ?_); rintro e1 w1 ⟨rfl, rfl⟩; rw [h1]) | (go_at_call 352; (with_reducible refine (span_finite_any hi b1 _).mono ?_); rintro e2 w2 ⟨rfl, rfl⟩; rw [h2]))
      go_roundw
      case rel =>
       refine ⟨k + 1, by go_num, by omega, Lib.hid (fun j hj hjk => ?_), hb.alloc hb.size _⟩
       rcases Nat.lt_or_ge j k with hlt | hge
       ·exact HJ.out j hj hlt
       ·have : j = k := by omega
        subst this
        rw [HLO.out, HHI.out]; exact HT.out
      case measure => simp [intOf]; omega
def RetSpan (W : World) (lo hi : Nat) (v : Value) (e : Ending) (w' : World) : Prop := e = .returned (.tuple #[.agg #[.float .f64 lo, .float .f64 hi], v]) ∧ Below W.heap.size W w'
theorem span_ends_ok (lo hi : Nat) (hlo : lo < 2 ^ 64) (hhi : hi < 2 ^ 64) (w : World) (h1 : Flt.Fin lo) (h2 : Flt.Fin hi) :
  Calls Tryz.prog 313 #[.float .f64 lo, .float .f64 hi] w (RetSpan w (pz lo) (pz hi) (.int .i64 0)) := by
 have f1 := Flt.finB_iff.2 h1
 have f2 := Flt.finB_iff.2 h2
 have K1 : Hid (∀ t, IsOp Ieee.double.add lo 0 t → t = pz lo) := Lib.hid (fun t => isOp_nought hlo h1)
 have K2 : Hid (∀ t, IsOp Ieee.double.add hi 0 t → t = pz hi) := Lib.hid (fun t => isOp_nought hhi h2)
 clear h1 h2
 go_enter Tryz.func313, Tryz.ntmps313
 go_wp2_with (first | (go_at_call 352; (with_reducible refine (span_finite_any lo hlo _).mono ?_); rintro e1 w1 ⟨rfl, rfl⟩; rw [f1]) | (go_at_call 352; (with_reducible refine (span_finite_any hi hhi _).mono ?_); rintro e2 w2 ⟨rfl, rfl⟩; rw [f2]) | (refine wpList_fadd _ rfl rfl ?_; intro t1 d1 hs1; have e1 := K1.out _ hs1; subst e1; clear hs1 K1) | (refine wpList_fadd _ rfl rfl ?_; intro t2 d2 hs2; have e2 := K2.out _ hs2; subst e2; clear hs2 K2))
 exact bodyPost_ret (v := .tuple #[.agg #[.float .f64 (pz lo), .float .f64 (pz hi)], .int .i64 0]) (by simp [results, Tryz.results313, go_sem]) rfl
  ⟨rfl, below_result (below_drewN ((Below.refl _ _).alloc (Nat.le_refl _) _) _) (Nat.le_refl _) _ _⟩
theorem span_ends_no (lo hi : Nat) (hlo : lo < 2 ^ 64) (hhi : hi < 2 ^ 64) (w : World) (h : ¬ (Flt.Fin lo ∧ Flt.Fin hi)) :
  Calls Tryz.prog 313 #[.float .f64 lo, .float .f64 hi] w (RetSpan w 0 0 (.int .i64 6)) := by
 cases f1 : Flt.finB lo with
 | false =>
  clear h
  go_enter Tryz.func313, Tryz.ntmps313
  go_wp2_with (first | (go_at_call 352; (with_reducible refine (span_finite_any lo hlo _).mono ?_); rintro e1 w1 ⟨rfl, rfl⟩; rw [f1]))
  exact bodyPost_ret (v := .tuple #[.agg #[.float .f64 0, .float .f64 0], .int .i64 6]) (by simp [results, Tryz.results313, go_sem]) rfl ⟨rfl, (Below.refl _ _).alloc (Nat.le_refl _) _⟩
 | true =>
  have f2 : Flt.finB hi = false := Flt.finB_false.2 (fun k => h ⟨Flt.finB_iff.1 f1, k⟩)
  clear h
  go_enter Tryz.func313, Tryz.ntmps313
  go_wp2_with (first | (go_at_call 352; (with_reducible refine (span_finite_any lo hlo _).mono ?_); rintro e1 w1 ⟨rfl, rfl⟩; rw [f1]) | (go_at_call 352; (with_reducible refine (span_finite_any hi hhi _).mono ?_); rintro e2 w2 ⟨rfl, rfl⟩; rw [f2]))
  exact bodyPost_ret (v := .tuple #[.agg #[.float .f64 0, .float .f64 0], .int .i64 6]) (by simp [results, Tryz.results313, go_sem]) rfl ⟨rfl, (Below.refl _ _).alloc (Nat.le_refl _) _⟩
end Go.Proofs.YtgekmbfmfiikkaaGreatDoor
namespace Go.Proofs.YtgekmbfmfiikkaaGreatDoor
open Go.RowKit
theorem span_ends_any (lo hi : Nat) (hlo : lo < 2 ^ 64) (hhi : hi < 2 ^ 64) (w : World) :
  Calls Tryz.prog 313 #[.float .f64 lo, .float .f64 hi] w (RetSpan w (endsF lo hi).1 (endsF lo hi).2.1 (.int .i64 (endsF lo hi).2.2)) := by
 by_cases h : Flt.Fin lo ∧ Flt.Fin hi
 ·have e : endsF lo hi = (pz lo, pz hi, 0) := by unfold endsF; rw [Flt.finB_iff.2 h.1, Flt.finB_iff.2 h.2]; rfl
  rw [e]
  exact span_ends_ok lo hi hlo hhi w h.1 h.2
 ·have e : endsF lo hi = (0, 0, 6) := by
   unfold endsF
   rw [if_neg]
   intro k
   obtain ⟨k1, k2⟩ := Bool.and_eq_true_iff.1 k
   exact h ⟨Flt.finB_iff.1 k1, Flt.finB_iff.1 k2⟩
  rw [e]
  exact span_ends_no lo hi hlo hhi w h
end Go.Proofs.YtgekmbfmfiikkaaGreatDoor
namespace Go.Proofs.YtgekmbfmfiikkaaGreatDoor
open Go.RowKit
def RetSp (W : World) (q : Nat × Nat × Int → Prop) (e : Ending) (w' : World) : Prop := ∃ p, q p ∧ RetSpan W p.1 p.2.1 (.int .i64 p.2.2) e w'
end Go.Proofs.YtgekmbfmfiikkaaGreatDoor
namespace Go.Proofs.YtgekmbfmfiikkaaGreatDoor
open Go.RowKit
/-! ### the examples -/
theorem fin_dec {x : Nat} (h : Flt.finB x = true) : Flt.Fin x := Flt.finB_iff.1 h
end Go.Proofs.YtgekmbfmfiikkaaGreatDoor
namespace Go.Proofs.YtgekmbfmfiikkaaGreatDoor
open Go.RowKit
def Kept (w : World) (l : List (Nat × Nat × Value)) (wr : World) : Prop :=
 Below w.heap.size w wr ∧ (∀ c ∈ l, c.1 < wr.heap.size) ∧ ∀ c ∈ l, wr.cell? ⟨c.1, c.2.1, none⟩ = some c.2.2
theorem Kept.nil (w : World) : Kept w [] w := ⟨Below.refl _ _, fun c hc => absurd hc (by simp), fun c hc => absurd hc (by simp)⟩
theorem Kept.next {w wr w' : World} {l : List (Nat × Nat × Value)} (h : Kept w l wr) (hb : Below wr.heap.size wr w') : Kept w l w' := by
 refine ⟨below_next h.1 hb, fun c hc => ?_, fun c hc => ?_⟩
 ·have := h.2.1 c hc
  have := hb.size
  omega
 ·rw [(bcell hb).1 _ _ (h.2.1 c hc)]
  exact h.2.2 c hc
theorem Kept.box {w wr : World} {l : List (Nat × Nat × Value)} (h : Kept w l wr) (o : Obj) : Kept w l (wr.alloc o) := by
 refine ⟨h.1.alloc h.1.size _, fun c hc => ?_, fun c hc => ?_⟩
 ·have := h.2.1 c hc
  simp
  omega
 ·rw [World.cell?_alloc_lt wr (a := ⟨c.1, _, none⟩) (h := h.2.1 c hc)]
  exact h.2.2 c hc
theorem Kept.two {w wr : World} {l : List (Nat × Nat × Value)} (h : Kept w l wr) {g : Nat} (hg : wr.heap.size = g) (u v : Value) (t : TypeId) :
  Kept w ((g, 0, u) :: (g, 1, v) :: l) (wr.alloc (.cells #[u, v] t)) := by
 subst hg
 have k := h.box (.cells #[u, v] t)
 refine ⟨k.1, fun c hc => ?_, fun c hc => ?_⟩
 ·rw [List.mem_cons, List.mem_cons] at hc
  rcases hc with rfl | rfl | hc
  ·simp
  ·simp
  ·exact k.2.1 c hc
 ·rw [List.mem_cons, List.mem_cons] at hc
  rcases hc with rfl | rfl | hc
  ·simp [go_sem]
  ·simp [go_sem]
  ·exact k.2.2 c hc
end Go.Proofs.YtgekmbfmfiikkaaGreatDoor
namespace Go.Proofs.YtgekmbfmfiikkaaGreatDoor
open Go.RowKit
theorem span_may_one5 (g la ha : Nat) (w : World) (b1 : la < 2 ^ 64) (b2 : ha < 2 ^ 64) (hg : g < w.heap.size)
  (c0 : w.cell? ⟨g, 0, none⟩ = some (.float .f64 la)) (c1 : w.cell? ⟨g, 1, none⟩ = some (.float .f64 ha)) :
  Calls Tryz.prog 311 #[.slice (some ⟨g, 0, none⟩) 1 1] w (RetV w (.bool (okS la ha))) := by
 refine (span_may_any g [(la, ha)] w ⟨hg, ?_⟩ (by simp)).mono ?_
 ·intro i hi
  match i, hi with
  | 0, _ => exact ⟨c0, c1, b1, b2⟩
  | (k + 1), hi => exact absurd hi (by simp)
 ·rintro e w' ⟨rfl, hb⟩
  exact ⟨by simp, hb⟩
def Free (g : Nat) (wr : World) : Prop := g < wr.heap.size ∧ wr.frozen? ⟨g, 0, none⟩ = false ∧ wr.frozen? ⟨g, 1, none⟩ = false
theorem Free.next {g : Nat} {wr w' : World} (h : Free g wr) (hb : Below wr.heap.size wr w') : Free g w' := by
 obtain ⟨_, hf⟩ := bcell hb
 exact ⟨Nat.lt_of_lt_of_le h.1 hb.size, (hf _ _ h.1).trans h.2.1, (hf _ _ h.1).trans h.2.2⟩
theorem Free.new (w : World) {g : Nat} (hg : w.heap.size = g) (u v : Value) (t : TypeId) : Free g (w.alloc (.cells #[u, v] t)) := by
 subst hg
 exact ⟨by simp, by simp [go_sem], by simp [go_sem]⟩
end Go.Proofs.YtgekmbfmfiikkaaGreatDoor
namespace Go.Proofs.YtgekmbfmfiikkaaGreatDoor
open Go.RowKit
theorem pz_lt6 {v : Nat} (h : v < 2 ^ 64) : pz v < 2 ^ 64 := by unfold pz; split <;> omega
theorem IsRoot.lt5 {x d u : Nat} (h : IsRoot x d u) : d < 2 ^ 64 ∧ u < 2 ^ 64 := by
 have hil := Flt.inf_lt
 by_cases hw : Pos x
 ·obtain ⟨r, h1, rfl, rfl⟩ := h.2 hw
  have := h1.1
  refine ⟨by omega, ?_⟩
  split <;> omega
 ·obtain ⟨z, h1, rfl, rfl⟩ := h.1 hw
  exact ⟨h1.1, h1.1⟩
theorem span_sqrt_ok (la ha : Nat) (b1 : la < 2 ^ 64) (b2 : ha < 2 ^ 64) (ok : okS la ha = true) (h0 : 0 ≤ Flt.sv ha) (w : World) :
  Calls Tryz.prog 245 #[.agg #[.float .f64 la, .float .f64 ha]] w (RetSp w fun p => ∃ lo lu hd hi, IsRoot (pz (mx la 0)) lo lu ∧ IsRoot (pz ha) hd hi ∧ p = endsF lo hi) := by
 obtain ⟨f1, f2, _⟩ := okS_iff.1 ok
 have HOK := Lib.hid ok
 have o1 : (Ieee.double.order ha 0 == some .lt) = false := by
  rw [Flt.lt_spec (fun k => Flt.not_fin_nan k f2) nan_zero, sv_zero]
  exact decide_eq_false (by omega)
 have HMX : Hid (∀ z, IsSel mx la 0 z → z < 2 ^ 64 ∧ z = mx la 0 ∧ ∀ t, IsOp Ieee.double.add z 0 t → t = pz z) := Lib.hid (fun z hz => by
  have e := hz.2 (fun h => Flt.not_fin_nan h f1) nan_zero
  have fz : Flt.Fin z := by rw [e]; unfold mx; split <;> (try split) <;> (try split) <;> first | exact f1 | exact fin_zero
  exact ⟨hz.1, e, fun t => isOp_nought hz.1 fz⟩)
 have KH : Hid (∀ t, IsOp Ieee.double.add ha 0 t → t = pz ha) := Lib.hid (fun t => isOp_nought b2 f2)
 clear f1 f2 ok h0
 go_enter Tryz.func245, Tryz.ntmps245
 go_wp2_with fail
 refine (span_may_one5 (w.heap.size + 1 + 1) la ha _ b1 b2 (by simp) (by simp [go_sem]) (by simp [go_sem])).mono ?_
 rintro e1 w1 ⟨rfl, hb1⟩
 rw [HOK.out]
 have K1 := ((((Kept.nil w).two rfl _ _ _).two (g := w.heap.size + 1) (by simp) _ _ _).box _).next hb1
 have R1 := ((Free.new (w.alloc (.cells #[.float .f64 la, .float .f64 ha] 273)) (g := w.heap.size + 1) (by simp) (.float .f64 0) (.float .f64 0) 273).next ((Below.refl _ _).alloc (Nat.le_refl _) _)).next hb1
 clear hb1
 have a1 := (K1).2.1
 have c1 := (K1).2.2
 simp only [List.mem_cons, List.not_mem_nil, or_false, forall_eq_or_imp, forall_eq] at a1 c1
 go_wp2_with (first
  | (obtain ⟨z, n1, hrz, hz⟩ := run_fmax (P := Tryz.prog) w1 #[129, 129] 129 la 0 b1 (by decide); rw [hrz]; obtain ⟨z64, ez, K3⟩ := HMX.out z hz; have HK3 := Lib.hid K3; have HEZ := Lib.hid ez; clear hz hrz K3 ez)
  | (refine wpList_fadd _ rfl rfl ?_; intro t1 d1 hs1; have e3 := HK3.out _ hs1; subst e3; clear hs1 HK3))
 refine (rnd_sqrt_any (pz z) (pz_lt6 z64) _).mono ?_
 rintro e2 w2 ⟨lo, lu, rfl, hr2, hb2⟩
 have l64 := (IsRoot.lt5 hr2).1
 have K2 := K1.next (below_of_drewN hb2)
 have R2 := R1.next (below_of_drewN hb2)
 have HR2 := Lib.hid hr2
 clear a1 c1 hb2 hr2
 have a2 := (K2).2.1
 have c2 := (K2).2.2
 simp only [List.mem_cons, List.not_mem_nil, or_false, forall_eq_or_imp, forall_eq] at a2 c2
 go_wp2_with (refine wpList_fadd _ rfl rfl ?_; intro t2 d2 hs2; have e4 := KH.out _ hs2; subst e4; clear hs2 KH)
 refine (rnd_sqrt_any (pz ha) (pz_lt6 b2) _).mono ?_
 rintro e3 w3 ⟨hd, hi, rfl, hr3, hb3⟩
 have h64 := (IsRoot.lt5 hr3).2
 have K3 := K2.next (below_of_drewN hb3)
 have R3 := R2.next (below_of_drewN hb3)
 have HR3 := Lib.hid hr3
 clear a2 c2 hb3 hr3
 have a3 := (K3).2.1
 have c3 := (K3).2.2
 simp only [List.mem_cons, List.not_mem_nil, or_false, forall_eq_or_imp, forall_eq] at a3 c3
 go_wp2_with fail
 refine (span_ends_any lo hi l64 h64 _).mono ?_
 rintro e4 w4 ⟨rfl, hb4⟩
 have K4 := K3.next hb4
 have R4 := R3.next hb4
 clear a3 c3 hb4
 have a4 := (K4).2.1
 have c4 := (K4).2.2
 simp only [List.mem_cons, List.not_mem_nil, or_false, forall_eq_or_imp, forall_eq] at a4 c4
 obtain ⟨_, r0, r1⟩ := R4
 have i0 := c4.1
 have i1 := c4.2.1
 go_wp2_with fail
 exact bodyPost_ret (v := .tuple #[.agg #[.float .f64 (endsF lo hi).1, .float .f64 (endsF lo hi).2.1], .int .i64 (endsF lo hi).2.2]) (by simp [results, Tryz.results245, go_sem, i0, i1]) rfl
  ⟨endsF lo hi, ⟨lo, lu, hd, hi, by rw [← HEZ.out]; exact HR2.out, HR3.out, rfl⟩, rfl, below_result K4.1 (Nat.le_succ _) _ _⟩
end Go.Proofs.YtgekmbfmfiikkaaGreatDoor
namespace Go.Proofs.YtgekmbfmfiikkaaGreatDoor
open Go.RowKit
theorem fin_o : Flt.Fin 4607182418800017408 := fin_dec (by decide +kernel)
theorem val_o : Flt.val 4607182418800017408 = 2 ^ Flt.K74 := by decide +kernel
end Go.Proofs.YtgekmbfmfiikkaaGreatDoor
namespace Go.Proofs.YtgekmbfmfiikkaaGreatDoor
open Go.RowKit
theorem Dn_cross {num den num' den' r : Nat} (hd : 0 < den) (hd' : 0 < den') (h : num * den' = num' * den) (k : Flt.Dn num den r) : Flt.Dn num' den' r := by
 refine ⟨k.1, ?_, fun h1 => ?_⟩
 ·have a1 := Nat.mul_le_mul_right den' k.2.1
  rw [h, Nat.mul_right_comm] at a1
  exact Nat.le_of_mul_le_mul_right a1 hd
 ·have a1 := Nat.mul_lt_mul_of_pos_right (k.2.2 h1) hd'
  rw [h, Nat.mul_right_comm] at a1
  exact Nat.lt_of_mul_lt_mul_right a1
theorem hiR_cross {num den num' den' r : Nat} (hd : 0 < den) (hd' : 0 < den') (h : num * den' = num' * den) : hiR num den r = hiR num' den' r := by
 have e : (Flt.val r * den = num) ↔ (Flt.val r * den' = num') := by
  constructor
  ·intro k
   have a1 : Flt.val r * den' * den = num' * den := by rw [Nat.mul_right_comm, k, h]
   exact Nat.eq_of_mul_eq_mul_right hd a1
  ·intro k
   have a1 : Flt.val r * den * den' = num * den' := by rw [Nat.mul_right_comm, k, h]
   exact Nat.eq_of_mul_eq_mul_right hd' a1
 unfold hiR
 by_cases k : Flt.val r * den = num
 ·rw [if_pos k, if_pos (e.1 k)]
 ·rw [if_neg k, if_neg (fun q => k (e.2 q))]
theorem Brk_cross {s : Bool} {num den num' den' d u : Nat} (hd : 0 < den) (hd' : 0 < den') (h : num * den' = num' * den) (k : Brk s num den d u) : Brk s num' den' d u := by
 obtain ⟨r, h1, h2, h3⟩ := k
 rw [hiR_cross hd hd' h] at h2 h3
 exact ⟨r, Dn_cross hd hd' h h1, h2, h3⟩
theorem quo_bits {P Q b N : Nat} (hb : 1 ≤ b) (hP1 : 2 ^ (b + 63) ≤ P) (hP2 : P < 2 ^ (b + 64)) (hQ1 : 2 ^ (b - 1) ≤ Q) (hQ2 : Q < 2 ^ b) (hN : P / Q = N) :
  0 < Q ∧ N * Q ≤ P ∧ P < (N + 1) * Q ∧ 2 ^ 63 ≤ N ∧ N < 2 ^ 65 := by
 have hQ0 : 0 < Q := Nat.lt_of_lt_of_le (Nat.two_pow_pos _) hQ1
 subst hN
 refine ⟨hQ0, Nat.div_mul_le_self _ _, ?_, ?_, ?_⟩
 ·have h1 := Nat.lt_div_mul_add (a := P) (b := Q) hQ0
  rw [Nat.add_mul, Nat.one_mul]
  exact h1
 ·rw [Nat.le_div_iff_mul_le hQ0]
  refine Nat.le_trans (Nat.mul_le_mul_left _ (Nat.le_of_lt hQ2)) ?_
  rw [← Nat.pow_add, Nat.add_comm]
  exact hP1
 ·rw [Nat.div_lt_iff_lt_mul hQ0]
  refine Nat.lt_of_lt_of_le hP2 ?_
  refine Nat.le_trans ?_ (Nat.mul_le_mul_left _ hQ1)
  rw [← Nat.pow_add]
  exact Nat.pow_le_pow_right (by decide) (by omega)
theorem at_cross {z D s : Nat} (_hz : 0 < z) (hD : 0 < D) (sgn : Bool) (d u : Nat) :
  (Brk sgn (z * 2 ^ s * 2 ^ (-(s : Int) + 1074).toNat) (D * 2 ^ (-(-(s : Int) + 1074)).toNat) d u → Brk sgn (z * 2 ^ Flt.K74) D d u) ∧
  (Brk sgn (z * 2 ^ ((s : Int) + 1074).toNat) (D * 2 ^ s * 2 ^ (-((s : Int) + 1074)).toNat) d u → Brk sgn (z * 2 ^ Flt.K74) D d u) := by
 have hK : Flt.K74 = 1074 := rfl
 refine ⟨fun h => ?_, fun h => ?_⟩
 ·refine Brk_cross (Nat.mul_pos hD (Nat.two_pow_pos _)) hD ?_ h
  rw [Nat.mul_assoc z, ← Nat.pow_add]
  rcases Nat.le_total s 1074 with k | k
  ·rw [show s + (-(s : Int) + 1074).toNat = Flt.K74 by rw [hK]; omega, show (-(-(s : Int) + 1074)).toNat = 0 by omega, Nat.pow_zero, Nat.mul_one]
  ·rw [show s + (-(s : Int) + 1074).toNat = Flt.K74 + (-(-(s : Int) + 1074)).toNat by rw [hK]; omega, Nat.pow_add]
   generalize 2 ^ (-(-(s : Int) + 1074)).toNat = K
   generalize 2 ^ Flt.K74 = L
   grind
 ·refine Brk_cross (Nat.mul_pos (Nat.mul_pos hD (Nat.two_pow_pos _)) (Nat.two_pow_pos _)) hD ?_ h
  rw [show ((s : Int) + 1074).toNat = s + Flt.K74 by rw [hK]; omega, show (-((s : Int) + 1074)).toNat = 0 by omega, Nat.pow_zero, Nat.mul_one, Nat.pow_add]
  generalize 2 ^ s = K
  generalize 2 ^ Flt.K74 = L
  grind
end Go.Proofs.YtgekmbfmfiikkaaGreatDoor
