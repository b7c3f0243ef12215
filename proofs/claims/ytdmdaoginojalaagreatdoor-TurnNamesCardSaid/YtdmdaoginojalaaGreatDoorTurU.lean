/-
  Parts of a turn (package turn): the table of parts (turn.units).
-/
import Derived.Test.YtdmdaoginojalaaGreatDoorCpx
import Derived.Test.YtdmdaoginojalaaGreatDoorRootW
import Derived.Test.YtdmdaoginojalaaGreatDoorSto
namespace Go.Proofs.YtdmdaoginojalaaGreatDoor
open Go.RowKit

@[go_sem] theorem run_store_complex {P : Program} {w : World} {a : Addr} {m : Mode} (k : FloatKind) (x y : Nat) : (store a (.complex k x y) m).run P w = stored P w a (.complex k x y) m := run_store P w a _ m rfl

def fop (f : Nat → Nat → Option Nat) (x y : Nat) : Nat := (f x y).getD 0
def fsq (x : Nat) : Nat := (Ieee.double.sqrt x).getD 0
theorem isOp_det {f : Nat → Nat → Option Nat} {x y t : Nat} (h : (f x y).isSome = true) (k : IsOp f x y t) : t = fop f x y := by
  obtain ⟨r, hr⟩ := Option.isSome_iff_exists.1 h
  have := k.2
  rw [hr] at this
  unfold fop
  rw [hr]
  exact this
theorem isSq_det {x t : Nat} (h : (Ieee.double.sqrt x).isSome = true) (k : IsSq x t) : t = fsq x := by
  obtain ⟨r, hr⟩ := Option.isSome_iff_exists.1 h
  have := k.2
  rw [hr] at this
  unfold fsq
  rw [hr]
  exact this
def one : Nat := 4607182418800017408
def two : Nat := 4611686018427387904
/-- The parts: the cosine and the sine behind k halvings. -/
def cT : Nat → Nat
  | 0 => 0
  | k + 1 => fsq (fop Ieee.double.div (fop Ieee.double.add one (cT k)) two)
def sT : Nat → Nat
  | 0 => one
  | k + 1 => if k = 0 then cT 1 else fop Ieee.double.div (sT k) (fop Ieee.double.mul two (cT (k + 1)))
def okT (k : Nat) : Bool :=
  (Ieee.double.add one (cT k)).isSome && (Ieee.double.div (fop Ieee.double.add one (cT k)) two).isSome && (Ieee.double.sqrt (fop Ieee.double.div (fop Ieee.double.add one (cT k)) two)).isSome &&
  (Ieee.double.mul two (cT (k + 1))).isSome && (Ieee.double.div (sT k) (fop Ieee.double.mul two (cT (k + 1)))).isSome &&
  decide (cT (k + 1) ≤ one) && decide (sT (k + 1) ≤ one)
theorem okT_all : ∀ k, k < 14 → okT k = true := by decide +kernel
theorem okT_parts {k : Nat} (hk : k < 14) : (Ieee.double.add one (cT k)).isSome = true ∧ (Ieee.double.div (fop Ieee.double.add one (cT k)) two).isSome = true ∧ (Ieee.double.sqrt (fop Ieee.double.div (fop Ieee.double.add one (cT k)) two)).isSome = true ∧
    (Ieee.double.mul two (cT (k + 1))).isSome = true ∧ (Ieee.double.div (sT k) (fop Ieee.double.mul two (cT (k + 1)))).isSome = true ∧ cT (k + 1) ≤ one ∧ sT (k + 1) ≤ one := by
  have h := okT_all k hk
  unfold okT at h
  simp only [Bool.and_eq_true, decide_eq_true_eq] at h
  exact ⟨h.1.1.1.1.1.1, h.1.1.1.1.1.2, h.1.1.1.1.2, h.1.1.1.2, h.1.1.2, h.1.2, h.2⟩
def PartV (k j : Nat) : Value := if 3 ≤ j ∧ j < k + 3 then .complex .f64 (cT (j - 2)) (sT (j - 2)) else .complex .f64 0 0
/-- The array of the parts, k of them laid. -/
def Parts (k g : Nat) (wr : World) : Prop := g < wr.heap.size ∧ ∀ j, j < 17 → wr.cell? ⟨g, j, none⟩ = some (PartV k j) ∧ wr.frozen? ⟨g, j, none⟩ = false
theorem Parts.below {k g : Nat} {wr w' : World} (h : Parts k g wr) (hb : Below wr.heap.size wr w') : Parts k g w' :=
  ⟨Nat.lt_of_lt_of_le h.1 hb.size, fun j hj => ⟨((bcell hb).1 _ _ h.1).trans (h.2 j hj).1, ((bcell hb).2 _ _ h.1).trans (h.2 j hj).2⟩⟩
theorem Parts.drewN {k g : Nat} {wr : World} (h : Parts k g wr) (n : Nat) : Parts k g (wr.drewN n) := h
theorem parts_none (w : World) (t : TypeId) : Parts 0 w.heap.size (w.alloc (.cells #[.complex .f64 0 0, .complex .f64 0 0, .complex .f64 0 0, .complex .f64 0 0, .complex .f64 0 0, .complex .f64 0 0, .complex .f64 0 0, .complex .f64 0 0, .complex .f64 0 0, .complex .f64 0 0, .complex .f64 0 0, .complex .f64 0 0, .complex .f64 0 0, .complex .f64 0 0, .complex .f64 0 0, .complex .f64 0 0, .complex .f64 0 0] t)) := by
  refine ⟨by simp, fun j hj => ?_⟩
  have e : PartV 0 j = .complex .f64 0 0 := by unfold PartV; rw [if_neg (by omega)]
  rw [e]
  match j, hj with
  | 0, _ => exact ⟨by simp [go_sem], by simp [go_sem]⟩
  | 1, _ => exact ⟨by simp [go_sem], by simp [go_sem]⟩
  | 2, _ => exact ⟨by simp [go_sem], by simp [go_sem]⟩
  | 3, _ => exact ⟨by simp [go_sem], by simp [go_sem]⟩
  | 4, _ => exact ⟨by simp [go_sem], by simp [go_sem]⟩
  | 5, _ => exact ⟨by simp [go_sem], by simp [go_sem]⟩
  | 6, _ => exact ⟨by simp [go_sem], by simp [go_sem]⟩
  | 7, _ => exact ⟨by simp [go_sem], by simp [go_sem]⟩
  | 8, _ => exact ⟨by simp [go_sem], by simp [go_sem]⟩
  | 9, _ => exact ⟨by simp [go_sem], by simp [go_sem]⟩
  | 10, _ => exact ⟨by simp [go_sem], by simp [go_sem]⟩
  | 11, _ => exact ⟨by simp [go_sem], by simp [go_sem]⟩
  | 12, _ => exact ⟨by simp [go_sem], by simp [go_sem]⟩
  | 13, _ => exact ⟨by simp [go_sem], by simp [go_sem]⟩
  | 14, _ => exact ⟨by simp [go_sem], by simp [go_sem]⟩
  | 15, _ => exact ⟨by simp [go_sem], by simp [go_sem]⟩
  | 16, _ => exact ⟨by simp [go_sem], by simp [go_sem]⟩
  | (n + 17), h => exact absurd h (by omega)
theorem parts_more {k g : Nat} {wr : World} (h : Parts k g wr) (hk : k < 14) : Parts (k + 1) g (wr.setCell ⟨g, k + 3, none⟩ (.complex .f64 (cT (k + 1)) (sT (k + 1)))) := by
  refine ⟨by simpa [World.setCell] using h.1, fun j hj => ?_⟩
  by_cases hjk : j = k + 3
  · subst hjk
    obtain ⟨c, f⟩ := h.2 (k + 3) hj
    have e : PartV (k + 1) (k + 3) = .complex .f64 (cT (k + 1)) (sT (k + 1)) := by unfold PartV; rw [if_pos (by omega), show k + 3 - 2 = k + 1 by omega]
    rw [e]
    exact ⟨by simp [go_sem, c], by simp [go_sem, f]⟩
  · obtain ⟨c, f⟩ := h.2 j hj
    have e : PartV (k + 1) j = PartV k j := by
      unfold PartV
      by_cases h1 : 3 ≤ j ∧ j < k + 3
      · rw [if_pos h1, if_pos (by omega)]
      · rw [if_neg h1, if_neg (by omega)]
    rw [e]
    refine ⟨?_, by simpa [go_sem] using f⟩
    rw [World.cell?_setCell_other wr ⟨g, k + 3, none⟩ ⟨g, j, none⟩ _ (by intro q; injection q with _ q; omega)]
    exact c
def RetUnits (w : World) (e : Ending) (w' : World) : Prop :=
  ∃ g, e = .returned (.func (.func 153) #[] #[.pointer (some ⟨g, 0, none⟩)]) ∧ w.heap.size ≤ g ∧ Parts 14 g w' ∧ Below w.heap.size w w'
set_option maxRecDepth 100000 in
set_option maxHeartbeats 1600000 in
theorem units_any (w : World) : Calls Tryz.prog 50 #[] w (RetUnits w) := by
  go_enter Tryz.func50, Tryz.ntmps50
  go_wp2_with fail
  go_loopw [2, 3, 4] (fun c s i wr => ∃ k : Nat, k ≤ 14 ∧ c = .float .f64 (cT k) ∧ s = .float .f64 (sT k) ∧ i = .int .i64 ((k : Int) + 3) ∧ Parts k w.heap.size wr ∧ Below w.heap.size w wr) (fun _ _ i _ => 17 - (intOf i).toNat)
  case atStart => exact ⟨0, Nat.zero_le _, rfl, rfl, rfl, parts_none w _, (Below.refl _ _).alloc (Nat.le_refl _) _⟩
  case round =>
    obtain ⟨k, hk, rfl, rfl, rfl, hP, hb⟩ := hrel
    by_cases hk14 : k = 14
    · subst hk14
      go_wp2_with fail
      go_ret
      exact ⟨w.heap.size, rfl, Nat.le_refl _, hP, hb⟩
    · have hlt : k < 14 := by omega
      obtain ⟨o1, o2, o3, o4, o5, _, _⟩ := okT_parts hlt
      obtain ⟨pc, pf⟩ := hP.2 (k + 3) (by omega)
      have pe : PartV k (k + 3) = .complex .f64 0 0 := by unfold PartV; rw [if_neg (by omega)]
      rw [pe] at pc
      have HC : Hid (cT (k + 1) = fsq (fop Ieee.double.div (fop Ieee.double.add one (cT k)) two)) := Lib.hid rfl
      have HS : Hid (sT (k + 1) = if k = 0 then cT 1 else fop Ieee.double.div (sT k) (fop Ieee.double.mul two (cT (k + 1)))) := Lib.hid rfl
      obtain ⟨c, hc⟩ : ∃ c, cT k = c := ⟨_, rfl⟩
      obtain ⟨s, hs⟩ : ∃ s, sT k = s := ⟨_, rfl⟩
      obtain ⟨C, hC⟩ : ∃ C, cT (k + 1) = C := ⟨_, rfl⟩
      rw [hc] at o1 o2 o3 HC ⊢
      rw [hs] at o5 HS ⊢
      rw [hC] at o4 o5 HC HS
      obtain ⟨A, hA⟩ : ∃ A, fop Ieee.double.add one c = A := ⟨_, rfl⟩
      rw [hA] at o2 o3 HC
      obtain ⟨D, hD⟩ : ∃ D, fop Ieee.double.div A two = D := ⟨_, rfl⟩
      rw [hD] at o3 HC
      obtain ⟨M, hM⟩ : ∃ M, fop Ieee.double.mul two C = M := ⟨_, rfl⟩
      rw [hM] at o5 HS
      obtain ⟨Q, hQ⟩ : ∃ Q, fop Ieee.double.div s M = Q := ⟨_, rfl⟩
      rw [hQ] at HS
      have K1 : Hid (∀ t, IsOp Ieee.double.add 4607182418800017408 c t → t = A) := Lib.hid (fun t h => (isOp_det (x := one) o1 h).trans hA)
      have K2 : Hid (∀ t, IsOp Ieee.double.div A 4611686018427387904 t → t = D) := Lib.hid (fun t h => (isOp_det (y := two) o2 h).trans hD)
      have K3 : Hid (∀ t, IsSq D t → t = C) := Lib.hid (fun t h => (isSq_det o3 h).trans HC.out.symm)
      have K4 : Hid (∀ t, IsOp Ieee.double.mul 4611686018427387904 C t → t = M) := Lib.hid (fun t h => (isOp_det (x := two) o4 h).trans hM)
      have K5 : Hid (∀ t, IsOp Ieee.double.div s M t → t = Q) := Lib.hid (fun t h => (isOp_det o5 h).trans hQ)
      have HCC := Lib.hid hC
      have HP := Lib.hid hP
      have hg := hP.1
      clear o1 o2 o3 o4 o5 hA hD hM hQ hc hs hC pe hk14 HC hP
      go_wp2_with (first
        | (refine wpList_fadd _ rfl rfl ?_; intro t1 d1 h1; have e1 := K1.out _ h1; subst e1; clear h1 K1)
        | (refine wpList_fquo _ rfl rfl ?_; intro t2 d2 h2; have e2 := K2.out _ h2; subst e2; clear h2 K2))
      refine (sqrt_any t2 _).mono ?_
      rintro e3 w3 ⟨z, d3, rfl, hz, rfl⟩
      have ez := K3.out _ hz
      subst ez
      clear hz K3
      by_cases h0 : k = 0
      · subst h0
        rw [if_pos rfl] at HS
        have HT : Hid (sT (0 + 1) = z) := Lib.hid (by rw [HS.out]; exact HCC.out)
        go_wp2_with (first
          | (refine wpList_fmul _ rfl rfl ?_; intro t4 d4 h4; have e4 := K4.out _ h4; subst e4; clear h4 K4)
          | (refine wpList_fquo _ rfl rfl ?_; intro t5 d5 h5; have e5 := K5.out _ h5; subst e5; clear h5 K5))
        have hP' := parts_more (HP.out.drewN (d1 + d2 + d3 + d4 + d5)) hlt
        rw [show cT (0 + 1) = z from HCC.out, HT.out] at hP'
        refine ⟨⟨1, by omega, by rw [show cT 1 = z from HCC.out], by rw [show sT 1 = z from HT.out], rfl, hP', (below_drewN hb _).setCell (p := ⟨w.heap.size, 3, none⟩) (Nat.le_refl _) _⟩, ?_⟩
        simp [intOf]
      · rw [if_neg h0] at HS
        go_wp2_with (first
          | (refine wpList_fmul _ rfl rfl ?_; intro t4 d4 h4; have e4 := K4.out _ h4; subst e4; clear h4 K4)
          | (refine wpList_fquo _ rfl rfl ?_; intro t5 d5 h5; have e5 := K5.out _ h5; subst e5; clear h5 K5))
        have hP' := parts_more (HP.out.drewN (d1 + d2 + d3 + d4 + d5)) hlt
        rw [HCC.out, HS.out] at hP'
        refine ⟨⟨k + 1, hlt, by rw [HCC.out], by rw [HS.out], congrArg (Value.int .i64) (by omega), hP', (below_drewN hb _).setCell (p := ⟨w.heap.size, k + 3, none⟩) (Nat.le_refl _) _⟩, ?_⟩
        simp [intOf]
        omega
end Go.Proofs.YtdmdaoginojalaaGreatDoor
