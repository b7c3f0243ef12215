/-
  The references' spans (polestarref05): ends; the least span from one fraction to another one.
  How long the fraction of a finite float is.
  Spans, plainly: what is done to greater spans.
-/
import Derived.Test.YtjcjphgpmpjmbaaGreatDoorFrW
import Derived.Test.YtjcjphgpmpjmbaaGreatDoorSpnA
import Derived.Test.YtjcjphgpmpjmbaaGreatDoorFrf
import Derived.Test.YtjcjphgpmpjmbaaGreatDoorSpnR
namespace Go.Proofs.YtjcjphgpmpjmbaaGreatDoor
open Go.RowKit

def endsR (lo hi : Nat) : Nat × Nat × Int := if Flt.finB lo && Flt.finB hi then (lo, hi, 0) else (0, 0, 6)
theorem finB_pz (u : Nat) : Flt.finB (pz u) = Flt.finB u := by
  unfold pz
  split
  · rename_i h
    have h0 : Flt.rg 0 = 0 := rfl
    unfold Flt.finB
    rw [h, h0]
  · rfl
theorem endsR_eq {d u : Nat} (hd : pz d = d) : endsR d (pz u) = endsF d u := by
  unfold endsR endsF
  rw [finB_pz, hd]
theorem ref5_ends_any (lo hi : Nat) (p : Nat × Nat × Int) (w : World) (hp : Hid (endsR lo hi = p)) :
    Calls Tryz.prog 67 #[.float .f64 lo, .float .f64 hi] w (RetSpan w p.1 p.2.1 (.int .i64 p.2.2)) := by
  obtain ⟨a, ha⟩ : ∃ a, Flt.finB lo = a := ⟨_, rfl⟩
  obtain ⟨b, hb⟩ : ∃ b, Flt.finB hi = b := ⟨_, rfl⟩
  have HE : Hid (p = if a && b then (lo, hi, 0) else (0, 0, 6)) := Lib.hid (by rw [← hp.out]; unfold endsR; rw [ha, hb])
  have HA := Lib.hid ha
  have HB := Lib.hid hb
  clear hp ha hb
  cases a with
  | false =>
    have HE2 : Hid (p = (0, 0, 6)) := HE
    rw [HE2.out]
    have K0 := (Mm.nil w).var (g := w.heap.size) rfl [.float .f64 0, .float .f64 0] 24
    go_enter Tryz.func67, Tryz.ntmps67
    go_wp2_with fail
    refine (ref5_finite_any lo _).mono ?_
    rintro e1 w1 ⟨rfl, hb1⟩
    rw [HA.out]
    have K1 := K0.next hb1
    obtain ⟨x0, x1, x2, x3, x4⟩ := (K1.blk (g := w.heap.size) (vs := [.float .f64 0, .float .f64 0]) (by simp)).two
    go_wp2_with fail
    exact bodyPost_ret (v := .tuple #[.agg #[.float .f64 0, .float .f64 0], .int .i64 6]) (by simp [results, Tryz.results67, go_sem, x0, x1]) rfl ⟨rfl, by first | exact K1.1 | exact below_result K1.1 (Nat.le_refl _) _ _⟩
  | true =>
    cases b with
    | false =>
      have HE2 : Hid (p = (0, 0, 6)) := HE
      rw [HE2.out]
      have K0 := (Mm.nil w).var (g := w.heap.size) rfl [.float .f64 0, .float .f64 0] 24
      go_enter Tryz.func67, Tryz.ntmps67
      go_wp2_with fail
      refine (ref5_finite_any lo _).mono ?_
      rintro e1 w1 ⟨rfl, hb1⟩
      rw [HA.out]
      have K1 := K0.next hb1
      go_wp2_with fail
      refine (ref5_finite_any hi _).mono ?_
      rintro e2 w2 ⟨rfl, hb2⟩
      rw [HB.out]
      have K2 := K1.next hb2
      obtain ⟨x0, x1, x2, x3, x4⟩ := (K2.blk (g := w.heap.size) (vs := [.float .f64 0, .float .f64 0]) (by simp)).two
      go_wp2_with fail
      exact bodyPost_ret (v := .tuple #[.agg #[.float .f64 0, .float .f64 0], .int .i64 6]) (by simp [results, Tryz.results67, go_sem, x0, x1]) rfl ⟨rfl, by first | exact K2.1 | exact below_result K2.1 (Nat.le_refl _) _ _⟩
    | true =>
      have HE2 : Hid (p = (lo, hi, 0)) := HE
      rw [HE2.out]
      have K0 := (Mm.nil w).var (g := w.heap.size) rfl [.float .f64 0, .float .f64 0] 24
      go_enter Tryz.func67, Tryz.ntmps67
      go_wp2_with fail
      refine (ref5_finite_any lo _).mono ?_
      rintro e1 w1 ⟨rfl, hb1⟩
      rw [HA.out]
      have K1 := K0.next hb1
      go_wp2_with fail
      refine (ref5_finite_any hi _).mono ?_
      rintro e2 w2 ⟨rfl, hb2⟩
      rw [HB.out]
      have K2 := K1.next hb2
      obtain ⟨x0, x1, x2, x3, x4⟩ := (K2.blk (g := w.heap.size) (vs := [.float .f64 0, .float .f64 0]) (by simp)).two
      go_wp2_with fail
      exact bodyPost_ret (v := .tuple #[.agg #[.float .f64 lo, .float .f64 hi], .int .i64 0]) (by simp [results, Tryz.results67, go_sem, x0, x1]) rfl ⟨rfl, by first | exact K2.1 | exact below_result K2.1 (Nat.le_refl _) _ _⟩

set_option maxRecDepth 100000 in
set_option maxHeartbeats 3200000 in
theorem ref5_least_any (neg neg' : Bool) (A A' : Option Addr) (n c n' c' : Nat) (nfg nfg' : Bool) (C C' : Option Addr) (p q p' q' : Nat) (x y : Rat) (m : Nat) (w : World) (hx : IsInt w neg A n c x.num) (hx' : IsInt w neg' A' n' c' (x.den : Int)) (hy : IsInt w nfg C p q y.num) (hy' : IsInt w nfg' C' p' q' (y.den : Int)) (sx : Sz x m) (sy : Sz y m) (hm : m ≤ 10000) :
    Calls Tryz.prog 33 #[.agg #[.bool neg, .slice A n c, .bool neg', .slice A' n' c'], .agg #[.bool nfg, .slice C p q, .bool nfg', .slice C' p' q']] w (RetSp w fun r => ∃ lo hi, DownR x lo ∧ UpR y hi ∧ r = endsF lo hi) := by
  have K0 := ((((((Mm.nil w).int hx).int hx').int hy).int hy').var (g := w.heap.size) rfl [.bool neg, .slice A n c, .bool neg', .slice A' n' c'] 29).var (g := w.heap.size + 1) (by simp) [.bool nfg, .slice C p q, .bool nfg', .slice C' p' q'] 29 |>.var (g := w.heap.size + 1 + 1) (by simp) [.float .f64 0, .float .f64 0] 24
  have SX := Lib.hid sx
  have SY := Lib.hid sy
  clear hx hx' hy hy' sx sy
  go_enter Tryz.func33, Tryz.ntmps33
  go_wp2_with fail
  generalize ((w.alloc (.cells #[.bool neg, .slice A n c, .bool neg', .slice A' n' c'] 29)).alloc (.cells #[.bool nfg, .slice C p q, .bool nfg', .slice C' p' q'] 29)).alloc (.cells #[.float .f64 0, .float .f64 0] 24) = w0 at K0 ⊢
  obtain ⟨⟨qa0x, qb0x, qc0x, qd0x⟩, ⟨qe0x, qf0x, qg0x, qh0x⟩, qi0x⟩ := (K0.blk (g := w.heap.size) (vs := [.bool neg, .slice A n c, .bool neg', .slice A' n' c']) (by simp)).four
  obtain ⟨⟨qa0y, qb0y, qc0y, qd0y⟩, ⟨qe0y, qf0y, qg0y, qh0y⟩, qi0y⟩ := (K0.blk (g := w.heap.size + 1) (vs := [.bool nfg, .slice C p q, .bool nfg', .slice C' p' q']) (by simp)).four
  have e0a : ¬ w.heap.size + 1 + 1 = w.heap.size := by omega
  have e0b : ¬ w.heap.size = w.heap.size + 1 + 1 := by omega
  have e1a : ¬ w.heap.size + 1 + 1 = w.heap.size + 1 := by omega
  have e1b : ¬ w.heap.size + 1 = w.heap.size + 1 + 1 := by omega
  go_region_held3 (fun w' => w'.cell? ⟨w.heap.size, 0, none⟩ = some (.bool neg) ∧ w'.cell? ⟨w.heap.size, 1, none⟩ = some (.slice A n c) ∧ w'.cell? ⟨w.heap.size, 2, none⟩ = some (.bool neg') ∧ w'.cell? ⟨w.heap.size, 3, none⟩ = some (.slice A' n' c') ∧ w'.cell? ⟨w.heap.size + 1, 0, none⟩ = some (.bool nfg) ∧ w'.cell? ⟨w.heap.size + 1, 1, none⟩ = some (.slice C p q) ∧ w'.cell? ⟨w.heap.size + 1, 2, none⟩ = some (.bool nfg') ∧ w'.cell? ⟨w.heap.size + 1, 3, none⟩ = some (.slice C' p' q'))
    (go_keep)
    (first
      | (go_at_call 68; (with_reducible refine (ref5_down_any neg neg' A A' n c n' c' x m _ ?_ ?_ SX.out hm).mono ?_); (first | (with_reducible exact K0.at_ (by simp)) | (with_reducible exact K0.drew.at_ (by simp)) | (with_reducible exact (K0.drewN _).at_ (by simp))); (first | (with_reducible exact K0.at_ (by simp)) | (with_reducible exact K0.drew.at_ (by simp)) | (with_reducible exact (K0.drewN _).at_ (by simp))); rintro e1 w1 ⟨d1, rfl, P1, hb1⟩; have HP1 := Lib.hid P1; clear P1; (first | (with_reducible have K1 := (K0.next hb1)) | (with_reducible have K1 := (K0.drew.next hb1)) | (with_reducible have K1 := ((K0.drewN _).next hb1))); have Q1x := (K1.blk (g := w.heap.size) (vs := [.bool neg, .slice A n c, .bool neg', .slice A' n' c']) (by simp)).four; obtain ⟨⟨qa1x, qb1x, qc1x, qd1x⟩, ⟨qe1x, qf1x, qg1x, qh1x⟩, qi1x⟩ := Q1x; have Q1y := (K1.blk (g := w.heap.size + 1) (vs := [.bool nfg, .slice C p q, .bool nfg', .slice C' p' q']) (by simp)).four; obtain ⟨⟨qa1y, qb1y, qc1y, qd1y⟩, ⟨qe1y, qf1y, qg1y, qh1y⟩, qi1y⟩ := Q1y; have Q1r := (K1.blk (g := w.heap.size + 1 + 1) (vs := [.float .f64 0, .float .f64 0]) (by simp)).two; obtain ⟨qa1r, qb1r, qc1r, qd1r, qe1r⟩ := Q1r; clear hb1)
      | (go_at_call 69; (with_reducible refine (ref5_up_any nfg nfg' C C' p q p' q' y m _ ?_ ?_ SY.out hm).mono ?_); (first | (with_reducible exact K1.at_ (by simp)) | (with_reducible exact K1.drew.at_ (by simp)) | (with_reducible exact (K1.drewN _).at_ (by simp))); (first | (with_reducible exact K1.at_ (by simp)) | (with_reducible exact K1.drew.at_ (by simp)) | (with_reducible exact (K1.drewN _).at_ (by simp))); rintro e2 w2 ⟨d2, rfl, P2, hb2⟩; have HP2 := Lib.hid P2; clear P2; (first | (with_reducible have K2 := (K1.next hb2)) | (with_reducible have K2 := (K1.drew.next hb2)) | (with_reducible have K2 := ((K1.drewN _).next hb2))); have Q2x := (K2.blk (g := w.heap.size) (vs := [.bool neg, .slice A n c, .bool neg', .slice A' n' c']) (by simp)).four; obtain ⟨⟨qa2x, qb2x, qc2x, qd2x⟩, ⟨qe2x, qf2x, qg2x, qh2x⟩, qi2x⟩ := Q2x; have Q2y := (K2.blk (g := w.heap.size + 1) (vs := [.bool nfg, .slice C p q, .bool nfg', .slice C' p' q']) (by simp)).four; obtain ⟨⟨qa2y, qb2y, qc2y, qd2y⟩, ⟨qe2y, qf2y, qg2y, qh2y⟩, qi2y⟩ := Q2y; have Q2r := (K2.blk (g := w.heap.size + 1 + 1) (vs := [.float .f64 0, .float .f64 0]) (by simp)).two; obtain ⟨qa2r, qb2r, qc2r, qd2r, qe2r⟩ := Q2r; clear hb2)
      | (go_at_call 67; (with_reducible refine (ref5_ends_any d1 d2 _ _ (Lib.hid rfl)).mono ?_); rintro e3 w3 ⟨rfl, hb3⟩; (first | (with_reducible have K3 := (K2.next hb3)) | (with_reducible have K3 := (K2.drew.next hb3)) | (with_reducible have K3 := ((K2.drewN _).next hb3))); have Q3x := (K3.blk (g := w.heap.size) (vs := [.bool neg, .slice A n c, .bool neg', .slice A' n' c']) (by simp)).four; obtain ⟨⟨qa3x, qb3x, qc3x, qd3x⟩, ⟨qe3x, qf3x, qg3x, qh3x⟩, qi3x⟩ := Q3x; have Q3y := (K3.blk (g := w.heap.size + 1) (vs := [.bool nfg, .slice C p q, .bool nfg', .slice C' p' q']) (by simp)).four; obtain ⟨⟨qa3y, qb3y, qc3y, qd3y⟩, ⟨qe3y, qf3y, qg3y, qh3y⟩, qi3y⟩ := Q3y; have Q3r := (K3.blk (g := w.heap.size + 1 + 1) (vs := [.float .f64 0, .float .f64 0]) (by simp)).two; obtain ⟨qa3r, qb3r, qc3r, qd3r, qe3r⟩ := Q3r; clear hb3))
  go_wp2_with fail
  obtain ⟨hu, hu1, hu2⟩ := HP2.out
  have HE : endsR d1 d2 = endsF d1 hu := by rw [hu2]; exact endsR_eq HP1.out.2
  rw [HE]
  have hbw := below_result (g := w.heap.size + 1 + 1) K3.1 (by omega) (.float .f64 (endsF d1 hu).1) (.float .f64 (endsF d1 hu).2.1)
  exact bodyPost_ret (v := .tuple #[.agg #[.float .f64 (endsF d1 hu).1, .float .f64 (endsF d1 hu).2.1], .int .i64 (endsF d1 hu).2.2]) (by simp [results, Tryz.results33, go_sem, qa3r, qb3r]) rfl ⟨endsF d1 hu, ⟨d1, hu, HP1.out.1, hu1, rfl⟩, rfl, hbw⟩

end Go.Proofs.YtjcjphgpmpjmbaaGreatDoor

namespace Go.Proofs.YtjcjphgpmpjmbaaGreatDoor
open Go.RowKit

theorem fr_sz {v : Nat} (h : Flt.Fin v) : Sz (fr v) 67 := by
  have hq : Flt.rg v / 2 ^ 52 - 1 ≤ 2046 := by
    have := h
    unfold Flt.Fin at this
    rw [Flt.inf_eq] at this
    omega
  have hv : Flt.val (Flt.rg v) < 2 ^ (32 * 67) := by
    unfold Flt.val
    have h1 : (if Flt.rg v < 2 ^ 52 then Flt.rg v else 2 ^ 52 + Flt.rg v % 2 ^ 52) < 2 ^ 53 := by split <;> omega
    have h2 : (if Flt.rg v < 2 ^ 52 then Flt.rg v else 2 ^ 52 + Flt.rg v % 2 ^ 52) * 2 ^ (Flt.rg v / 2 ^ 52 - 1) < 2 ^ 53 * 2 ^ (Flt.rg v / 2 ^ 52 - 1) := Nat.mul_lt_mul_of_pos_right h1 (Nat.two_pow_pos _)
    rw [← Nat.pow_add] at h2
    obtain ⟨M, hM⟩ : ∃ M, 32 * 67 = M := ⟨_, rfl⟩
    rw [hM]
    have hM2 : 2144 = M := hM
    exact Nat.lt_of_lt_of_le h2 (Nat.pow_le_pow_right (by decide) (by omega))
  unfold fr
  refine Sz.divInt unit_ne ?_ ?_
  · have : (Flt.sv v).natAbs = Flt.val (Flt.rg v) := by unfold Flt.sv; split <;> omega
    rw [this]
    exact hv
  · rw [Int.natAbs_natCast]
    obtain ⟨M, hM⟩ : ∃ M, 32 * 67 = M := ⟨_, rfl⟩
    rw [hM]
    have hM2 : 2144 = M := hM
    exact Nat.pow_lt_pow_right (by decide) (by rw [← hM2]; unfold Flt.K74; decide)
end Go.Proofs.YtjcjphgpmpjmbaaGreatDoor

namespace Go.Proofs.YtjcjphgpmpjmbaaGreatDoor
open Go.RowKit

/-! ### products of what lies between -/
def mulC (la ha lb hb : Nat) : List (Int × Nat) :=
  [(Flt.sv la * Flt.sv lb, 2 ^ Flt.K74), (Flt.sv la * Flt.sv hb, 2 ^ Flt.K74), (Flt.sv ha * Flt.sv lb, 2 ^ Flt.K74), (Flt.sv ha * Flt.sv hb, 2 ^ Flt.K74)]
def quoC (la ha lb hb : Nat) : List (Int × Nat) :=
  [(qn la lb, Flt.val (Flt.rg lb)), (qn la hb, Flt.val (Flt.rg hb)), (qn ha lb, Flt.val (Flt.rg lb)), (qn ha hb, Flt.val (Flt.rg hb))]
theorem mulC_dens (la ha lb hb : Nat) : Dens (mulC la ha lb hb) := by
  intro c hc
  have hp : 0 < 2 ^ Flt.K74 := Nat.two_pow_pos _
  simp only [mulC, List.mem_cons, List.not_mem_nil, or_false] at hc
  rcases hc with rfl | rfl | rfl | rfl <;> exact hp
/-! ### quotients -/
/-- Both ends on the same side of nought. -/
def Side (lb hb : Nat) : Prop := 0 < Flt.sv lb ∧ 0 < Flt.sv hb ∨ Flt.sv lb < 0 ∧ Flt.sv hb < 0
theorem mem4 {α : Type} {a b c d x : α} (h : x = a ∨ x = b ∨ x = c ∨ x = d) : x ∈ [a, b, c, d] := by simpa using h
theorem side_rg {lb hb : Nat} (h : Side lb hb) : Flt.rg lb ≠ 0 ∧ Flt.rg hb ≠ 0 := by
  constructor <;> (intro k; have := Flt.sv_zero_iff.2 k; unfold Side at h; omega)
/-! ### sums, squares -/
end Go.Proofs.YtjcjphgpmpjmbaaGreatDoor
