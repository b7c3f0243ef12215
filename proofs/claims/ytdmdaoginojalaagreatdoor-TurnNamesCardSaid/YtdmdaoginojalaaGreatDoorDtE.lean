/-
  Discs of a quarter and an eighth of a turn; where turn.Disc refuses.
-/
import Derived.Test.YtdmdaoginojalaaGreatDoorDtD
namespace Go.Proofs.YtdmdaoginojalaaGreatDoor
open Go.RowKit

theorem disc_no (k n : Int) (h : cntF n ≠ 0) (w : World) : Calls Tryz.prog 10 #[.int .i64 k, .int .i64 n] w
    fun e w' => e = .returned (.tuple #[.agg #[.complex .f64 0 0, .float .f64 0], .int .i64 (cntF n)]) ∧ Below w.heap.size w w' := by
  have K0 := (Mm.nil w).var (g := w.heap.size) rfl [.complex .f64 0 0, .float .f64 0] 30
  go_enter Tryz.func10, Tryz.ntmps10
  go_wp2_with fail
  refine (counted_any _ _).mono ?_
  rintro e1 w1 ⟨rfl, rfl⟩
  go_wp2_with fail
  exact bodyPost_ret (v := .tuple #[.agg #[.complex .f64 0 0, .float .f64 0], .int .i64 (cntF n)]) (by simp [results, Tryz.results10, go_sem]) rfl ⟨rfl, K0.1⟩

theorem f3_val {x y : Dt} (hx1 : x.1 = (0, 0)) (hx2 : x.2.1 = (4607182418800017408, 4607182418800017408)) (h : DStep x y) : y.1.1 = 0x3fe6a09e667f3bcc ∧ y.2.1.1 = 0x3fe6a09e667f3bcc := by
  obtain ⟨a, b, m, h1, h2, ⟨lo, lu, hd, hi, r1, r2, h3⟩, h4, h5, _⟩ := h
  simp only [hx1] at h1
  simp only [hx2] at h5
  have ea : a = (4607182418800017408, 4607182418800017408) := by
    obtain ⟨p, q, l, u, e⟩ := h1.2 (by decide +kernel)
    have A := low_at (t := 4607182418800017408) (r := 4607182418800017408) l (fin_dec (by decide +kernel)) (by decide +kernel) (by decide +kernel) (by decide +kernel)
    have B := high_at (t := 4607182418800017408) (r := 4607182418800017407) u (fin_dec (by decide +kernel)) (by decide +kernel) (by decide +kernel) (by decide +kernel)
    rw [endsF_at A B (by decide) (by decide), show (pz 4607182418800017408, pz 4607182418800017408, (0 : Int)) = (4607182418800017408, 4607182418800017408, 0) by decide +kernel] at e
    exact Prod.ext (congrArg (·.1) e) (congrArg (·.2.1) e)
  subst ea
  have eb : b = (4602678819172646912, 4602678819172646912) := by
    obtain ⟨p, q, l, u, e⟩ := h2.2.2 (by decide +kernel) (by decide +kernel)
    have A := low_at (t := 4602678819172646912) (r := 4602678819172646912) l (fin_dec (by decide +kernel)) (by decide +kernel) (by decide +kernel) (by decide +kernel)
    have B := high_at (t := 4602678819172646912) (r := 4602678819172646911) u (fin_dec (by decide +kernel)) (by decide +kernel) (by decide +kernel) (by decide +kernel)
    rw [endsF_at A B (by decide) (by decide), show (pz 4602678819172646912, pz 4602678819172646912, (0 : Int)) = (4602678819172646912, 4602678819172646912, 0) by decide +kernel] at e
    exact Prod.ext (congrArg (·.1) e) (congrArg (·.2.1) e)
  subst eb
  have ey : y.1 = (0x3fe6a09e667f3bcc, 0x3fe6a09e667f3bcd) := by
    have h1 := r1
    have h2 := r2
    rw [show pz (mx (4602678819172646912, 4602678819172646912).1 0) = 4602678819172646912 by decide +kernel] at h1
    rw [show pz (4602678819172646912, 4602678819172646912).2 = 4602678819172646912 by decide +kernel] at h2
    have hq : DnSq (Flt.val (Flt.rg 4602678819172646912) * 2 ^ Flt.K74) 0x3fe6a09e667f3bcc := by unfold DnSq; decide +kernel
    have hp : Flt.Fin 4602678819172646912 ∧ Flt.sgn 4602678819172646912 = false ∧ Flt.rg 4602678819172646912 ≠ 0 := ⟨fin_dec (by decide +kernel), by decide +kernel, by decide +kernel⟩
    obtain ⟨rfl, _⟩ := root_val h1 hp hq
    obtain ⟨_, h4⟩ := root_val h2 hp hq
    rw [if_neg (by decide +kernel)] at h4
    subst h4
    rw [show endsF 0x3fe6a09e667f3bcc (0x3fe6a09e667f3bcc + 1) = (0x3fe6a09e667f3bcc, 0x3fe6a09e667f3bcd, 0) by decide +kernel] at h3
    exact Prod.ext (congrArg (·.1) h3) (congrArg (·.2.1) h3)
  refine ⟨by rw [ey], ?_⟩
  simp only [ey] at h4
  have em : m = (0x3ff6a09e667f3bcc, 0x3ff6a09e667f3bcd) := by
    obtain ⟨p, q, l, u, e⟩ := h4.2 (by decide +kernel)
    have A := low_at (t := 0x3ff6a09e667f3bcc) (r := 0x3ff6a09e667f3bcc) l (fin_dec (by decide +kernel)) (by decide +kernel) (by decide +kernel) (by decide +kernel)
    have B := high_at (t := 0x3ff6a09e667f3bcd) (r := 0x3ff6a09e667f3bcc) u (fin_dec (by decide +kernel)) (by decide +kernel) (by decide +kernel) (by decide +kernel)
    rw [endsF_at A B (by decide) (by decide), show (pz 0x3ff6a09e667f3bcc, pz 0x3ff6a09e667f3bcd, (0 : Int)) = (0x3ff6a09e667f3bcc, 0x3ff6a09e667f3bcd, 0) by decide +kernel] at e
    exact Prod.ext (congrArg (·.1) e) (congrArg (·.2.1) e)
  subst em
  have es : y.2.1 = (0x3fe6a09e667f3bcc, 0x3fe6a09e667f3bce) := by
    obtain ⟨p, q, l, u, e⟩ := h5.2.2 (by decide +kernel) (by decide +kernel)
    have A := low_at (t := 0x3fe6a09e667f3bcc) (r := 0x3fe6a09e667f3bcc) l (fin_dec (by decide +kernel)) (by decide +kernel) (by decide +kernel) (by decide +kernel)
    have B := high_at (t := 0x3fe6a09e667f3bce) (r := 0x3fe6a09e667f3bcd) u (fin_dec (by decide +kernel)) (by decide +kernel) (by decide +kernel) (by decide +kernel)
    rw [endsF_at A B (by decide) (by decide), show (pz 0x3fe6a09e667f3bcc, pz 0x3fe6a09e667f3bce, (0 : Int)) = (0x3fe6a09e667f3bcc, 0x3fe6a09e667f3bce, 0) by decide +kernel] at e
    exact Prod.ext (congrArg (·.1) e) (congrArg (·.2.1) e)
  rw [es]
theorem bit_eighth : BitL 8192 3 := fun k h1 h2 => by
  have h : ∀ i : Fin 14, bits .and .i64 (((8192 : Nat) : Int) / 2 ^ (16 - (3 + i.val))) 1 = if 3 + i.val = 3 then 1 else 0 := by decide +kernel
  have e := h ⟨k - 3, by omega⟩
  have e2 : 3 + (k - 3) = k := by omega
  simp only [e2] at e
  exact e
theorem bit_nought : BitL 0 0 := fun k h1 h2 => by
  have h : ∀ i : Fin 14, bits .and .i64 (((0 : Nat) : Int) / 2 ^ (16 - (3 + i.val))) 1 = if 3 + i.val = 0 then 1 else 0 := by decide +kernel
  have e := h ⟨k - 3, by omega⟩
  have e2 : 3 + (k - 3) = k := by omega
  simp only [e2] at e
  exact e
theorem disc_quarter (w : World) : Calls Tryz.prog 10 #[.int .i64 1, .int .i64 2] w (RetDz w 0 (0, 4607182418800017408)) := by
  have h := disc_one 1 2 1 0 0 false (4607182418800017408, 0) (by decide) (by decide +kernel) (by decide +kernel) (by decide +kernel) (by decide) (Lib.hid (by decide +kernel)) bit_nought (fun F _ => by unfold wzF; rw [if_neg (by omega)]) (by decide) (by decide) ⟨fin_dec (by decide +kernel), fin_dec (by decide +kernel)⟩ w
  rwa [show laidF false 1 (4607182418800017408, 0) = (0, 4607182418800017408) by decide +kernel] at h
theorem disc_eighth (w : World) : Calls Tryz.prog 10 #[.int .i64 1, .int .i64 3] w (RetDz w 3 (0x3fe6a09e667f3bcc, 0x3fe6a09e667f3bcc)) := by
  have h := disc_one 1 3 0 8192 3 false (0x3fe6a09e667f3bcc, 0x3fe6a09e667f3bcc) (by decide) (by decide +kernel) (by decide +kernel) (by decide +kernel) (by decide) (Lib.hid (by decide +kernel)) bit_eighth (fun F hF => by
    unfold wzF
    rw [if_pos (by decide)]
    obtain ⟨e1, e2⟩ := f3_val hF.1 hF.2.1 (hF.2.2 3 (by decide) (by decide))
    exact Prod.ext e1 e2) (by decide) (by decide) ⟨fin_dec (by decide +kernel), fin_dec (by decide +kernel)⟩ w
  rwa [show laidF false 0 (0x3fe6a09e667f3bcc, 0x3fe6a09e667f3bcc) = (0x3fe6a09e667f3bcc, 0x3fe6a09e667f3bcc) by decide +kernel] at h
end Go.Proofs.YtdmdaoginojalaaGreatDoor
