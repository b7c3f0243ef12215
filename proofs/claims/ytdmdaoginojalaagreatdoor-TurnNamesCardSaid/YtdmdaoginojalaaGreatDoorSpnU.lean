/-
  Spans: roots (span.Sqrt) of spans that may be and do not lie below nought.
-/
import Derived.Test.YtdmdaoginojalaaGreatDoorSpnV
import Derived.Test.YtdmdaoginojalaaGreatDoorRootW
namespace Go.Proofs.YtdmdaoginojalaaGreatDoor
open Go.RowKit

theorem pz_lt6 {v : Nat} (h : v < 2 ^ 64) : pz v < 2 ^ 64 := by unfold pz; split <;> omega
theorem IsRoot.lt5 {x d u : Nat} (h : IsRoot x d u) : d < 2 ^ 64 ∧ u < 2 ^ 64 := by
  have hil := Flt.inf_lt
  by_cases hw : Pos x
  · obtain ⟨r, h1, rfl, rfl⟩ := h.2 hw
    have := h1.1
    refine ⟨by omega, ?_⟩
    split <;> omega
  · obtain ⟨z, h1, rfl, rfl⟩ := h.1 hw
    exact ⟨h1.1, h1.1⟩
set_option maxRecDepth 100000 in
set_option maxHeartbeats 1600000 in
theorem span_sqrt_ok (la ha : Nat) (b1 : la < 2 ^ 64) (b2 : ha < 2 ^ 64) (ok : okS la ha = true) (h0 : 0 ≤ Flt.sv ha) (w : World) :
    Calls Tryz.prog 158 #[.agg #[.float .f64 la, .float .f64 ha]] w (RetSp w fun p => ∃ lo lu hd hi, IsRoot (pz (mx la 0)) lo lu ∧ IsRoot (pz ha) hd hi ∧ p = endsF lo hi) := by
  obtain ⟨f1, f2, _⟩ := okS_iff.1 ok
  have HOK := Lib.hid ok
  have o1 : (Ieee.double.order ha 0 == some .lt) = false := by
    rw [Flt.lt_spec (fun k => Flt.not_fin_nan k f2) nan_zero, sv_zero]
    exact decide_eq_false (by omega)
  have HMX : Hid (∀ z, IsSel mx la 0 z → z < 2 ^ 64 ∧ z = mx la 0 ∧ ∀ t, IsOp Ieee.double.add z 0 t → t = pz z) := Lib.hid (fun z hz => by
    have e := hz.2 (fun h => Flt.not_fin_nan h f1) nan_zero
    have fz : Flt.Fin z := by rw [e]; unfold mx; split <;> (try split) <;> (try split) <;> first | exact f1 | exact fin_zero
    exact ⟨hz.1, e, fun t => isOp_nought hz.1 fz⟩)
  have KH : Hid (∀ t, IsOp Ieee.double.add ha 0 t → t = pz ha) := Lib.hid (fun t => isOp_nought b2 f2)
  clear f1 f2 ok h0
  go_enter Tryz.func158, Tryz.ntmps158
  go_wp2_with fail
  refine (span_may_one5 (w.heap.size + 1 + 1) la ha _ b1 b2 (by simp) (by simp [go_sem]) (by simp [go_sem])).mono ?_
  rintro e1 w1 ⟨rfl, hb1⟩
  rw [HOK.out]
  have K1 := ((((Kept.nil w).two rfl _ _ _).two (g := w.heap.size + 1) (by simp) _ _ _).box _).next hb1
  have R1 := ((Free.new (w.alloc (.cells #[.float .f64 la, .float .f64 ha] 155)) (g := w.heap.size + 1) (by simp) (.float .f64 0) (.float .f64 0) 155).next ((Below.refl _ _).alloc (Nat.le_refl _) _)).next hb1
  clear hb1
  have a1 := (K1).2.1
  have c1 := (K1).2.2
  simp only [List.mem_cons, List.not_mem_nil, or_false, forall_eq_or_imp, forall_eq] at a1 c1
  go_wp2_with (first
    | (obtain ⟨z, n1, hrz, hz⟩ := run_fmax (P := Tryz.prog) w1 #[22, 22] 22 la 0 b1 (by decide); rw [hrz]; obtain ⟨z64, ez, K3⟩ := HMX.out z hz; have HK3 := Lib.hid K3; have HEZ := Lib.hid ez; clear hz hrz K3 ez)
    | (refine wpList_fadd _ rfl rfl ?_; intro t1 d1 hs1; have e3 := HK3.out _ hs1; subst e3; clear hs1 HK3))
  refine (rnd_sqrt_any (pz z) (pz_lt6 z64) _).mono ?_
  rintro e2 w2 ⟨lo, lu, rfl, hr2, hb2⟩
  have l64 := (IsRoot.lt5 hr2).1
  have K2 := K1.next (below_of_drewN hb2)
  have R2 := R1.next (below_of_drewN hb2)
  have HR2 := Lib.hid hr2
  clear a1 c1 hb2 hr2
  have a2 := (K2).2.1
  have c2 := (K2).2.2
  simp only [List.mem_cons, List.not_mem_nil, or_false, forall_eq_or_imp, forall_eq] at a2 c2
  go_wp2_with (refine wpList_fadd _ rfl rfl ?_; intro t2 d2 hs2; have e4 := KH.out _ hs2; subst e4; clear hs2 KH)
  refine (rnd_sqrt_any (pz ha) (pz_lt6 b2) _).mono ?_
  rintro e3 w3 ⟨hd, hi, rfl, hr3, hb3⟩
  have h64 := (IsRoot.lt5 hr3).2
  have K3 := K2.next (below_of_drewN hb3)
  have R3 := R2.next (below_of_drewN hb3)
  have HR3 := Lib.hid hr3
  clear a2 c2 hb3 hr3
  have a3 := (K3).2.1
  have c3 := (K3).2.2
  simp only [List.mem_cons, List.not_mem_nil, or_false, forall_eq_or_imp, forall_eq] at a3 c3
  go_wp2_with fail
  refine (span_ends_any lo hi l64 h64 _).mono ?_
  rintro e4 w4 ⟨rfl, hb4⟩
  have K4 := K3.next hb4
  have R4 := R3.next hb4
  clear a3 c3 hb4
  have a4 := (K4).2.1
  have c4 := (K4).2.2
  simp only [List.mem_cons, List.not_mem_nil, or_false, forall_eq_or_imp, forall_eq] at a4 c4
  obtain ⟨_, r0, r1⟩ := R4
  have i0 := c4.1
  have i1 := c4.2.1
  go_wp2_with fail
  exact bodyPost_ret (v := .tuple #[.agg #[.float .f64 (endsF lo hi).1, .float .f64 (endsF lo hi).2.1], .int .i64 (endsF lo hi).2.2]) (by simp [results, Tryz.results158, go_sem, i0, i1]) rfl
    ⟨endsF lo hi, ⟨lo, lu, hd, hi, by rw [← HEZ.out]; exact HR2.out, HR3.out, rfl⟩, rfl, below_result K4.1 (Nat.le_succ _) _ _⟩
end Go.Proofs.YtdmdaoginojalaaGreatDoor
