/-
  SpanTight: sums and products of single floats are as narrow as they may be.
-/
import Derived.Test.YtjcknikgfcjhhaaSpnM
import Derived.Test.YtjcknikgfcjhhaaBesP
import Derived.Test.YtjcknikgfcjhhaaSpnT
namespace Go.Proofs.Ytjcknikgfcjhhaa
open Go.RowKit

theorem Down.same {z : Int} {n d d' : Nat} (h : Down z n d) (k : Down z n d') (hn : 0 < n) : Flt.sv d = Flt.sv d' := Int.le_antisymm (h.mono k hn hn (Int.le_refl _)) (k.mono h hn hn (Int.le_refl _))
theorem Up.same {z : Int} {n d d' : Nat} (h : Up z n d) (k : Up z n d') (hn : 0 < n) : Flt.sv d = Flt.sv d' := Int.le_antisymm (h.mono k hn hn (Int.le_refl _)) (k.mono h hn hn (Int.le_refl _))
theorem dn_exists {num den r0 : Nat} (hd : 0 < den) (hn : Flt.Near num den r0) : ∃ r, Flt.Dn num den r := by
  rcases Nat.lt_or_ge r0 Flt.inf with hlt | hge
  · rcases Nat.lt_or_ge num (Flt.val r0 * den) with h1 | h1
    · have h0 : 0 < r0 := by
        rcases Nat.eq_zero_or_pos r0 with h2 | h2
        · rw [h2, Flt.val_zero, Nat.zero_mul] at h1; omega
        · exact h2
      exact ⟨_, (near_up hd hn h0 h1).1⟩
    · exact ⟨_, near_dn hd hn hlt h1⟩
  · have e : r0 = Flt.inf := by have := hn.1; omega
    subst e
    exact ⟨_, (near_inf hd hn).1⟩
theorem pz_lt5 {v : Nat} (h : v < 2 ^ 64) : pz v < 2 ^ 64 := by unfold pz; split <;> omega
theorem sgn_pz {v : Nat} (h : Flt.rg (pz v) = 0) : Flt.sgn (pz v) = false := by
  unfold pz at h ⊢
  split
  · rfl
  · rename_i h0
    rw [if_neg h0] at h
    exact absurd h h0
theorem nxt_nought {x : Nat} (h : Flt.rg x = 0) : nxt x true = 1 := by
  unfold nxt
  have : Flt.nanB x = false := by unfold Flt.nanB; exact decide_eq_false (by rw [h]; omega)
  rw [this, if_neg (by simp), if_pos h]
  rfl
/-- What is asked of a span about a float. -/
def TightP (lo hi near : Nat) : Prop :=
  ¬ Flt.Nan near ∧ (Flt.sv near = Flt.sv lo ∨ Flt.sv near = Flt.sv hi) ∧ (Flt.sv lo = Flt.sv hi ∨ ¬ Flt.Nan (nxt (pz lo) true) ∧ Flt.sv (nxt (pz lo) true) = Flt.sv hi)
theorem tight_of {s : Bool} {num den r0 lo hi : Nat} {z : Int} (hd : 0 < den) (hz : z = if s then -(num : Int) else num) (hn : Flt.Near num den r0) (h1 : Down z den lo) (h2 : Up z den hi) : TightP lo hi (Flt.word s r0) := by
  obtain ⟨r, hr⟩ := dn_exists hd hn
  obtain ⟨d, hdd⟩ : ∃ d, d = (if s then 2 ^ 63 + hiR num den r else r) := ⟨_, rfl⟩
  obtain ⟨u, huu⟩ : ∃ u, u = (if s then 2 ^ 63 + r else hiR num den r) := ⟨_, rfl⟩
  have hb : Brk s num den d u := ⟨r, hr, hdd, huu⟩
  obtain ⟨k1, k2⟩ := brk_down hd hz hb
  have e1 := h1.same k1 hd
  have e2 := h2.same k2 hd
  rcases brk_beside hd hb hn with ⟨n1, _, _⟩ | ⟨n1, n2, n3, hnear, hgap⟩
  · exact absurd n1 (down_not_nan k1)
  · refine ⟨n3, by rw [e1, e2]; exact hnear, ?_⟩
    rcases hgap with h | ⟨hlt, m1, m2, _, _⟩
    · exact .inl (by rw [e1, e2]; exact h)
    · right
      have en : nxt (pz lo) true = nxt d true := by
        by_cases h0 : Flt.sv lo = 0
        · have p0 : pz lo = 0 := by unfold pz; rw [if_pos (Flt.sv_zero_iff.1 h0)]
          rw [p0, nxt_nought (x := 0) rfl, nxt_nought (Flt.sv_zero_iff.1 (e1.symm.trans h0))]
        · have hld : lo = d := Flt.fin_eq h1.1 k1.1 e1 h0
          have p0 : pz lo = lo := by unfold pz; rw [if_neg (fun k => h0 (Flt.sv_zero_iff.2 k))]
          rw [p0, hld]
      rw [en, e2]
      exact ⟨m1, m2⟩
theorem tight_add {v x near lo hi : Nat} (hv : Flt.Fin v) (hx : Flt.Fin x) (hn : Flt.IsAdd v x near) (h1 : Down (Flt.sv v + Flt.sv x) 1 lo) (h2 : Up (Flt.sv v + Flt.sv x) 1 hi) : TightP lo hi near := by
  obtain ⟨z, hz, r, hw, hr⟩ := Flt.add_fin hv hx
  have a := hn.2
  rw [hz] at a
  have a : near = z := a
  rw [a, hw]
  refine tight_of (by omega) ?_ hr h1 h2
  by_cases h0 : Flt.sv v + Flt.sv x = 0
  · rw [if_pos h0, h0]; split <;> rfl
  · rw [if_neg h0]
    by_cases hneg : Flt.sv v + Flt.sv x < 0
    · rw [decide_eq_true hneg, if_pos rfl]; omega
    · rw [decide_eq_false hneg, if_neg (by simp)]; omega
theorem tight_mul {v x near lo hi : Nat} (hv : Flt.Fin v) (hx : Flt.Fin x) (hn : IsOp Ieee.double.mul v x near) (h1 : Down (Flt.sv v * Flt.sv x) (2 ^ Flt.K74) lo) (h2 : Up (Flt.sv v * Flt.sv x) (2 ^ Flt.K74) hi) : TightP lo hi near := by
  obtain ⟨r, hz, hr⟩ := Flt.mul_fin hv hx
  have a := hn.2
  rw [hz] at a
  have a : near = _ := a
  rw [a]
  exact tight_of (Nat.two_pow_pos _) (Flt.sv_mul v x) hr h1 h2
theorem add_tight {v x near : Nat} {p : Nat × Nat × Int} (hv : Flt.Fin v) (hx : Flt.Fin x) (hn : Flt.IsAdd v x near) (h : IsSpan true (addL v v x x) (addH v v x x) p) :
    p = (0, 0, 6) ∨ ∃ lo hi, p = (pz lo, pz hi, 0) ∧ Flt.Fin lo ∧ Flt.Fin hi ∧ lo < 2 ^ 64 ∧ hi < 2 ^ 64 ∧ TightP lo hi near := by
  obtain ⟨lo, hi, ⟨⟨c, hc, hd⟩, _⟩, ⟨⟨c', hc', hu⟩, _⟩, rfl⟩ := h.2 rfl
  unfold addL at hc
  unfold addH at hc'
  rw [List.mem_singleton] at hc hc'
  subst hc hc'
  by_cases hf : Flt.Fin lo ∧ Flt.Fin hi
  · right
    refine ⟨lo, hi, ?_, hf.1, hf.2, hd.1, hu.1, tight_add hv hx hn hd hu⟩
    unfold endsF
    rw [Flt.finB_iff.2 hf.1, Flt.finB_iff.2 hf.2]
    rfl
  · left
    unfold endsF
    rw [if_neg]
    intro k
    obtain ⟨k1, k2⟩ := Bool.and_eq_true_iff.1 k
    exact hf ⟨Flt.finB_iff.1 k1, Flt.finB_iff.1 k2⟩
theorem mem_mulC {v x : Nat} {c : Int × Nat} (h : c ∈ mulC v v x x) : c = (Flt.sv v * Flt.sv x, 2 ^ Flt.K74) := by
  simp only [mulC, List.mem_cons, List.not_mem_nil, or_false] at h
  rcases h with h | h | h | h <;> exact h
theorem mul_tight {v x near : Nat} {p : Nat × Nat × Int} (hv : Flt.Fin v) (hx : Flt.Fin x) (hn : IsOp Ieee.double.mul v x near) (h : IsSpan true (mulC v v x x) (mulC v v x x) p) :
    p = (0, 0, 6) ∨ ∃ lo hi, p = (pz lo, pz hi, 0) ∧ Flt.Fin lo ∧ Flt.Fin hi ∧ lo < 2 ^ 64 ∧ hi < 2 ^ 64 ∧ TightP lo hi near := by
  obtain ⟨lo, hi, ⟨⟨c, hc, hd⟩, _⟩, ⟨⟨c', hc', hu⟩, _⟩, rfl⟩ := h.2 rfl
  have e1 := mem_mulC hc
  have e2 := mem_mulC hc'
  subst e1 e2
  by_cases hf : Flt.Fin lo ∧ Flt.Fin hi
  · right
    refine ⟨lo, hi, ?_, hf.1, hf.2, hd.1, hu.1, tight_mul hv hx hn hd hu⟩
    unfold endsF
    rw [Flt.finB_iff.2 hf.1, Flt.finB_iff.2 hf.2]
    rfl
  · left
    unfold endsF
    rw [if_neg]
    intro k
    obtain ⟨k1, k2⟩ := Bool.and_eq_true_iff.1 k
    exact hf ⟨Flt.finB_iff.1 k1, Flt.finB_iff.1 k2⟩

/-! ### polestarlaw05.tight -/
set_option maxRecDepth 100000 in
theorem tight_inf (near : Nat) (w : World) : Calls Try.prog 23 #[.agg #[.float .f64 0, .float .f64 0], .int .i64 6, .float .f64 near] w (RetV w (.bool true)) := by
  have E : (Ieee.double.order 0 0 == some .eq) = true := by decide +kernel
  go_enter Try.func23, Try.ntmps23
  have EQ : ∀ W : World, (Op.equalIn 9999 22 (.float .f64 0) (.float .f64 0)).run Try.prog W = .ok true W := by
    intro W
    unfold Op.equalIn
    simp [go_sem]
    decide +kernel
  go_wp2_with fail
  go_ret
  exact ⟨rfl, (Below.refl _ _).alloc (Nat.le_refl _) _⟩
set_option maxRecDepth 100000 in
set_option maxHeartbeats 3200000 in
theorem tight_any (lo hi near : Nat) (b1 : lo < 2 ^ 64) (b2 : hi < 2 ^ 64) (f1 : Flt.Fin lo) (f2 : Flt.Fin hi) (hT : TightP lo hi near) (w : World) :
    Calls Try.prog 23 #[.agg #[.float .f64 (pz lo), .float .f64 (pz hi)], .int .i64 0, .float .f64 near] w (RetV w (.bool true)) := by
  obtain ⟨n1, n2, n3⟩ := hT
  rw [← sv_pz lo, ← sv_pz hi] at n2 n3
  have g1 := fin_pz f1
  have g2 := fin_pz f2
  have c1 : pz lo < 2 ^ 64 := pz_lt5 b1
  have c2 : pz hi < 2 ^ 64 := pz_lt5 b2
  have s1 : (Ieee.double.order (pz lo) 0 == some .eq) = true → Flt.sgn (pz lo) = false := fun h => by
    rw [Flt.eq_spec (fun k => Flt.not_fin_nan k g1) nan_zero, sv_zero] at h
    have := Flt.sv_zero_iff.1 (of_decide_eq_true h)
    rw [sgn_pz this]
  have s2 : (Ieee.double.order (pz hi) 0 == some .eq) = true → Flt.sgn (pz hi) = false := fun h => by
    rw [Flt.eq_spec (fun k => Flt.not_fin_nan k g2) nan_zero, sv_zero] at h
    have := Flt.sv_zero_iff.1 (of_decide_eq_true h)
    rw [sgn_pz this]
  obtain ⟨L, hL⟩ : ∃ L, pz lo = L := ⟨_, rfl⟩
  obtain ⟨H, hH⟩ : ∃ H, pz hi = H := ⟨_, rfl⟩
  rw [hL] at n2 n3 g1 c1 s1 ⊢
  rw [hH] at n2 n3 g2 c2 s2 ⊢
  clear hL hH b1 b2 f1 f2
  have hm : ((Ieee.double.order near L == some .eq) || (Ieee.double.order near H == some .eq)) = true := by
    rw [Flt.eq_spec n1 (fun k => Flt.not_fin_nan k g1), Flt.eq_spec n1 (fun k => Flt.not_fin_nan k g2), Bool.or_eq_true, decide_eq_true_iff, decide_eq_true_iff]
    exact n2
  have hq : (Ieee.double.order L H == some .eq) = true ∨ (Ieee.double.order L H == some .eq) = false ∧ (Ieee.double.order (nxt L true) H == some .eq) = true := by
    rw [Flt.eq_spec (fun k => Flt.not_fin_nan k g1) (fun k => Flt.not_fin_nan k g2)]
    by_cases h : Flt.sv L = Flt.sv H
    · exact .inl (decide_eq_true h)
    · right
      rcases n3 with h' | ⟨h1, h2⟩
      · exact absurd h' h
      · exact ⟨decide_eq_false h, by rw [Flt.eq_spec h1 (fun k => Flt.not_fin_nan k g2)]; exact decide_eq_true h2⟩
  obtain ⟨x1, hx1⟩ : ∃ x, (Ieee.double.order near L == some .eq) = x := ⟨_, rfl⟩
  obtain ⟨x2, hx2⟩ : ∃ x, (Ieee.double.order near H == some .eq) = x := ⟨_, rfl⟩
  obtain ⟨y1, hy1⟩ : ∃ x, (Ieee.double.order L 0 == some .eq) = x := ⟨_, rfl⟩
  obtain ⟨y2, hy2⟩ : ∃ x, (Ieee.double.order H 0 == some .eq) = x := ⟨_, rfl⟩
  rw [hx1, hx2] at hm
  rw [hy1] at s1
  rw [hy2] at s2
  have HG := Lib.hid g1
  have HS1 := Lib.hid s1
  have HS2 := Lib.hid s2
  have HMM := Lib.hid hm
  clear n1 n2 n3 g1 g2 s1 s2 hm
  rcases hq with q1 | ⟨q1, q2⟩
  · have r1 : (Ieee.double.order L H != some .eq) = false := by unfold bne; rw [q1]; rfl
    cases x1 <;> cases x2 <;> cases y1 <;> cases y2 <;>
    first
    | (exact absurd HMM.out Bool.false_ne_true)
    | (go_enter Try.func23, Try.ntmps23
       go_wp2_with fail
       go_quiet (fail)
       go_wp2_with (first | (go_at_call 50; (with_reducible refine (signbit_any L _).mono ?_); rintro e3 w3 ⟨rfl, rfl⟩; rw [HS1.out (by simp)]) | (go_at_call 50; (with_reducible refine (signbit_any H _).mono ?_); rintro e4 w4 ⟨rfl, rfl⟩; rw [HS2.out (by simp)]))
       go_ret
       exact ⟨rfl, below_drewN ((Below.refl _ _).alloc (Nat.le_refl _) _) _⟩)
  · have r1 : (Ieee.double.order L H != some .eq) = true := by unfold bne; rw [q1]; rfl
    have r2 : (Ieee.double.order (nxt L true) H != some .eq) = false := by unfold bne; rw [q2]; rfl
    cases x1 <;> cases x2 <;> cases y1 <;> cases y2 <;>
    first
    | (exact absurd HMM.out Bool.false_ne_true)
    | (go_enter Try.func23, Try.ntmps23
       go_wp2_with fail
       go_quiet (first | (go_at_call 49; exact Calls.quiet_of_same ((inf1_of _).mono fun _ _ h => ⟨h.1, h.2.symm⟩)) | (go_at_call 48; exact Calls.quiet_of_same ((nextafter_up L c1 HG.out _).mono fun _ _ h => ⟨h.1, h.2.symm⟩)))
       go_wp2_with (first | (go_at_call 50; (with_reducible refine (signbit_any L _).mono ?_); rintro e3 w3 ⟨rfl, rfl⟩; rw [HS1.out (by simp)]) | (go_at_call 50; (with_reducible refine (signbit_any H _).mono ?_); rintro e4 w4 ⟨rfl, rfl⟩; rw [HS2.out (by simp)]))
       go_ret
       exact ⟨rfl, below_drewN ((Below.refl _ _).alloc (Nat.le_refl _) _) _⟩)
end Go.Proofs.Ytjcknikgfcjhhaa
