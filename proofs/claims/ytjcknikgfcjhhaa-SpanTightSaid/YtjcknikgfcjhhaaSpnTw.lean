/-
  SpanTight: the walk.
-/
import Derived.Test.YtjcknikgfcjhhaaSpnTp
namespace Go.Proofs.Ytjcknikgfcjhhaa
open Go.RowKit

theorem upon_fop5 {P : Program} {w : World} {o : Oper} {a : Act} {next : Act → World → Prop} {Q : Exit → Act → World → Prop} {t : TypeId} {x y : Nat} (op : BinOp) (f : Nat → Nat → Option Nat)
    (hf : (op = .add ∧ f = Ieee.double.add) ∨ (op = .sub ∧ f = Ieee.double.sub) ∨ (op = .mul ∧ f = Ieee.double.mul) ∨ (op = .quo ∧ f = Ieee.double.div))
    (hK : ∀ z n, IsOp f x y z → next (a.put o.dst (.float .f64 z)) (w.drewN n)) :
    o.upon P a next Q (((binOp op t (.float .f64 x) (.float .f64 y)).run P w).andThen fun v w' => .ok (.value v) w') := by
  obtain ⟨z, n, hrun, hz⟩ := run_fop (P := P) w op f hf t x y
  rw [hrun]
  exact hK z n hz
theorem okS_self {v : Nat} (h : Flt.Fin v) : okS v v = true := okS_iff.2 ⟨h, h, Int.le_refl _⟩
theorem tight_call {p : Nat × Nat × Int} {near : Nat} (h : p = (0, 0, 6) ∨ ∃ lo hi, p = (pz lo, pz hi, 0) ∧ Flt.Fin lo ∧ Flt.Fin hi ∧ lo < 2 ^ 64 ∧ hi < 2 ^ 64 ∧ TightP lo hi near) (W : World) :
    Calls Try.prog 23 #[.agg #[.float .f64 p.1, .float .f64 p.2.1], .int .i64 p.2.2, .float .f64 near] W (RetV W (.bool true)) := by
  rcases h with rfl | ⟨lo, hi, rfl, f1, f2, b1, b2, hT⟩
  · exact tight_inf near W
  · exact tight_any lo hi near b1 b2 f1 f2 hT W
theorem bne_sub {v t : Nat} (h : IsOp Ieee.double.sub v v t) : (Ieee.double.order t 0 != some .eq) = !Flt.finB v := by
  unfold bne
  rw [sub_self h]

set_option maxRecDepth 100000 in
set_option maxHeartbeats 1600000 in
theorem law_spanTight (v x : Nat) (hv : v < 2 ^ 64) (hx : x < 2 ^ 64) (w : World) :
    Calls Try.prog 6 #[.float .f64 v, .float .f64 x] w (RetV w (.bool true)) := by
  have KV : Hid (∀ t, IsOp Ieee.double.sub v v t → (Ieee.double.order t 0 != some .eq) = !Flt.finB v) := Lib.hid (fun t h => bne_sub h)
  have KX : Hid (∀ t, IsOp Ieee.double.sub x x t → (Ieee.double.order t 0 != some .eq) = !Flt.finB x) := Lib.hid (fun t h => bne_sub h)
  cases h1 : Flt.finB v with
  | false =>
    rw [h1] at KV
    go_enter Try.func6, Try.ntmps6
    go_wp2_with (first | (refine wpList_fsub _ rfl rfl ?_; intro t1 d1 hs1; have e1 := KV.out _ hs1; clear hs1 KV))
    refine (lives05 _).mono ?_
    rintro e2 w2 ⟨rfl, hb2⟩
    go_wp2_with fail
    go_ret
    exact ⟨rfl, below_of_drewN hb2⟩
  | true =>
    cases h2 : Flt.finB x with
    | false =>
      rw [h1] at KV
      rw [h2] at KX
      go_enter Try.func6, Try.ntmps6
      go_wp2_with (first | (refine wpList_fsub _ rfl rfl ?_; intro t1 d1 hs1; have e1 := KV.out _ hs1; clear hs1 KV))
      refine upon_fop5 .sub _ (.inr (.inl ⟨rfl, rfl⟩)) ?_
      intro t2 d2 hs2
      have e2 := KX.out _ hs2
      clear hs2 KX
      go_wp2_with fail
      refine (lives05 _).mono ?_
      rintro e2 w2 ⟨rfl, hb2⟩
      go_wp2_with fail
      go_ret
      exact ⟨rfl, below_of_drewN hb2⟩
    | true =>
      have fv := Flt.finB_iff.1 h1
      have fx := Flt.finB_iff.1 h2
      have HOK : Hid ((okS v v && okS x x) = true) := Lib.hid (by rw [okS_self fv, okS_self fx]; rfl)
      obtain ⟨z1, ha1, r1, hw1, hr1⟩ := Flt.add_fin fv fx
      have hz1 : Flt.IsAdd v x z1 := ⟨by rw [hw1]; exact Flt.word_lt _ (Flt.near_lt hr1), by rw [ha1]⟩
      obtain ⟨r2, hm2, hr2⟩ := Flt.mul_fin fv fx
      obtain ⟨z2, hz2e⟩ : ∃ z, z = Flt.word (Flt.sgn v ^^ Flt.sgn x) r2 := ⟨_, rfl⟩
      rw [← hz2e] at hm2
      have hz2 : IsOp Ieee.double.mul v x z2 := ⟨by rw [hz2e]; exact Flt.word_lt _ (Flt.near_lt hr2), by rw [hm2]⟩
      have KA : Hid (∀ t, IsOp Ieee.double.add v x t → t = z1) := Lib.hid (fun t h => by have := h.2; rw [ha1] at this; exact this)
      have KM : Hid (∀ t, IsOp Ieee.double.mul v x t → t = z2) := Lib.hid (fun t h => by have := h.2; rw [hm2] at this; exact this)
      have HA := Lib.hid hz1
      have HM := Lib.hid hz2
      have FV := Lib.hid fv
      have FX := Lib.hid fx
      rw [h1] at KV
      rw [h2] at KX
      clear hw1 hr1 ha1 hm2 hr2 hz2e hz1 hz2 fv fx
      go_enter Try.func6, Try.ntmps6
      go_wp2_with (first | (refine wpList_fsub _ rfl rfl ?_; intro t1 d1 hs1; have e1 := KV.out _ hs1; clear hs1 KV))
      refine upon_fop5 .sub _ (.inr (.inl ⟨rfl, rfl⟩)) ?_
      intro t2 d2 hs2
      have e2 := KX.out _ hs2
      clear hs2 KX
      generalize hW : (w.drewN d1).drewN d2 = W
      have K0 : Kept w [] W := by rw [← hW]; exact ((Kept.nil w).drewN d1).drewN d2
      clear hW
      go_wp2_with fail
      refine (span_add_any v v x x hv hv hx hx _).mono ?_
      rintro e3 w3 ⟨⟨p0, p1, p2⟩, hp, rfl, hb3⟩
      rw [HOK.out] at hp
      have HT1 := Lib.hid (tight_call (add_tight FV.out FX.out HA.out hp))
      clear hp
      have K3 := ((K0.two rfl _ _ _).two (g := W.heap.size + 1) (by simp) _ _ _).next hb3
      have a3 := (K3).2.1
      have c3 := (K3).2.2
      simp only [List.mem_cons, List.not_mem_nil, or_false, forall_eq_or_imp, forall_eq] at a3 c3
      clear hb3
      go_wp2_with fail
      refine (span_mul_any v v x x hv hv hx hx _).mono ?_
      rintro e4 w4 ⟨⟨q0, q1, q2⟩, hp, rfl, hb4⟩
      rw [HOK.out] at hp
      have HT2 := Lib.hid (tight_call (mul_tight FV.out FX.out HM.out hp))
      clear hp
      have K4 := (K3.two rfl _ _ _).next hb4
      have K5 := K4.two rfl (.float .f64 q0) (.float .f64 q1) 24
      clear a3 c3 hb4
      have a5 := (K5).2.1
      have c5 := (K5).2.2
      simp only [List.mem_cons, List.not_mem_nil, or_false, forall_eq_or_imp, forall_eq] at a5 c5
      go_wp2_with (first | (refine wpList_fadd _ rfl rfl ?_; intro t3 d3 hs3; have e3 := KA.out _ hs3; subst e3; clear hs3 KA))
      refine (HT1.out _).mono ?_
      rintro e5 w5 ⟨rfl, hb5⟩
      have K6 := (K5.drewN d3).next hb5
      clear a5 c5 hb5
      have a6 := (K6).2.1
      have c6 := (K6).2.2
      simp only [List.mem_cons, List.not_mem_nil, or_false, forall_eq_or_imp, forall_eq] at a6 c6
      go_wp2_with fail
      refine upon_fop5 .mul _ (.inr (.inr (.inl ⟨rfl, rfl⟩))) ?_
      intro t4 d4 hs4
      have e4 := KM.out _ hs4
      subst e4
      clear hs4 KM
      go_wp2_with fail
      refine (HT2.out _).mono ?_
      rintro e6 w6 ⟨rfl, hb6⟩
      have K7 := (K6.drewN d4).next hb6
      clear a6 c6 hb6
      go_wp2_with fail
      refine (lives05 _).mono ?_
      rintro e7 w7 ⟨rfl, hb7⟩
      have K8 := K7.next hb7
      go_wp2_with fail
      go_ret
      exact ⟨rfl, K8.1⟩
end Go.Proofs.Ytjcknikgfcjhhaa
