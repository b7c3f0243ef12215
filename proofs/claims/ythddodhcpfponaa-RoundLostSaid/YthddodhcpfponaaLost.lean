/-
  RoundLost: the sum of any two, and what it has lost.
-/
import Derived.Test.YthddodhcpfponaaSame
import Derived.Test.YthddodhcpfponaaFrame
import Derived.Test.YthddodhcpfponaaRows
import Derived.ProofKit
namespace Go.Proofs.Ythddodhcpfponaa
open Go.ChangeShapes Go.WideShapes Go.ChangeAt Go.RowKit

set_option maxHeartbeats 800000 in
theorem law_lost (x y : Nat) (hx : x < 2 ^ 64) (hy : y < 2 ^ 64) (w : World) : Calls Try.prog 3 #[.float .f64 x, .float .f64 y] w fun e w' => e = .returned (.bool true) ∧ Below w.heap.size w w' := by
  go_enter Try.func3, Try.ntmps3
  go_wp2_with fail
  refine (rnd_two_any x y hx hy _).mono ?_
  rintro e1 w1 ⟨s, l, rfl, h1, hb1⟩
  have H1 := Lib.hid h1
  clear h1
  go_wp2_with fail
  refine (ref_two_any x y hx hy _).mono ?_
  rintro e2 w2 ⟨t, m, rfl, h2, hb2⟩
  have hs := H1.out.same h2
  have HS : Hid ((Flt.sameB s t && Flt.sameB l m) = true) := Lib.hid (by rw [Flt.sameB_iff.2 hs.1, Flt.sameB_iff.2 hs.2]; rfl)
  clear h2 hs
  go_wp2_with (go_at_call 12; refine (law_same _ _ _ _ _).mono ?_; rintro e3 w3 ⟨rfl, rfl⟩; rw [HS.out])
  go_ret
  exact ⟨rfl, below_next hb1 hb2⟩

theorem Try.own : ownKnob Try.prog.godebug = none := by kernel_rfl

set_option maxRecDepth 100000 in
theorem lost_lifted (os : Os) (started : os.Started) (H : Type) (enc : TypeId × Value → H) :
    ReturnsInHanded {} Try.checked os 3 .any (Rows.roundLostSpec.pre6 enc Try.prog Try.f3 Rows.roundLostRow.domain false) (Rows.roundLostSpec.post enc Try.prog Try.f3 false true false false) := by
  refine returnsInHanded_of_change (C := Try.checked) Try.own started (by kernel_rfl) Try.func3
    (ChangeSpec.witness6 (enc := enc) (C := Try.checked) false ⟨#[], #[.float .f64 0, .float .f64 0], []⟩ 8 (by kernel_rfl) (by kernel_rfl) (by kernel_rfl) (by kernel_rfl)) ?_
  intro W base args ds gs before hval0 hW hcnd _
  have hval : ∀ (j : Nat) t v, Try.f3.params[j]? = some t → args[j]? = some v → Value.okWide Try.prog W .any base t v := hval0
  have hW' := hW
  obtain ⟨p, q, hA0, hV, rfl, hfz, hnd⟩ := hW
  have hA : DataW.TrodAll enc Try.prog W 0 (fun _ => true) true Try.f3.params.toList args.toList ds p := hA0
  rw [Try.params3] at hA hval
  obtain ⟨v0, v1, d0, d1, p0, p1, rfl, rfl, rfl, h0, h1⟩ := trodAll_two hA
  obtain ⟨rfl, rfl⟩ := trodVars_none hV
  obtain ⟨a, rfl, rfl, rfl, wa⟩ := open_float Try.underlying22 (hval 0 22 v0 rfl rfl) h0
  obtain ⟨b, rfl, rfl, rfl, wb⟩ := open_float Try.underlying22 (hval 1 22 v1 rfl rfl) h1
  clear hA0 hval0
  simp only [List.append_nil] at hW'
  have ha : a < 2 ^ 64 := by simpa [Lit.wf] using wa
  have hb : b < 2 ^ 64 := by simpa [Lit.wf] using wb
  refine (law_lost a b ha hb W).mono fun e W' ⟨he, hw⟩ => ?_
  subst he
  refine ⟨_, rfl, post_of_below (pa := []) (pv := []) hW' (fun _ _ _ => ?_) (fun sp _ => trodAll_mk2 (shut_float Try.underlying22 wa) (shut_float Try.underlying22 wb)) (fun _ _ => rfl) rfl hw ?_⟩
  · have e1 : (Rows.roundLostSpec.fn H ([.lit (.float .f64 a), .lit (.float .f64 b)] ++ [])).results = [.lit (.bool true)] := rfl
    rw [e1]
    exact trodAll_mk1 (shut_bool Try.underlying4 _)
  · intro j t x hj hr
    rw [show Try.f3.resultTypes = #[4] by kernel_rfl] at hj hr
    match j, hj, hr with
    | 0, hj, hr =>
      simp [Value.resultList] at hj hr
      subst hj; subst hr
      exact okWide_bool_mk Try.underlying4 _

theorem roundLost_proved : Rows.RoundLostSaid :=
  OpenClaim.holds_of_wide 3 Try.f3 rfl rfl rfl rfl rfl rfl rfl ⟨rfl, rfl, rfl, rfl, rfl⟩ rfl rfl rfl rfl rfl (by kernel_rfl) Try.func3 (by kernel_rfl)
    (of_decide_eq_true (by kernel_rfl)) (by unfold Func.isWrapper; rw [if_neg (by decide +kernel)]; exact ⟨rfl, rfl⟩)
    (fun os started H enc _ => lost_lifted os started H enc)
end Go.Proofs.Ythddodhcpfponaa
