/-
  ModeKept: for every input the statement answers true; the input reads as it did.
-/
import Derived.Test.YtgafjnfplgfajaaGreatKlW
import Derived.Test.YtgafjnfplgfajaaGreatFrmF
import Derived.Test.YtgafjnfplgfajaaGreatRows
namespace Go.Proofs.YtgafjnfplgfajaaGreat
open Go.ChangeShapes Go.WideShapes Go.ChangeAt Go.RowKit

theorem Tryz.ownModeKept : ownKnob Tryz.prog.godebug = none := by kernel_rfl
theorem Tryz.laidOutModeKept : laidOutB Tryz.prog = true := by kernel_rfl
theorem Tryz.readsModeKept : ∀ t ∈ [28, 30], Tryz.prog.readableRec t = true ∧ t < Tryz.prog.types.size := by
  intro t ht
  simp only [List.mem_cons, List.not_mem_nil, or_false] at ht
  rcases ht with rfl | rfl
  · exact ⟨by kernel_rfl, by decide +kernel⟩
  · exact ⟨by kernel_rfl, by decide +kernel⟩

set_option maxRecDepth 100000 in
theorem modeKept_lifted (os : Os) (started : os.Started) (H : Type) (enc : TypeId × Value → H) :
    ReturnsInHanded {} Tryz.checked os 3 .any (Rows.modeKeptSpec.pre6 enc Tryz.prog Tryz.f3 Rows.modeKeptRow.domain false) (Rows.modeKeptSpec.post enc Tryz.prog Tryz.f3 false true false false) := by
  refine returnsInHanded_of_change_sized (C := Tryz.checked) Tryz.ownModeKept started (by kernel_rfl) Tryz.func3
    (ChangeSpec.witness6 (enc := enc) (C := Tryz.checked) false ⟨#[], #[.agg #[.bool false, .slice none 0 0, .bool false, .slice none 0 0, .bool false, .slice none 0 0, .bool false, .slice none 0 0, .bool false, .slice none 0 0, .bool false, .slice none 0 0, .bool false, .slice none 0 0, .bool false, .slice none 0 0], .agg #[.bool false, .slice none 0 0, .bool false, .slice none 0 0, .bool false, .slice none 0 0, .bool false, .slice none 0 0]], []⟩ 8 (by kernel_rfl) (by kernel_rfl) (by kernel_rfl) (by kernel_rfl)) ?_
  intro W base args ds gs before hval0 hW hcnd hsz0 _
  have hval : ∀ (j : Nat) t v, Tryz.f3.params[j]? = some t → args[j]? = some v → Value.okWide Tryz.prog W .any base t v := hval0
  have hsz : (DataW.weightsEach Tryz.prog (Tryz.f3.params.toList ++ Rows.modeKeptSpec.plain.varTypes Tryz.prog) (ds ++ gs)).all (· ≤ reachBytes) = true := hsz0
  have hW' := hW
  have hlt := hW.lt
  obtain ⟨p, q, hA0, hV, rfl, hfz, hnd⟩ := hW
  have hA : DataW.TrodAll enc Tryz.prog W 0 (fun _ => true) true Tryz.f3.params.toList args.toList ds p := hA0
  rw [Tryz.params3] at hA hval hsz
  have hA2 := hA
  obtain ⟨v0, v1, d0, d1, p0, p1, rfl, rfl, hp, h0, h1⟩ := trodAll_two hA
  obtain ⟨rfl, rfl⟩ := trodVars_none hV
  obtain ⟨cs0, hcs0, _⟩ := okWide_struct Tryz.underlying28 (hval 0 28 v0 rfl rfl)
  obtain ⟨cs1, hcs1, _⟩ := okWide_struct Tryz.underlying30 (hval 1 30 v1 rfl rfl)
  obtain ⟨sa, Aa, na, ca, la, za, Ba, ma, da, ka, sb, Ab, nb, cb, lb, zb, Bb, mb, db, kb, sc, Ac, nc, cc, lc, zc, Bc, mc, dc, kc, sd, Ad, nd, cd, ld, zd, Bd, md, dd, kd, rfl, ha, ia, hb, ib, hc, ic, hd, id, hm0⟩ := open_matrix h0 ⟨cs0, hcs0⟩
  obtain ⟨su, Au, nu, cu, lu, zu, Bu, mu, du, ku, sv, Av, nv, cv, lv, zv, Bv, mv, dv, kv, rfl, hu, iu, hv, iv, hm1⟩ := open_gauss h1 ⟨cs1, hcs1⟩
  simp only [List.append_nil] at hW' hlt
  have hw0 : (d0.weights Tryz.prog 28).all (· ≤ reachBytes) = true := by
    rw [List.all_eq_true] at hsz ⊢
    intro x hx
    exact hsz x (DataW.weights_mem_each (j := 0) rfl rfl x hx)
  have hw1 : (d1.weights Tryz.prog 30).all (· ≤ reachBytes) = true := by
    rw [List.all_eq_true] at hsz ⊢
    intro x hx
    exact hsz x (DataW.weights_mem_each (j := 1) rfl rfl x hx)
  obtain ⟨wa, ya, wb, yb, wc, yc, wd, yd⟩ := hm0 hw0
  obtain ⟨wu, yu, wv, yv⟩ := hm1 hw1
  refine (law_modeKept sa Aa na ca la za Ba ma da ka sb Ab nb cb lb zb Bb mb db kb sc Ac nc cc lc zc Bc mc dc kc sd Ad nd cd ld zd Bd md dd kd su Au nu cu lu zu Bu mu du ku sv Av nv cv lv zv Bv mv dv kv W ha ia wa ya hb ib wb yb hc ic wc yc hd id wd yd hu iu wu yu hv iv wv yv).mono fun e W' ⟨he, hw⟩ => ?_
  subst he
  refine ⟨_, rfl, post_of_below (pa := p) (pv := []) hW' (fun _ _ _ => ?_) (fun sp hsp => ?_) (fun _ _ => rfl) (by simp) hw ?_⟩
  · have e1 : (Rows.modeKeptSpec.fn H ([d0, d1] ++ [])).results = [.lit (.bool true)] := rfl
    rw [e1]
    exact trodAll_mk1 (shut_bool Tryz.underlying4 _)
  · exact trodAll_later Tryz.laidOutModeKept hw _ _ _ _ Tryz.readsModeKept hA2 hlt hsp
  · intro j t x hj hr
    rw [show Tryz.f3.resultTypes = #[4] by kernel_rfl] at hj hr
    match j, hj, hr with
    | 0, hj, hr =>
      simp [Value.resultList] at hj hr
      subst hj; subst hr
      exact okWide_bool_mk Tryz.underlying4 _

theorem modeKept_proved : Rows.ModeKeptSaid :=
  OpenClaim.holds_of_wide 3 Tryz.f3 rfl rfl rfl rfl rfl rfl rfl ⟨rfl, rfl, rfl, rfl, rfl⟩ rfl rfl rfl rfl rfl (by kernel_rfl) Tryz.func3 (by kernel_rfl)
    (of_decide_eq_true (by kernel_rfl)) (by unfold Func.isWrapper; rw [if_neg (by decide +kernel)]; exact ⟨rfl, rfl⟩)
    (fun os started H enc _ => modeKept_lifted os started H enc)
end Go.Proofs.YtgafjnfplgfajaaGreat
