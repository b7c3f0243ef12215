/-
  Spans: the walks of package span and of its reference (floats alone).
-/
import Derived.Test.YtdmdaoginojalaaGreatDoorSpnP
namespace Go.Proofs.YtdmdaoginojalaaGreatDoor
open Go.RowKit

theorem span_finite_any (x : Nat) (hx : x < 2 ^ 64) (w : World) : Calls Tryz.prog 337 #[.float .f64 x] w fun e w' => e = .returned (.bool (Flt.finB x)) ∧ w = w' := by
  cases h : Flt.nanB x with
  | true =>
    have HF : Hid (Flt.finB x = false) := Lib.hid (by rw [Flt.finB_eq, h]; rfl)
    rw [HF.out]
    go_enter Tryz.func337, Tryz.ntmps337
    go_wp2_with (first | (go_at_call 341; refine (isNaN_any _ _).mono ?_; rintro e w' ⟨rfl, rfl⟩; rw [h]) | (go_at_call 342; refine (isInf0_any _ hx _).mono ?_; rintro e w' ⟨rfl, rfl⟩))
    go_ret
    exact ⟨rfl, rfl⟩
  | false =>
    have HF : Hid (Flt.finB x = !Flt.infB x) := Lib.hid (by rw [Flt.finB_eq, h]; rfl)
    rw [HF.out]
    go_enter Tryz.func337, Tryz.ntmps337
    go_wp2_with (first | (go_at_call 341; refine (isNaN_any _ _).mono ?_; rintro e w' ⟨rfl, rfl⟩; rw [h]) | (go_at_call 342; refine (isInf0_any _ hx _).mono ?_; rintro e w' ⟨rfl, rfl⟩))
    go_ret
    exact ⟨rfl, rfl⟩

/-- Spans in memory, one behind the other. -/
def InSpans (w : World) (g : Nat) (l : List (Nat × Nat)) : Prop :=
  g < w.heap.size ∧ ∀ i (h : i < l.length), w.cell? ⟨g, i * 2, none⟩ = some (.float .f64 l[i].1) ∧ w.cell? ⟨g, i * 2 + 1, none⟩ = some (.float .f64 l[i].2) ∧ l[i].1 < 2 ^ 64 ∧ l[i].2 < 2 ^ 64

set_option maxHeartbeats 800000 in
theorem span_may_any (g : Nat) (l : List (Nat × Nat)) (w : World) (h : InSpans w g l) (hn : l.length ≤ 1000) :
    Calls Tryz.prog 266 #[.slice (some ⟨g, 0, none⟩) l.length l.length] w fun e w' => e = .returned (.bool (l.all fun p => okS p.1 p.2)) ∧ Below w.heap.size w w' := by
  obtain ⟨n, hnl⟩ : ∃ n, l.length = n := ⟨_, rfl⟩
  have HN := Lib.hid hnl
  rw [hnl] at hn ⊢
  have HI := Lib.hid h
  have hg := h.1
  clear h hnl
  go_enter Tryz.func266, Tryz.ntmps266
  go_wp2
  go_loopw [7] (fun i wr => ∃ k : Nat, i = .int .i64 (k : Int) ∧ k ≤ n ∧ Hid (∀ j (h : j < l.length), j < k → okS l[j].1 l[j].2 = true) ∧ Below w.heap.size w wr) (fun i _ => n - (intOf i).toNat)
  case atStart => exact ⟨0, rfl, Nat.zero_le _, Lib.hid (fun j h hj => by omega), Below.refl _ _⟩
  case round =>
    obtain ⟨k, rfl, hk, HJ, hb⟩ := hrel
    by_cases hkn : k = n
    · subst hkn
      have HF : Hid ((l.all fun p => okS p.1 p.2) = true) := Lib.hid (List.all_eq_true.2 (fun p hp => by
        obtain ⟨j, hj, rfl⟩ := List.getElem_of_mem hp
        exact HJ.out j hj (by have := HN.out; omega)))
      go_wp2_with fail
      go_ret
      exact ⟨by rw [HF.out]; rfl, hb⟩
    · have hkl : k < l.length := by have := HN.out; omega
      obtain ⟨c0, c1, b0, b1⟩ := HI.out.2 k hkl
      have d0 : wr.cell? ⟨g, k * 2, none⟩ = some (.float .f64 l[k].1) := (hb.cell (p := ⟨g, k * 2, none⟩) hg).trans c0
      have d1 : wr.cell? ⟨g, k * 2 + 1, none⟩ = some (.float .f64 l[k].2) := (hb.cell (p := ⟨g, k * 2 + 1, none⟩) hg).trans c1
      obtain ⟨lo, hlo⟩ : ∃ v, l[k].1 = v := ⟨_, rfl⟩
      obtain ⟨hi, hhi⟩ : ∃ v, l[k].2 = v := ⟨_, rfl⟩
      rw [hlo] at d0 b0
      rw [hhi] at d1 b1
      have HLO := Lib.hid hlo
      have HHI := Lib.hid hhi
      clear c0 c1 hlo hhi
      have hkn' : k < n := by omega
      clear hkn
      have hfalse : okS lo hi = false → Hid ((l.all fun p => okS p.1 p.2) = false) := fun h => Lib.hid (List.all_eq_false.2 ⟨l[k], List.getElem_mem hkl, by rw [HLO.out, HHI.out, h]; simp⟩)
      cases h1 : Flt.finB lo with
      | false =>
        have HF := hfalse (by unfold okS; rw [h1]; rfl)
        clear hfalse
        go_wp2_with (first | (go_at_call 337; (with_reducible refine (span_finite_any lo b0 _).mono ?_); rintro e1 w1 ⟨rfl, rfl⟩; rw [h1]) | (go_at_call 337; (with_reducible refine (span_finite_any hi b1 _).mono ?_); rintro e2 w2 ⟨rfl, rfl⟩; rw [h2]))
        go_ret
        exact ⟨by rw [HF.out]; rfl, hb.alloc hb.size _⟩
      | true =>
        cases h2 : Flt.finB hi with
        | false =>
          have HF := hfalse (by unfold okS; rw [h1, h2]; rfl)
          clear hfalse
          go_wp2_with (first | (go_at_call 337; (with_reducible refine (span_finite_any lo b0 _).mono ?_); rintro e1 w1 ⟨rfl, rfl⟩; rw [h1]) | (go_at_call 337; (with_reducible refine (span_finite_any hi b1 _).mono ?_); rintro e2 w2 ⟨rfl, rfl⟩; rw [h2]))
          go_ret
          exact ⟨by rw [HF.out]; rfl, hb.alloc hb.size _⟩
        | true =>
          cases h3 : (Ieee.double.order lo hi == some .gt) with
          | true =>
            have HF := hfalse (by unfold okS; rw [h1, h2, h3]; rfl)
            clear hfalse
            go_wp2_with (first | (go_at_call 337; (with_reducible refine (span_finite_any lo b0 _).mono ?_); rintro e1 w1 ⟨rfl, rfl⟩; rw [h1]) | (go_at_call 337; (with_reducible refine (span_finite_any hi b1 _).mono ?_); rintro e2 w2 ⟨rfl, rfl⟩; rw [h2]))
            go_ret
            exact ⟨by rw [HF.out]; rfl, hb.alloc hb.size _⟩
          | false =>
            have HT : Hid (okS lo hi = true) := Lib.hid (by unfold okS; rw [h1, h2, h3]; rfl)
            clear hfalse
            go_wp2_with (first | (go_at_call 337; (with_reducible refine (span_finite_any lo b0 _).mono ?_); rintro e1 w1 ⟨rfl, rfl⟩; rw [h1]) | (go_at_call 337; (with_reducible refine (span_finite_any hi b1 _).mono ?_); rintro e2 w2 ⟨rfl, rfl⟩; rw [h2]))
            go_roundw
            case rel =>
              refine ⟨k + 1, by go_num, by omega, Lib.hid (fun j hj hjk => ?_), hb.alloc hb.size _⟩
              rcases Nat.lt_or_ge j k with hlt | hge
              · exact HJ.out j hj hlt
              · have : j = k := by omega
                subst this
                rw [HLO.out, HHI.out]; exact HT.out
            case measure => simp [intOf]; omega

/-- A span and an error are answered. -/
def RetSpan (W : World) (lo hi : Nat) (v : Value) (e : Ending) (w' : World) : Prop := e = .returned (.tuple #[.agg #[.float .f64 lo, .float .f64 hi], v]) ∧ Below W.heap.size W w'

set_option maxRecDepth 100000 in
set_option maxHeartbeats 800000 in
theorem span_ends_ok (lo hi : Nat) (hlo : lo < 2 ^ 64) (hhi : hi < 2 ^ 64) (w : World) (h1 : Flt.Fin lo) (h2 : Flt.Fin hi) :
    Calls Tryz.prog 267 #[.float .f64 lo, .float .f64 hi] w (RetSpan w (pz lo) (pz hi) (.int .i64 0)) := by
  have f1 := Flt.finB_iff.2 h1
  have f2 := Flt.finB_iff.2 h2
  have K1 : Hid (∀ t, IsOp Ieee.double.add lo 0 t → t = pz lo) := Lib.hid (fun t => isOp_nought hlo h1)
  have K2 : Hid (∀ t, IsOp Ieee.double.add hi 0 t → t = pz hi) := Lib.hid (fun t => isOp_nought hhi h2)
  clear h1 h2
  go_enter Tryz.func267, Tryz.ntmps267
  go_wp2_with (first | (go_at_call 337; (with_reducible refine (span_finite_any lo hlo _).mono ?_); rintro e1 w1 ⟨rfl, rfl⟩; rw [f1]) | (go_at_call 337; (with_reducible refine (span_finite_any hi hhi _).mono ?_); rintro e2 w2 ⟨rfl, rfl⟩; rw [f2]) | (refine wpList_fadd _ rfl rfl ?_; intro t1 d1 hs1; have e1 := K1.out _ hs1; subst e1; clear hs1 K1) | (refine wpList_fadd _ rfl rfl ?_; intro t2 d2 hs2; have e2 := K2.out _ hs2; subst e2; clear hs2 K2))
  exact bodyPost_ret (v := .tuple #[.agg #[.float .f64 (pz lo), .float .f64 (pz hi)], .int .i64 0]) (by simp [results, Tryz.results267, go_sem]) rfl
    ⟨rfl, below_result (below_drewN ((Below.refl _ _).alloc (Nat.le_refl _) _) _) (Nat.le_refl _) _ _⟩

set_option maxRecDepth 100000 in
set_option maxHeartbeats 800000 in
theorem span_ends_no (lo hi : Nat) (hlo : lo < 2 ^ 64) (hhi : hi < 2 ^ 64) (w : World) (h : ¬ (Flt.Fin lo ∧ Flt.Fin hi)) :
    Calls Tryz.prog 267 #[.float .f64 lo, .float .f64 hi] w (RetSpan w 0 0 (.int .i64 6)) := by
  cases f1 : Flt.finB lo with
  | false =>
    clear h
    go_enter Tryz.func267, Tryz.ntmps267
    go_wp2_with (first | (go_at_call 337; (with_reducible refine (span_finite_any lo hlo _).mono ?_); rintro e1 w1 ⟨rfl, rfl⟩; rw [f1]))
    exact bodyPost_ret (v := .tuple #[.agg #[.float .f64 0, .float .f64 0], .int .i64 6]) (by simp [results, Tryz.results267, go_sem]) rfl ⟨rfl, (Below.refl _ _).alloc (Nat.le_refl _) _⟩
  | true =>
    have f2 : Flt.finB hi = false := Flt.finB_false.2 (fun k => h ⟨Flt.finB_iff.1 f1, k⟩)
    clear h
    go_enter Tryz.func267, Tryz.ntmps267
    go_wp2_with (first | (go_at_call 337; (with_reducible refine (span_finite_any lo hlo _).mono ?_); rintro e1 w1 ⟨rfl, rfl⟩; rw [f1]) | (go_at_call 337; (with_reducible refine (span_finite_any hi hhi _).mono ?_); rintro e2 w2 ⟨rfl, rfl⟩; rw [f2]))
    exact bodyPost_ret (v := .tuple #[.agg #[.float .f64 0, .float .f64 0], .int .i64 6]) (by simp [results, Tryz.results267, go_sem]) rfl ⟨rfl, (Below.refl _ _).alloc (Nat.le_refl _) _⟩

theorem span_may_two (g la ha lb hb : Nat) (w : World) (b1 : la < 2 ^ 64) (b2 : ha < 2 ^ 64) (b3 : lb < 2 ^ 64) (b4 : hb < 2 ^ 64) (hg : g < w.heap.size)
    (c0 : w.cell? ⟨g, 0, none⟩ = some (.float .f64 la)) (c1 : w.cell? ⟨g, 1, none⟩ = some (.float .f64 ha)) (c2 : w.cell? ⟨g, 2, none⟩ = some (.float .f64 lb)) (c3 : w.cell? ⟨g, 3, none⟩ = some (.float .f64 hb)) :
    Calls Tryz.prog 266 #[.slice (some ⟨g, 0, none⟩) 2 2] w (RetV w (.bool (okS la ha && okS lb hb))) := by
  refine (span_may_any g [(la, ha), (lb, hb)] w ⟨hg, ?_⟩ (by simp)).mono ?_
  · intro i hi
    match i, hi with
    | 0, _ => exact ⟨c0, c1, b1, b2⟩
    | 1, _ => exact ⟨c2, c3, b3, b4⟩
    | (k + 2), hi => exact absurd hi (by simp)
  · rintro e w' ⟨rfl, hb⟩
    exact ⟨by simp, hb⟩
end Go.Proofs.YtdmdaoginojalaaGreatDoor
