/-
  The discs of turns (turn.discs).
-/
import Derived.Test.YtdmdaoginojalaaGreatDoorDtB
namespace Go.Proofs.YtdmdaoginojalaaGreatDoor
open Go.RowKit

@[go_sem] theorem run_store_cxd {P : Program} {w : World} {a : Addr} {m : Mode} (k : FloatKind) (x y : Nat) : (store a (.complex k x y) m).run P w = stored P w a (.complex k x y) m := run_store P w a _ m rfl
theorem hszA {w : World} {o : Obj} : (w.alloc o).heap.size = w.heap.size + 1 := by simp
theorem Mm.varz {w wr : World} {L : List (Nat × List Value)} {l : List IntAt} (h : Mm w L l wr) (vs : List Value) (t : TypeId) : Mm w ((wr.heap.size, vs) :: L) l (wr.alloc (.cells vs.toArray t)) := h.var rfl vs t
theorem Calls.withMm {P : Program} {f : FuncId} {args : Array Value} {W : World} {post : Ending → World → Prop} {w0 : World} {L : List (Nat × List Value)} {l : List IntAt} (K : Mm w0 L l W) (h : Mm w0 L l W → Calls P f args W post) : Calls P f args W post := h K
def F0 : Nat → Dt := fun j => if j = 2 then ((0, 0), (4607182418800017408, 4607182418800017408), 0) else ((0, 0), (0, 0), 0)
theorem steps0 : Steps F0 3 := ⟨rfl, rfl, fun j h3 hj => absurd hj (by omega)⟩
theorem dvs0 : dvs F0 3 = [.complex .f64 0 0, .float .f64 0, .complex .f64 0 0, .float .f64 0, .complex .f64 0 0, .float .f64 0, .complex .f64 0 0, .float .f64 0, .complex .f64 0 0, .float .f64 0, .complex .f64 0 0, .float .f64 0, .complex .f64 0 0, .float .f64 0, .complex .f64 0 0, .float .f64 0, .complex .f64 0 0, .float .f64 0, .complex .f64 0 0, .float .f64 0, .complex .f64 0 0, .float .f64 0, .complex .f64 0 0, .float .f64 0, .complex .f64 0 0, .float .f64 0, .complex .f64 0 0, .float .f64 0, .complex .f64 0 0, .float .f64 0, .complex .f64 0 0, .float .f64 0, .complex .f64 0 0, .float .f64 0] := by rfl
theorem rng0 : Rng (0, 0) 0 UU ∧ Rng (4607182418800017408, 4607182418800017408) 0 UU := by
  have hp := UU_pos
  have z : Flt.sv 0 = 0 := sv_zero
  refine ⟨⟨by decide, by decide, fin_zero, fin_zero, ?_, Int.le_refl _, ?_⟩, ⟨by decide, by decide, fin_o, fin_o, ?_, Int.le_refl _, ?_⟩⟩
  · show (0 : Int) ≤ Flt.sv 0; rw [z]; omega
  · show Flt.sv 0 ≤ UU; rw [z]; omega
  · show (0 : Int) ≤ Flt.sv 4607182418800017408; rw [sv_o]; omega
  · show Flt.sv 4607182418800017408 ≤ UU; rw [sv_o]; omega
theorem quo2_rng {a : Nat × Nat} {p : Nat × Nat × Int} (ha : Rng a UU (2 * UU)) (h : IsQuot (okS a.1 a.2 && okS 4611686018427387904 4611686018427387904) (zB 4611686018427387904 4611686018427387904) (quoC a.1 a.2 4611686018427387904 4611686018427387904) (quoC a.1 a.2 4611686018427387904 4611686018427387904) p) :
    ∃ b : Nat × Nat, p = (b.1, b.2, 0) ∧ Rng b (Flt.sv 4602678819172646912) UU := by
  have hp := UU_pos
  have hh := sv_h
  have ht := sv_t
  have r2 : Rng (4611686018427387904, 4611686018427387904) (2 * UU) (2 * UU) := ⟨by decide, by decide, fin_t, fin_t, by rw [← ht]; exact Int.le_refl _, Int.le_refl _, by rw [← ht]; exact Int.le_refl _⟩
  obtain ⟨b, e, hb⟩ := quo_rng (x := 4602678819172646912) (y := 4607182418800017408) ha r2 (by omega) fin_h fin_o (fun s t h1 h2 h3 h4 => by
      have e1 : t = 2 * UU := by omega
      subst e1
      rw [← Int.mul_assoc, Int.mul_comm _ 2, hh]
      exact Int.mul_le_mul_of_nonneg_right h1 (by omega)) (fun s t h1 h2 h3 h4 => by
      have e1 : t = 2 * UU := by omega
      subst e1
      rw [sv_o, Int.mul_comm UU (2 * UU)]
      exact Int.mul_le_mul_of_nonneg_right h2 (by omega)) (by decide +kernel) h
  rw [sv_o] at hb
  exact ⟨b, e, hb⟩
theorem quo3_rng {s m : Nat × Nat} {p : Nat × Nat × Int} (hs : Rng s 0 UU) (hm : Rng m UU (2 * UU)) (h : IsQuot (okS s.1 s.2 && okS m.1 m.2) (zB m.1 m.2) (quoC s.1 s.2 m.1 m.2) (quoC s.1 s.2 m.1 m.2) p) :
    ∃ b : Nat × Nat, p = (b.1, b.2, 0) ∧ Rng b 0 UU := by
  have hp := UU_pos
  have hz : zB m.1 m.2 = false := by
    rw [zB_iff hm.2.2.1 hm.2.2.2.1]
    have := hm.2.2.2.2.1
    exact decide_eq_false (by omega)
  obtain ⟨b, e, hb⟩ := quo_rng (x := 0) (y := 4607182418800017408) hs hm hp fin_zero fin_o (fun s t h1 h2 h3 h4 => by
      rw [sv_zero, Int.zero_mul]
      exact Int.mul_nonneg h1 (by omega)) (fun s t h1 h2 h3 h4 => by
      rw [sv_o, Int.mul_comm UU t]
      exact Int.mul_le_mul_of_nonneg_right (by omega) (by omega)) hz h
  rw [sv_o, sv_zero] at hb
  exact ⟨b, e, hb⟩
theorem half_nn {c : Nat × Nat} (h : Rng c (Flt.sv 4602678819172646912) UU) : Rng c 0 UU := by
  have hh := sv_h
  have hp := UU_pos
  obtain ⟨h1, h2, h3, h4, h5, h6, h7⟩ := h
  exact ⟨h1, h2, h3, h4, by omega, h6, h7⟩
theorem wide_lt {p : Nat × Nat} {u : Nat} {x y : Int} (h : WideR p u) (hp : Rng p x y) : u < 2 ^ 64 := by
  obtain ⟨d, h⟩ := h
  exact (sum_down h hp.2.2.2.1 (Flt.fin_opp.2 hp.2.2.1)).2.1
theorem upd_self {F : Nat → Dt} {k : Nat} {d : Dt} : upd F k d (k + 1 - 1) = d := by unfold upd; rw [if_pos (by omega)]
def RetDt (W : World) (e : Ending) (w' : World) : Prop := ∃ F, Steps F 17 ∧ e = .returned (.tuple #[.agg (dvs F 17).toArray, .int .i64 0]) ∧ Below W.heap.size W w'
theorem info_row : (Tryz.prog.info? 105).map (·.size) = some 34 := by kernel_rfl

set_option maxRecDepth 100000 in
set_option maxHeartbeats 12800000 in
theorem discs_any (w : World) : Calls Tryz.prog 52 #[] w (RetDt w) := by
  have K0 := (Mm.nil w).var (g := w.heap.size) rfl [.complex .f64 0 0, .float .f64 0, .complex .f64 0 0, .float .f64 0, .complex .f64 0 0, .float .f64 0, .complex .f64 0 0, .float .f64 0, .complex .f64 0 0, .float .f64 0, .complex .f64 0 0, .float .f64 0, .complex .f64 0 0, .float .f64 0, .complex .f64 0 0, .float .f64 0, .complex .f64 0 0, .float .f64 0, .complex .f64 0 0, .float .f64 0, .complex .f64 0 0, .float .f64 0, .complex .f64 0 0, .float .f64 0, .complex .f64 0 0, .float .f64 0, .complex .f64 0 0, .float .f64 0, .complex .f64 0 0, .float .f64 0, .complex .f64 0 0, .float .f64 0, .complex .f64 0 0, .float .f64 0] 105
  go_enter Tryz.func52, Tryz.ntmps52
  go_upto_region 1 with (fail)
  generalize w.alloc (.cells #[.complex .f64 0 0, .float .f64 0, .complex .f64 0 0, .float .f64 0, .complex .f64 0 0, .float .f64 0, .complex .f64 0 0, .float .f64 0, .complex .f64 0 0, .float .f64 0, .complex .f64 0 0, .float .f64 0, .complex .f64 0 0, .float .f64 0, .complex .f64 0 0, .float .f64 0, .complex .f64 0 0, .float .f64 0, .complex .f64 0 0, .float .f64 0, .complex .f64 0 0, .float .f64 0, .complex .f64 0 0, .float .f64 0, .complex .f64 0 0, .float .f64 0, .complex .f64 0 0, .float .f64 0, .complex .f64 0 0, .float .f64 0, .complex .f64 0 0, .float .f64 0, .complex .f64 0 0, .float .f64 0] 105) = w0 at K0 ⊢
  rw [← dvs0] at K0
  go_wp2_with fail
  refine (point_any 0 _).mono ?_
  rintro e1 w1 ⟨rfl, hb⟩
  have K1 := K0.next hb
  clear K0 hb
  go_wp2_with fail
  refine (point_any 4607182418800017408 _).mono ?_
  rintro e2 w2 ⟨rfl, hb⟩
  have K2 := K1.next hb
  clear K1 hb
  have hA : w.heap.size < w2.heap.size := (K2.blk (g := w.heap.size) (vs := dvs F0 3) (by simp)).1
  have K3 := (K2.var (g := w2.heap.size) rfl [.float .f64 0, .float .f64 0] 155).var (g := w2.heap.size + 1) (by simp) [.float .f64 4607182418800017408, .float .f64 4607182418800017408] 155
  go_upto_region 2 with (fail)
  generalize w2.heap.size = gc at K3 hA ⊢
  generalize (w2.alloc (.cells #[.float .f64 0, .float .f64 0] 155)).alloc (.cells #[.float .f64 4607182418800017408, .float .f64 4607182418800017408] 155) = w3 at K3 ⊢
  have n1 : ¬ gc = w.heap.size := by omega
  have n2 : ¬ w.heap.size = gc := by omega
  have n3 : ¬ gc + 1 = w.heap.size := by omega
  have n4 : ¬ w.heap.size = gc + 1 := by omega
  clear K2
  go_wp2_with fail
  go_loopw [4] (fun i wr => ∃ (k : Nat) (F : Nat → Dt), 3 ≤ k ∧ k ≤ 17 ∧ i = .int .i64 (k : Int) ∧ Hid (Steps F k) ∧ Hid (Rng (F (k - 1)).1 0 UU ∧ Rng (F (k - 1)).2.1 0 UU) ∧
      Mm w [(gc, [.float .f64 (F (k - 1)).1.1, .float .f64 (F (k - 1)).1.2]), (gc + 1, [.float .f64 (F (k - 1)).2.1.1, .float .f64 (F (k - 1)).2.1.2]), (w.heap.size, dvs F k)] [] wr) (fun i _ => 17 - (intOf i).toNat)
  case atStart => exact ⟨3, F0, by decide, by decide, rfl, Lib.hid steps0, Lib.hid rng0, K3.pick (by simp [F0]) (by simp)⟩
  case round =>
    clear K3
    obtain ⟨k, F, hk3, hk17, rfl, HST, HR, K⟩ := hrel
    obtain ⟨x, hx⟩ : ∃ x, F (k - 1) = x := ⟨_, rfl⟩
    rw [hx] at HR K
    have HX := Lib.hid hx
    clear hx
    obtain ⟨⟨c1, c2⟩, ⟨s1, s2⟩, r0⟩ := x
    simp only at HR K
    by_cases hlt : k < 17
    · have kle : (k : Int) ≤ 16 := by omega
      have HK := Lib.hid (And.intro hk3 hlt)
      clear hlt
      obtain ⟨qa, qb, qc, qd, qe⟩ := (K.blk (g := gc) (vs := [.float .f64 c1, .float .f64 c2]) (by simp)).two
      have sz : gc + 1 < wr.heap.size := (K.blk (g := gc + 1) (vs := [.float .f64 s1, .float .f64 s2]) (by simp)).1
      have B1 : Hid (c1 < 2 ^ 64) := Lib.hid HR.out.1.1
      have B2 : Hid (c2 < 2 ^ 64) := Lib.hid HR.out.1.2.1
      go_upto_region 5 with (fail)
      go_cut [5, 6] from 15 to 20 (fun s5 s6 wx => ∃ (g5 : Nat) (a : Nat × Nat), s5 = .pointer (some ⟨g5, 0, none⟩) ∧ s6 = .int .i64 0 ∧ gc + 1 < g5 ∧ Hid (Rng a UU (2 * UU) ∧ IsSpan (okS 4607182418800017408 4607182418800017408 && okS c1 c2) (addL 4607182418800017408 4607182418800017408 c1 c2) (addH 4607182418800017408 4607182418800017408 c1 c2) (a.1, a.2, 0)) ∧
        Mm w [(g5, [.float .f64 a.1, .float .f64 a.2]), (gc, [.float .f64 c1, .float .f64 c2]), (gc + 1, [.float .f64 s1, .float .f64 s2]), (w.heap.size, dvs F k)] [] wx)
      case first =>
        go_region_held3 (fun w' => w'.cell? ⟨gc, 0, none⟩ = some (.float .f64 c1) ∧ w'.cell? ⟨gc, 1, none⟩ = some (.float .f64 c2))
          (go_keep)
          (first
            | (go_at_call 156; apply Calls.withMm (w0 := w); (case K => (repeat (first | (with_reducible exact K4) | (with_reducible apply Mm.drewN) | (with_reducible apply Mm.drew) | (with_reducible apply Mm.varz)))); intro KX; (try simp only [hszA] at KX); (with_reducible refine (span_add_any 4607182418800017408 4607182418800017408 c1 c2 (by decide) (by decide) B1.out B2.out _).mono ?_); rintro e5 w5 ⟨p5, hp5, rfl, hb5⟩; obtain ⟨a, rfl, hra⟩ := add_rng (c := (c1, c2)) HR.out.1 hp5; have HA := Lib.hid (And.intro hra hp5); clear hra hp5; have K5 := KX.next hb5; clear KX; obtain ⟨q5a, q5b, q5c, q5d, q5e⟩ := (K5.blk (g := gc) (vs := [.float .f64 c1, .float .f64 c2]) (by simp)).two; have sz5 : gc + 1 < w5.heap.size := (K5.blk (g := gc + 1) (vs := [.float .f64 s1, .float .f64 s2]) (by simp)).1; (try (have V0_5 := K5.blk (g := wr.heap.size) (vs := [.float .f64 0, .float .f64 0]) (by with_reducible (first | exact List.mem_cons_self | exact List.mem_cons_of_mem _ List.mem_cons_self)); obtain ⟨va0_5, vb0_5, vc0_5, vd0_5, ve0_5⟩ := V0_5.two; have fa0_5 : ¬ gc = wr.heap.size := (by omega); have fb0_5 : ¬ wr.heap.size = gc := (by omega); skip)); (try (have V1_5 := K5.blk (g := w4.heap.size) (vs := [.float .f64 0, .float .f64 0]) (by with_reducible (first | exact List.mem_cons_self | exact List.mem_cons_of_mem _ List.mem_cons_self)); obtain ⟨va1_5, vb1_5, vc1_5, vd1_5, ve1_5⟩ := V1_5.two; have fa1_5 : ¬ gc = w4.heap.size := (by omega); have fb1_5 : ¬ w4.heap.size = gc := (by omega); skip)); clear hb5)
            | (go_at_call 155; apply Calls.withMm (w0 := w); (case K => (repeat (first | (with_reducible exact K) | (with_reducible apply Mm.drewN) | (with_reducible apply Mm.drew) | (with_reducible apply Mm.varz)))); intro KX; (try simp only [hszA] at KX); (with_reducible refine (point_any 4607182418800017408 _).mono ?_); rintro e4 w4 ⟨rfl, hb4⟩; have K4 := KX.next hb4; clear KX; obtain ⟨q4a, q4b, q4c, q4d, q4e⟩ := (K4.blk (g := gc) (vs := [.float .f64 c1, .float .f64 c2]) (by simp)).two; have sz4 : gc + 1 < w4.heap.size := (K4.blk (g := gc + 1) (vs := [.float .f64 s1, .float .f64 s2]) (by simp)).1; (try (have V0_4 := K4.blk (g := wr.heap.size) (vs := [.float .f64 0, .float .f64 0]) (by with_reducible (first | exact List.mem_cons_self | exact List.mem_cons_of_mem _ List.mem_cons_self)); obtain ⟨va0_4, vb0_4, vc0_4, vd0_4, ve0_4⟩ := V0_4.two; have fa0_4 : ¬ gc = wr.heap.size := (by omega); have fb0_4 : ¬ wr.heap.size = gc := (by omega); skip)); clear hb4)
            | fail)
        all_goals (go_wp2_with fail)
        all_goals go_meet
        all_goals (first
          | (refine ⟨w5.heap.size, a, rfl, rfl, by assumption, HA, (K5.var (g := w5.heap.size) rfl [.float .f64 a.1, .float .f64 a.2] 155).pick (by simp) (by simp)⟩)
          | (refine ⟨w4.heap.size, a, rfl, rfl, by assumption, HA, ((K5.pick (L' := [(w4.heap.size, [.float .f64 0, .float .f64 0]), (gc, [.float .f64 c1, .float .f64 c2]), (gc + 1, [.float .f64 s1, .float .f64 s2]), (w.heap.size, dvs F k)]) (l' := []) (by simp) (by simp)).set (by simp; omega) (j := 0) (.float .f64 0) (.float .f64 a.1) rfl (by simp)).set (by simp; omega) (j := 1) (.float .f64 0) (.float .f64 a.2) rfl (by simp)⟩)
          | (refine ⟨wr.heap.size, a, rfl, rfl, by assumption, HA, ((K5.pick (L' := [(wr.heap.size, [.float .f64 0, .float .f64 0]), (gc, [.float .f64 c1, .float .f64 c2]), (gc + 1, [.float .f64 s1, .float .f64 s2]), (w.heap.size, dvs F k)]) (l' := []) (by simp) (by simp)).set (by simp; omega) (j := 0) (.float .f64 0) (.float .f64 a.1) rfl (by simp)).set (by simp; omega) (j := 1) (.float .f64 0) (.float .f64 a.2) rfl (by simp)⟩))
      case rest =>
        obtain ⟨g5, a, rfl, rfl, hg5, HA, KC⟩ := hcut
        rename World => wc
        clear K qa qb qc qd qe sz
        have B3 : Hid (a.1 < 2 ^ 64) := Lib.hid HA.out.1.1
        have B4 : Hid (a.2 < 2 ^ 64) := Lib.hid HA.out.1.2.1
        have n5 : ¬ g5 = gc := by omega
        have n6 : ¬ gc = g5 := by omega
        have n7 : ¬ g5 = gc + 1 := by omega
        have n8 : ¬ gc + 1 = g5 := by omega
        have n9 : ¬ g5 = w.heap.size := by omega
        have n10 : ¬ w.heap.size = g5 := by omega
        obtain ⟨pa, pb, pc, pd, pe⟩ := (KC.blk (g := g5) (vs := [.float .f64 a.1, .float .f64 a.2]) (by simp)).two
        go_upto_region 8 with (fail)
        go_region_with (first
            | (go_at_call 157; apply Calls.withMm (w0 := w); (case K => (repeat (first | (with_reducible exact K6) | (with_reducible apply Mm.drewN) | (with_reducible apply Mm.drew) | (with_reducible apply Mm.varz)))); intro KX; (with_reducible refine (span_quo_any a.1 a.2 4611686018427387904 4611686018427387904 B3.out B4.out (by decide) (by decide) _).mono ?_); rintro e7 w7 ⟨p7, hp7, rfl, hb7⟩; obtain ⟨b, rfl, hrb⟩ := quo2_rng HA.out.1 hp7; have HB := Lib.hid (And.intro hrb hp7); clear hrb hp7; have K7 := KX.next hb7; clear KX; obtain ⟨p7a, p7b, p7c, p7d, p7e⟩ := (K7.blk (g := g5) (vs := [.float .f64 a.1, .float .f64 a.2]) (by simp)).two; clear hb7)
            | (go_at_call 155; apply Calls.withMm (w0 := w); (case K => (repeat (first | (with_reducible exact KC) | (with_reducible apply Mm.drewN) | (with_reducible apply Mm.drew) | (with_reducible apply Mm.varz)))); intro KX; (with_reducible refine (point_any 4611686018427387904 _).mono ?_); rintro e6 w6 ⟨rfl, hb6⟩; have K6 := KX.next hb6; clear KX; obtain ⟨p6a, p6b, p6c, p6d, p6e⟩ := (K6.blk (g := g5) (vs := [.float .f64 a.1, .float .f64 a.2]) (by simp)).two; clear hb6)
            | fail)
        all_goals
          go_upto_region 11 with (fail)
          have K8 := (K7.set (by simp; omega) (j := 0) (.float .f64 a.1) (.float .f64 b.1) rfl (by simp)).set (by simp; omega) (j := 1) (.float .f64 a.2) (.float .f64 b.2) rfl (by simp)
          replace K8 : Mm w [(g5, [.float .f64 b.1, .float .f64 b.2]), (gc, [.float .f64 c1, .float .f64 c2]), (gc + 1, [.float .f64 s1, .float .f64 s2]), (w.heap.size, dvs F k)] [] _ := K8
          generalize (w7.setCell ⟨g5, 0, none⟩ (.float .f64 b.1)).setCell ⟨g5, 1, none⟩ (.float .f64 b.2) = w8 at K8 ⊢
          have B5 : Hid (b.1 < 2 ^ 64) := Lib.hid HB.out.1.1
          have B6 : Hid (b.2 < 2 ^ 64) := Lib.hid HB.out.1.2.1
          clear KC K7
          obtain ⟨pa, pb, pc, pd, pe⟩ := (K8.blk (g := g5) (vs := [.float .f64 b.1, .float .f64 b.2]) (by simp)).two
          obtain ⟨qa, qb, qc, qd, qe⟩ := (K8.blk (g := gc) (vs := [.float .f64 c1, .float .f64 c2]) (by simp)).two
          go_wp2_with fail
          refine (span_sqrt_ok b.1 b.2 B5.out B6.out HB.out.1.ok (by have h1 := HB.out.1.2.2.2.2; have h2 := sv_h; have h3 := UU_pos; omega) _).mono ?_
          rintro e9 w9 ⟨p9, hp9, rfl, hb9⟩
          obtain ⟨c, rfl, hrc⟩ := sqrt_rng HB.out.1 hp9
          have HC := Lib.hid (And.intro hrc hp9)
          have K9 := K8.next hb9
          clear hrc hp9 hb9 K8 pa pb pc pd pe qa qb qc qd qe
          have B7 : Hid (c.1 < 2 ^ 64) := Lib.hid HC.out.1.1
          have B8 : Hid (c.2 < 2 ^ 64) := Lib.hid HC.out.1.2.1
          obtain ⟨qa, qb, qc, qd, qe⟩ := (K9.blk (g := gc) (vs := [.float .f64 c1, .float .f64 c2]) (by simp)).two
          go_upto_region 14 with (fail)
          have KA := ((K9.pick (L' := [(gc, [.float .f64 c1, .float .f64 c2]), (g5, [.float .f64 b.1, .float .f64 b.2]), (gc + 1, [.float .f64 s1, .float .f64 s2]), (w.heap.size, dvs F k)]) (l' := []) (by simp) (by simp)).set (by simp; omega) (j := 0) (.float .f64 c1) (.float .f64 c.1) rfl (by simp)).set (by simp; omega) (j := 1) (.float .f64 c2) (.float .f64 c.2) rfl (by simp)
          replace KA : Mm w [(gc, [.float .f64 c.1, .float .f64 c.2]), (g5, [.float .f64 b.1, .float .f64 b.2]), (gc + 1, [.float .f64 s1, .float .f64 s2]), (w.heap.size, dvs F k)] [] _ := KA
          generalize (w9.setCell ⟨gc, 0, none⟩ (.float .f64 c.1)).setCell ⟨gc, 1, none⟩ (.float .f64 c.2) = wA at KA ⊢
          clear K9 qa qb qc qd qe
          obtain ⟨qa, qb, qc, qd, qe⟩ := (KA.blk (g := gc) (vs := [.float .f64 c.1, .float .f64 c.2]) (by simp)).two
          obtain ⟨pa, pb, pc, pd, pe⟩ := (KA.blk (g := g5) (vs := [.float .f64 b.1, .float .f64 b.2]) (by simp)).two
          go_region_held3 (fun w' => w'.cell? ⟨gc, 0, none⟩ = some (.float .f64 c.1) ∧ w'.cell? ⟨gc, 1, none⟩ = some (.float .f64 c.2))
            (go_keep)
            (first
              | (go_at_call 159; apply Calls.withMm (w0 := w); (case K => (repeat (first | (with_reducible exact KB) | (with_reducible apply Mm.drewN) | (with_reducible apply Mm.drew) | (with_reducible apply Mm.varz)))); intro KX; (with_reducible refine (span_mul_any 4611686018427387904 4611686018427387904 c.1 c.2 (by decide) (by decide) B7.out B8.out _).mono ?_); rintro e11 w11 ⟨p11, hp11, rfl, hb11⟩; obtain ⟨m, rfl, hrm⟩ := mul_rng HC.out.1 hp11; have HM := Lib.hid (And.intro hrm hp11); clear hrm hp11; have KD := KX.next hb11; clear KX; obtain ⟨qDa, qDb, qDc, qDd, qDe⟩ := (KD.blk (g := gc) (vs := [.float .f64 c.1, .float .f64 c.2]) (by simp)).two; obtain ⟨pDa, pDb, pDc, pDd, pDe⟩ := (KD.blk (g := g5) (vs := [.float .f64 b.1, .float .f64 b.2]) (by simp)).two; clear hb11)
              | (go_at_call 155; apply Calls.withMm (w0 := w); (case K => (repeat (first | (with_reducible exact KA) | (with_reducible apply Mm.drewN) | (with_reducible apply Mm.drew) | (with_reducible apply Mm.varz)))); intro KX; (with_reducible refine (point_any 4611686018427387904 _).mono ?_); rintro e10 w10 ⟨rfl, hb10⟩; have KB := KX.next hb10; clear KX; obtain ⟨qBa, qBb, qBc, qBd, qBe⟩ := (KB.blk (g := gc) (vs := [.float .f64 c.1, .float .f64 c.2]) (by simp)).two; obtain ⟨pBa, pBb, pBc, pBd, pBe⟩ := (KB.blk (g := g5) (vs := [.float .f64 b.1, .float .f64 b.2]) (by simp)).two; clear hb10)
              | fail)
          all_goals
            go_upto_region 17 with (fail)
            have KE := ((KD.pick (L' := [(g5, [.float .f64 b.1, .float .f64 b.2]), (gc, [.float .f64 c.1, .float .f64 c.2]), (gc + 1, [.float .f64 s1, .float .f64 s2]), (w.heap.size, dvs F k)]) (l' := []) (by simp) (by simp)).set (by simp; omega) (j := 0) (.float .f64 b.1) (.float .f64 m.1) rfl (by simp)).set (by simp; omega) (j := 1) (.float .f64 b.2) (.float .f64 m.2) rfl (by simp)
            replace KE : Mm w [(g5, [.float .f64 m.1, .float .f64 m.2]), (gc, [.float .f64 c.1, .float .f64 c.2]), (gc + 1, [.float .f64 s1, .float .f64 s2]), (w.heap.size, dvs F k)] [] _ := KE
            generalize (w11.setCell ⟨g5, 0, none⟩ (.float .f64 m.1)).setCell ⟨g5, 1, none⟩ (.float .f64 m.2) = wE at KE ⊢
            clear KA KD
            have B9 : Hid (m.1 < 2 ^ 64) := Lib.hid HM.out.1.1
            have B10 : Hid (m.2 < 2 ^ 64) := Lib.hid HM.out.1.2.1
            have B11 : Hid (s1 < 2 ^ 64) := Lib.hid HR.out.2.1
            have B12 : Hid (s2 < 2 ^ 64) := Lib.hid HR.out.2.2.1
            obtain ⟨qa, qb, qc, qd, qe⟩ := (KE.blk (g := gc + 1) (vs := [.float .f64 s1, .float .f64 s2]) (by simp)).two
            obtain ⟨pa, pb, pc, pd, pe⟩ := (KE.blk (g := g5) (vs := [.float .f64 m.1, .float .f64 m.2]) (by simp)).two
            go_wp2_with fail
            refine (span_quo_any s1 s2 m.1 m.2 B11.out B12.out B9.out B10.out _).mono ?_
            rintro e12 w12 ⟨p12, hp12, rfl, hb12⟩
            obtain ⟨s, rfl, hrs⟩ := quo3_rng (s := (s1, s2)) HR.out.2 HM.out.1 hp12
            have HS := Lib.hid (And.intro hrs hp12)
            have KF := KE.next hb12
            clear hrs hp12 hb12 KE pa pb pc pd pe qa qb qc qd qe
            have B13 : Hid (s.1 < 2 ^ 64) := Lib.hid HS.out.1.1
            have B14 : Hid (s.2 < 2 ^ 64) := Lib.hid HS.out.1.2.1
            obtain ⟨qa, qb, qc, qd, qe⟩ := (KF.blk (g := gc + 1) (vs := [.float .f64 s1, .float .f64 s2]) (by simp)).two
            go_upto_region 20 with (fail)
            have KG := ((KF.pick (L' := [(gc + 1, [.float .f64 s1, .float .f64 s2]), (gc, [.float .f64 c.1, .float .f64 c.2]), (w.heap.size, dvs F k)]) (l' := []) (by simp) (by simp)).set (by simp; omega) (j := 0) (.float .f64 s1) (.float .f64 s.1) rfl (by simp)).set (by simp; omega) (j := 1) (.float .f64 s2) (.float .f64 s.2) rfl (by simp)
            replace KG : Mm w [(gc + 1, [.float .f64 s.1, .float .f64 s.2]), (gc, [.float .f64 c.1, .float .f64 c.2]), (w.heap.size, dvs F k)] [] _ := KG
            generalize (w12.setCell ⟨gc + 1, 0, none⟩ (.float .f64 s.1)).setCell ⟨gc + 1, 1, none⟩ (.float .f64 s.2) = wG at KG ⊢
            clear KF qa qb qc qd qe
            obtain ⟨qa, qb, qc, qd, qe⟩ := (KG.blk (g := gc) (vs := [.float .f64 c.1, .float .f64 c.2]) (by simp)).two
            obtain ⟨pa, pb, pc, pd, pe⟩ := (KG.blk (g := gc + 1) (vs := [.float .f64 s.1, .float .f64 s.2]) (by simp)).two
            go_region_held3 (fun w' => w'.cell? ⟨gc, 0, none⟩ = some (.float .f64 c.1) ∧ w'.cell? ⟨gc, 1, none⟩ = some (.float .f64 c.2) ∧ w'.cell? ⟨gc + 1, 0, none⟩ = some (.float .f64 s.1) ∧ w'.cell? ⟨gc + 1, 1, none⟩ = some (.float .f64 s.2))
              (go_keep)
              (first
                | (go_at_call 160; apply Calls.withMm (w0 := w); (case K => (repeat (first | (with_reducible exact KI) | (with_reducible apply Mm.drewN) | (with_reducible apply Mm.drew) | (with_reducible apply Mm.varz)))); intro KX; have U64 := wide_lt HU.out HC.out.1; have V64 := wide_lt HVV.out HS.out.1; (refine (rnd_add_any u v U64 V64 _).mono ?_); rintro e15 w15 ⟨d, r, rfl, hr, hb15⟩; have HRR := Lib.hid hr; clear hr U64 V64; have KJ := KX.next hb15; clear KX; obtain ⟨qJa, qJb, qJc, qJd, qJe⟩ := (KJ.blk (g := gc) (vs := [.float .f64 c.1, .float .f64 c.2]) (by simp)).two; obtain ⟨pJa, pJb, pJc, pJd, pJe⟩ := (KJ.blk (g := gc + 1) (vs := [.float .f64 s.1, .float .f64 s.2]) (by simp)).two; clear hb15)
                | (go_at_call 161; apply Calls.withMm (w0 := w); (case K => (repeat (first | (with_reducible exact KH) | (with_reducible apply Mm.drewN) | (with_reducible apply Mm.drew) | (with_reducible apply Mm.varz)))); intro KX; (with_reducible refine (wide_any s.1 s.2 B13.out B14.out _).mono ?_); rintro e14 w14 ⟨v, rfl, hv, hb14⟩; have HVV := Lib.hid hv; clear hv; have KI := KX.next hb14; clear KX; obtain ⟨qIa, qIb, qIc, qId, qIe⟩ := (KI.blk (g := gc) (vs := [.float .f64 c.1, .float .f64 c.2]) (by simp)).two; obtain ⟨pIa, pIb, pIc, pId, pIe⟩ := (KI.blk (g := gc + 1) (vs := [.float .f64 s.1, .float .f64 s.2]) (by simp)).two; clear hb14)
                | (go_at_call 161; apply Calls.withMm (w0 := w); (case K => (repeat (first | (with_reducible exact KG) | (with_reducible apply Mm.drewN) | (with_reducible apply Mm.drew) | (with_reducible apply Mm.varz)))); intro KX; (with_reducible refine (wide_any c.1 c.2 B7.out B8.out _).mono ?_); rintro e13 w13 ⟨u, rfl, hu, hb13⟩; have HU := Lib.hid hu; clear hu; have KH := KX.next hb13; clear KX; obtain ⟨qHa, qHb, qHc, qHd, qHe⟩ := (KH.blk (g := gc) (vs := [.float .f64 c.1, .float .f64 c.2]) (by simp)).two; obtain ⟨pHa, pHb, pHc, pHd, pHe⟩ := (KH.blk (g := gc + 1) (vs := [.float .f64 s.1, .float .f64 s.2]) (by simp)).two; clear hb13)
                | fail)
            all_goals
              have cA := (KJ.blk (g := w.heap.size) (vs := dvs F k) (by simp)).2 (k * 2) _ (dvs_get (by have := HK.out; omega))
              have cB := (KJ.blk (g := w.heap.size) (vs := dvs F k) (by simp)).2 (k * 2 + 1) _ (dvs_get (by have := HK.out; omega))
              obtain ⟨cA1, cA2⟩ := cA
              obtain ⟨cB1, cB2⟩ := cB
              have k0 : (0 : Int) ≤ (k : Int) := by omega
              have k17 : (k : Int) < 17 := by omega
              have HD : Hid (DStep (F (k - 1)) ((c.1, c.2), (s.1, s.2), r)) := Lib.hid (by rw [HX.out]; exact ⟨a, b, m, HA.out.2, HB.out.2, HC.out.2, HM.out.2, HS.out.2, u, v, d, HU.out, HVV.out, HRR.out⟩)
              obtain ⟨D, hD⟩ : ∃ D : Dt, ((c.1, c.2), (s.1, s.2), r) = D := ⟨_, rfl⟩
              have KR := ((KJ.pick (L' := [(w.heap.size, dvs F k), (gc, [.float .f64 c.1, .float .f64 c.2]), (gc + 1, [.float .f64 s.1, .float .f64 s.2])]) (l' := []) (by simp) (by simp)).set (by simp; omega) (j := k * 2) _ (.complex .f64 c.1 s.1) (dvs_get (by have := HK.out; omega)) dval_one.2).set (by simp; omega) (j := k * 2 + 1) _ (.float .f64 r) (by rw [List.getElem?_set_ne (by omega)]; exact dvs_get (by have := HK.out; omega)) dval_one.2
              have e1 := dvs_set (F := F) (k := k) (d := ((c.1, c.2), (s.1, s.2), r)) HK.out.1
              simp only at e1
              rw [e1] at KR
              clear e1 hD D
              go_wp2_with fail
              go_roundw
              case rel => exact ⟨k + 1, upd F k ((c.1, c.2), (s.1, s.2), r), by omega, by have := HK.out; omega, rfl, Lib.hid (HST.out.more HK.out.1 HD.out), Lib.hid (by rw [upd_self]; exact ⟨half_nn HC.out.1, HS.out.1⟩), by rw [upd_self]; exact KR.pick (by simp) (by simp)⟩
              case measure => have := HK.out; simp [intOf]; omega
    · obtain rfl : k = 17 := by omega
      have hnl : ¬ ((17 : Nat) : Int) ≤ 16 := by decide
      have hB := K.blk (g := w.heap.size) (vs := dvs F 17) (by simp)
      have hu := Tryz.underlying105
      go_wp2_with (first
        | (refine wpList_load_mid rfl _ _ rfl w.heap.size 0 rfl (dvs F 17) _ hB.range hu rfl (by rw [dvs_len]; exact info_row) ?_)
        | (refine wpList_store_mid rfl _ _ _ rfl w.heap.size 0 (dvs F 17).toArray rfl rfl (by rw [List.size_toArray]; exact hB.there) (by rw [List.size_toArray, dvs_len]; exact info_row) (all_oneCell_toArray (fun v hv => by obtain ⟨i, _, rfl⟩ := List.mem_map.1 hv; exact dval_one.1)) ?_))
      have hX := run_loadVar_mid (P := Tryz.prog) (wr.setCells w.heap.size 0 (dvs F 17)) w.heap.size 0 105 (dvs F 17) _ (World.rangeAt_setCells_same _ _ _ _ hB.there) hu rfl (by rw [dvs_len]; exact info_row)
      have hY : (asAddr (.pointer (some ⟨w.heap.size, 0, none⟩))).run Tryz.prog (wr.setCells w.heap.size 0 (dvs F 17)) = .ok ⟨w.heap.size, 0, none⟩ (wr.setCells w.heap.size 0 (dvs F 17)) := rfl
      exact bodyPost_ret (v := .tuple #[.agg (dvs F 17).toArray, .int .i64 0]) (by simp [results, Tryz.results52]; rw [hY, Result.andThen_ok, hX, Result.andThen_ok]) rfl ⟨F, HST.out, rfl, below_setCells K.1 (Nat.le_refl _) _ _⟩
end Go.Proofs.YtdmdaoginojalaaGreatDoor
