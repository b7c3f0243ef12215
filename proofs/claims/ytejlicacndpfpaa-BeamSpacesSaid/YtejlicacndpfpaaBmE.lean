/-
  The waist of a beam that may be (beam.Waist).
-/
import Derived.Test.YtejlicacndpfpaaBmD
namespace Go.Proofs.Ytejlicacndpfpaa
open Go.RowKit

set_option maxRecDepth 100000 in
set_option maxHeartbeats 6400000 in
theorem beam_waist_ok (su : Bool) (Au : Option Addr) (nu cu : Nat) (lu : List Nat) (zu : Bool) (Bu : Option Addr) (mu du : Nat) (ku : List Nat) (xu : Rat) (sv : Bool) (Av : Option Addr) (nv cv : Nat) (lv : List Nat) (zv : Bool) (Bv : Option Addr) (mv dv : Nat) (kv : List Nat) (xv : Rat) (w : World) (ou : OkF w ((su, Au, nu, cu, lu), (zu, Bu, mu, du, ku)) xu) (ov : OkF w ((sv, Av, nv, cv, lv), (zv, Bv, mv, dv, kv)) xv) (hv : 0 < xv) :
    Calls Try.prog 15 #[.agg #[.bool su, .slice Au nu cu, .bool zu, .slice Bu mu du, .bool sv, .slice Av nv cv, .bool zv, .slice Bv mv dv]] w (RetWk w xu xv) := by
  have K0 := (((Mm.nil w).var (g := w.heap.size) rfl [.bool su, .slice Au nu cu, .bool zu, .slice Bu mu du, .bool sv, .slice Av nv cv, .bool zv, .slice Bv mv dv] 28).var (g := w.heap.size + 1) (by simp) [.bool false, .slice none 0 0, .bool false, .slice none 0 0] 26).var (g := w.heap.size + 1 + 1) (by simp) [.bool false, .slice none 0 0, .bool false, .slice none 0 0] 26
  have HC := Lib.hid (chkBm_ok ou ov hv)
  replace ou := ou.next K0.1
  replace ov := ov.next K0.1
  have g01 : ¬ w.heap.size = w.heap.size + 1 := by omega
  have g02 : ¬ w.heap.size = w.heap.size + 1 + 1 := by omega
  have g12 : ¬ w.heap.size + 1 = w.heap.size + 1 + 1 := by omega
  have g10 : ¬ w.heap.size + 1 = w.heap.size := by omega
  have g20 : ¬ w.heap.size + 1 + 1 = w.heap.size := by omega
  have g21 : ¬ w.heap.size + 1 + 1 = w.heap.size + 1 := by omega
  clear hv
  go_enter Try.func15, Try.ntmps15
  go_upto_region 1 with (fail)
  generalize ((w.alloc (.cells #[.bool su, .slice Au nu cu, .bool zu, .slice Bu mu du, .bool sv, .slice Av nv cv, .bool zv, .slice Bv mv dv] 28)).alloc (.cells #[.bool false, .slice none 0 0, .bool false, .slice none 0 0] 26)).alloc (.cells #[.bool false, .slice none 0 0, .bool false, .slice none 0 0] 26) = w0 at K0 ou ov ⊢
  obtain ⟨q0, q1, q2, q3, q4, q5, q6, q7⟩ := (K0.blk (g := w.heap.size) (vs := [.bool su, .slice Au nu cu, .bool zu, .slice Bu mu du, .bool sv, .slice Av nv cv, .bool zv, .slice Bv mv dv]) (by simp)).c8
  go_wp2_with fail
  refine (beam_check_any su Au nu cu lu zu Bu mu du ku sv Av nv cv lv zv Bv mv dv kv _ ou.1 ov.1).mono ?_
  rintro e4 w4 ⟨rfl, hb4⟩
  rw [HC.out]
  have K1 := K0.next hb4
  replace ou := ou.next hb4
  replace ov := ov.next hb4
  clear K0 hb4 q0 q1 q2 q3 q4 q5 q6 q7
  have nu2 := int_len ou.ints.1 ou.ints.2.2.1
  have mu2 := int_len ou.ints.2.1 (by rw [Int.natAbs_natCast]; exact ou.ints.2.2.2)
  have nv2 := int_len ov.ints.1 ov.ints.2.2.1
  have mv2 := int_len ov.ints.2.1 (by rw [Int.natAbs_natCast]; exact ov.ints.2.2.2)
  have SU := Lib.hid ou.ints.2.2
  have SV := Lib.hid ov.ints.2.2
  replace K1 := (((K1.int ov.ints.2.1).int ov.ints.1).int ou.ints.2.1).int ou.ints.1
  clear ou ov
  obtain ⟨q0, q1, q2, q3, q4, q5, q6, q7⟩ := (K1.blk (g := w.heap.size) (vs := [.bool su, .slice Au nu cu, .bool zu, .slice Bu mu du, .bool sv, .slice Av nv cv, .bool zv, .slice Bv mv dv]) (by simp)).c8
  obtain ⟨⟨r0, r1, r2, r3⟩, ⟨rf0, rf1, rf2, rf3⟩, _⟩ := (K1.blk (g := w.heap.size + 1) (vs := [.bool false, .slice none 0 0, .bool false, .slice none 0 0]) (by simp)).four
  obtain ⟨⟨s0, s1, s2, s3⟩, ⟨sf0, sf1, sf2, sf3⟩, _⟩ := (K1.blk (g := w.heap.size + 1 + 1) (vs := [.bool false, .slice none 0 0, .bool false, .slice none 0 0]) (by simp)).four
  go_upto_region 4 with (fail)
  go_region_held3 (fun w' => w'.cell? ⟨w.heap.size, 0, none⟩ = some (.bool su) ∧ w'.cell? ⟨w.heap.size, 1, none⟩ = some (.slice Au nu cu) ∧ w'.cell? ⟨w.heap.size, 2, none⟩ = some (.bool zu) ∧ w'.cell? ⟨w.heap.size, 3, none⟩ = some (.slice Bu mu du) ∧ w'.cell? ⟨w.heap.size, 4, none⟩ = some (.bool sv) ∧ w'.cell? ⟨w.heap.size, 5, none⟩ = some (.slice Av nv cv) ∧ w'.cell? ⟨w.heap.size, 6, none⟩ = some (.bool zv) ∧ w'.cell? ⟨w.heap.size, 7, none⟩ = some (.slice Bv mv dv))
    (go_keep)
    (first
      | (go_at_call 50; apply Calls.withMm (w0 := w); (case K => (repeat (first | (with_reducible exact K5) | (with_reducible apply Mm.drewN) | (with_reducible apply Mm.drew) | (with_reducible apply Mm.varz)))); intro KX; (with_reducible refine (rat_copy_any sv zv Av Bv nv cv mv dv xv _ ?_ ?_ nv2 mv2).mono ?_; with_reducible exact KX.at_ (List.mem_of_getElem? (i := 4) rfl); with_reducible exact KX.at_ (List.mem_of_getElem? (i := 5) rfl)); rintro e6 w6 ⟨sh, Ah, nh, ch, zh, Bh, mh, dh, rfl, I6, J6, hb6⟩; have K6 := ((KX.next hb6).int J6).int I6; clear KX; obtain ⟨q6_0, q6_1, q6_2, q6_3, q6_4, q6_5, q6_6, q6_7⟩ := (K6.blk (g := w.heap.size) (vs := [.bool su, .slice Au nu cu, .bool zu, .slice Bu mu du, .bool sv, .slice Av nv cv, .bool zv, .slice Bv mv dv]) (by simp)).c8; obtain ⟨⟨r6_0, r6_1, r6_2, r6_3⟩, ⟨r6_f0, r6_f1, r6_f2, r6_f3⟩, _⟩ := (K6.blk (g := w.heap.size + 1) (vs := [.bool false, .slice none 0 0, .bool false, .slice none 0 0]) (by simp)).four; obtain ⟨⟨s6_0, s6_1, s6_2, s6_3⟩, ⟨s6_f0, s6_f1, s6_f2, s6_f3⟩, _⟩ := (K6.blk (g := w.heap.size + 1 + 1) (vs := [.bool false, .slice none 0 0, .bool false, .slice none 0 0]) (by simp)).four; clear I6 J6 hb6)
      | (go_at_call 50; apply Calls.withMm (w0 := w); (case K => (repeat (first | (with_reducible exact K1) | (with_reducible apply Mm.drewN) | (with_reducible apply Mm.drew) | (with_reducible apply Mm.varz)))); intro KX; (with_reducible refine (rat_copy_any su zu Au Bu nu cu mu du xu _ ?_ ?_ nu2 mu2).mono ?_; with_reducible exact KX.at_ (List.mem_of_getElem? (i := 0) rfl); with_reducible exact KX.at_ (List.mem_of_getElem? (i := 1) rfl)); rintro e5 w5 ⟨sg, Ag, ng, cg, zg, Bg, mg, dg, rfl, I5, J5, hb5⟩; have K5 := ((KX.next hb5).int J5).int I5; clear KX; obtain ⟨q5_0, q5_1, q5_2, q5_3, q5_4, q5_5, q5_6, q5_7⟩ := (K5.blk (g := w.heap.size) (vs := [.bool su, .slice Au nu cu, .bool zu, .slice Bu mu du, .bool sv, .slice Av nv cv, .bool zv, .slice Bv mv dv]) (by simp)).c8; clear I5 J5 hb5)
      | fail)
  all_goals
    go_wp2_with fail
    have K7 := (K6.pick (L' := [(w.heap.size + 1, [.bool false, .slice none 0 0, .bool false, .slice none 0 0]), (w.heap.size + 1 + 1, [.bool false, .slice none 0 0, .bool false, .slice none 0 0])]) (l' := [(sg, Ag, ng, cg, xu.num), (zg, Bg, mg, dg, (xu.den : Int)), (sh, Ah, nh, ch, xv.num), (zh, Bh, mh, dh, (xv.den : Int))]) (by simp) (by simp))
    first
      | (have K8 := ((K7.set4 (by simp) sg Ag ng cg zg Bg mg dg).pick (L' := [(w.heap.size + 1 + 1, [.bool false, .slice none 0 0, .bool false, .slice none 0 0])]) (l' := [(sg, Ag, ng, cg, xu.num), (zg, Bg, mg, dg, (xu.den : Int)), (sh, Ah, nh, ch, xv.num), (zh, Bh, mh, dh, (xv.den : Int))]) (by simp) (by simp)).set4 (by simp) sh Ah nh ch zh Bh mh dh; obtain ⟨l9, k9, o9⟩ := okF_of (K8.at_ (neg := sg) (A := Ag) (n := ng) (c := cg) (z := xu.num) (by simp)) (K8.at_ (neg := zg) (A := Bg) (n := mg) (c := dg) (z := (xu.den : Int)) (by simp)) SU.out; obtain ⟨l8, k8, o8⟩ := okF_of (K8.at_ (neg := sh) (A := Ah) (n := nh) (c := ch) (z := xv.num) (by simp)) (K8.at_ (neg := zh) (A := Bh) (n := mh) (c := dh) (z := (xv.den : Int)) (by simp)) SV.out; exact bodyPost_ret (v := .tuple #[.agg #[.bool sg, .slice Ag ng cg, .bool zg, .slice Bg mg dg], .agg #[.bool sh, .slice Ah nh ch, .bool zh, .slice Bh mh dh], .int .i64 0]) (by simp [results, Try.results15, go_sem, r6_0, r6_1, r6_2, r6_3, s6_0, s6_1, s6_2, s6_3]) rfl ⟨_, _, _, _, _, _, _, _, _, _, _, _, _, _, _, _, _, _, _, _, rfl, o9, o8, K8.1⟩)
      | (have K8 := (((K7.pick (L' := [(w.heap.size + 1 + 1, [.bool false, .slice none 0 0, .bool false, .slice none 0 0]), (w.heap.size + 1, [.bool false, .slice none 0 0, .bool false, .slice none 0 0])]) (l' := [(sg, Ag, ng, cg, xu.num), (zg, Bg, mg, dg, (xu.den : Int)), (sh, Ah, nh, ch, xv.num), (zh, Bh, mh, dh, (xv.den : Int))]) (by simp) (by simp)).set4 (by simp) sh Ah nh ch zh Bh mh dh).pick (L' := [(w.heap.size + 1, [.bool false, .slice none 0 0, .bool false, .slice none 0 0])]) (l' := [(sg, Ag, ng, cg, xu.num), (zg, Bg, mg, dg, (xu.den : Int)), (sh, Ah, nh, ch, xv.num), (zh, Bh, mh, dh, (xv.den : Int))]) (by simp) (by simp)).set4 (by simp) sg Ag ng cg zg Bg mg dg; obtain ⟨l9, k9, o9⟩ := okF_of (K8.at_ (neg := sg) (A := Ag) (n := ng) (c := cg) (z := xu.num) (by simp)) (K8.at_ (neg := zg) (A := Bg) (n := mg) (c := dg) (z := (xu.den : Int)) (by simp)) SU.out; obtain ⟨l8, k8, o8⟩ := okF_of (K8.at_ (neg := sh) (A := Ah) (n := nh) (c := ch) (z := xv.num) (by simp)) (K8.at_ (neg := zh) (A := Bh) (n := mh) (c := dh) (z := (xv.den : Int)) (by simp)) SV.out; exact bodyPost_ret (v := .tuple #[.agg #[.bool sg, .slice Ag ng cg, .bool zg, .slice Bg mg dg], .agg #[.bool sh, .slice Ah nh ch, .bool zh, .slice Bh mh dh], .int .i64 0]) (by simp [results, Try.results15, go_sem, r6_0, r6_1, r6_2, r6_3, s6_0, s6_1, s6_2, s6_3]) rfl ⟨_, _, _, _, _, _, _, _, _, _, _, _, _, _, _, _, _, _, _, _, rfl, o9, o8, K8.1⟩)
end Go.Proofs.Ytejlicacndpfpaa
