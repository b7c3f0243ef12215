/-
  Beams: closures, the waist, refusals, in memory of their own.
-/
import Derived.Test.YtmmplomkginadaaGreatDoorOwH
import Derived.Test.YtmmplomkginadaaGreatDoorBmD
import Derived.Test.YtmmplomkginadaaGreatDoorMoA
namespace Go.Proofs.YtmmplomkginadaaGreatDoor
open Go.RowKit

theorem Mo.varz {B : Nat} {w wr : World} {L : List (Nat × List Value)} {l : List IntAt} {o : List OwnAt} (h : Mo B w L l o wr) (vs : List Value) (t : TypeId) : Mo B w ((wr.heap.size, vs) :: L) l o (wr.alloc (.cells vs.toArray t)) := h.var rfl vs t
theorem Calls.withMo {P : Program} {f : FuncId} {args : Array Value} {W : World} {post : Ending → World → Prop} {B : Nat} {w0 : World} {L : List (Nat × List Value)} {l : List IntAt} {o : List OwnAt} (K : Mo B w0 L l o W) (h : Mo B w0 L l o W → Calls P f args W post) : Calls P f args W post := h K
/-- A fraction as an answer, in memory of its own, and an error. -/
def RetF2 (W : World) (x y v : Int) (e : Ending) (w' : World) : Prop :=
  ∃ (neg : Bool) (A : Option Addr) (n c : Nat) (neg' : Bool) (A' : Option Addr) (n' c' : Nat), e = .returned (.tuple #[.agg #[.bool neg, .slice A n c, .bool neg', .slice A' n' c'], .int .i64 v]) ∧ IsInt w' neg A n c x ∧ IsInt w' neg' A' n' c' y ∧ Owns W.heap.size w' [(A, n, c), (A', n', c')] ∧ Below W.heap.size W w'
def RetW2 (W : World) (x y x' y' v : Int) (e : Ending) (w' : World) : Prop :=
  ∃ (sa : Bool) (Aa : Option Addr) (na ca : Nat) (za : Bool) (Ba : Option Addr) (ma da : Nat) (sb : Bool) (Ab : Option Addr) (nb cb : Nat) (zb : Bool) (Bb : Option Addr) (mb db : Nat), e = .returned (.tuple #[.agg #[.bool sa, .slice Aa na ca, .bool za, .slice Ba ma da], .agg #[.bool sb, .slice Ab nb cb, .bool zb, .slice Bb mb db], .int .i64 v]) ∧
    IsInt w' sa Aa na ca x ∧ IsInt w' za Ba ma da y ∧ IsInt w' sb Ab nb cb x' ∧ IsInt w' zb Bb mb db y' ∧ Owns W.heap.size w' [(Aa, na, ca), (Ba, ma, da), (Ab, nb, cb), (Bb, mb, db)] ∧ Below W.heap.size W w'
theorem owns_nil2 (B : Nat) (w : World) : Owns B w [(none, 0, 0), (none, 0, 0)] := Owns.two (OwnR.nil _ _) (OwnR.nil _ _) (fun g hg => by cases hg)
theorem owns_nil4 (B : Nat) (w : World) : Owns B w [(none, 0, 0), (none, 0, 0), (none, 0, 0), (none, 0, 0)] := by
  refine ⟨fun q hq => ?_, ?_⟩
  · have : q = (none, 0, 0) := by simpa using hq
    rw [this]
    exact OwnR.nil _ _
  · have hf : FarQ (none, 0, 0) (none, 0, 0) := fun g hg => by cases hg
    simp [hf]
theorem Mo.own4 {B : Nat} {w wr : World} {L : List (Nat × List Value)} {l : List IntAt} {o : List OwnAt} (h : Mo B w L l o wr) {q1 q2 q3 q4 : OwnAt} (i j k m : Nat) (hi : o[i]? = some q1) (hj : o[j]? = some q2) (hk : o[k]? = some q3) (hm : o[m]? = some q4) (hne : (i ≠ j ∧ i ≠ k ∧ i ≠ m) ∧ (j ≠ k ∧ j ≠ m) ∧ k ≠ m) : Owns B wr [q1, q2, q3, q4] := by
  obtain ⟨⟨n1, n2, n3⟩, ⟨n4, n5⟩, n6⟩ := hne
  have hP := h.2.2.2.1.2
  refine ⟨fun q hq => ?_, ?_⟩
  · simp only [List.mem_cons, List.not_mem_nil, or_false] at hq
    rcases hq with rfl | rfl | rfl | rfl
    · exact h.2.2.2.1.1 _ (List.mem_of_getElem? hi)
    · exact h.2.2.2.1.1 _ (List.mem_of_getElem? hj)
    · exact h.2.2.2.1.1 _ (List.mem_of_getElem? hk)
    · exact h.2.2.2.1.1 _ (List.mem_of_getElem? hm)
  · simp [far_at hP hi hj n1, far_at hP hi hk n2, far_at hP hi hm n3, far_at hP hj hk n4, far_at hP hj hm n5, far_at hP hk hm n6]

set_option maxRecDepth 100000 in
set_option maxHeartbeats 6400000 in
theorem owb_size1_any (sa za : Bool) (Aa Ba : Option Addr) (na ca ma da : Nat) (xa : Rat) (sb zb : Bool) (Ab Bb : Option Addr) (nb cb mb db : Nat) (xb : Rat) (sc zc : Bool) (Ac Bc : Option Addr) (nc cc mc dc : Nat) (xc : Rat) (M : Nat) (r : Rat) (w : World) (ia : IsInt w sa Aa na ca xa.num) (ja : IsInt w za Ba ma da (xa.den : Int)) (ib : IsInt w sb Ab nb cb xb.num) (jb : IsInt w zb Bb mb db (xb.den : Int)) (ic : IsInt w sc Ac nc cc xc.num) (jc : IsInt w zc Bc mc dc (xc.den : Int)) (yc : Sz xc M) (yb : Sz xb M) (hM : M ≤ 100000) (h0 : xb ≠ 0) (hr : Hid (xc / xb = r)) :
    Calls Tryz.prog 133 #[.agg #[.bool sa, .slice Aa na ca, .bool za, .slice Ba ma da], .agg #[.bool sb, .slice Ab nb cb, .bool zb, .slice Bb mb db], .agg #[.bool sc, .slice Ac nc cc, .bool zc, .slice Bc mc dc]] w (RetFrO w r) := by
  have K0 := (((((((((((Mo.nil w).int ia).int ja).int ib).int jb).int ic).int jc).var (g := w.heap.size) rfl [.bool sa, .slice Aa na ca, .bool za, .slice Ba ma da] 26).var (g := w.heap.size + 1) (by simp) [.bool sb, .slice Ab nb cb, .bool zb, .slice Bb mb db] 26).var (g := w.heap.size + 1 + 1) (by simp) [.bool sc, .slice Ac nc cc, .bool zc, .slice Bc mc dc] 26).var (g := w.heap.size + 1 + 1 + 1) (by simp) [.bool false, .slice none 0 0, .bool false, .slice none 0 0] 26)
  have H0 := Lib.hid h0
  have P := Lib.hid yc
  have Q := Lib.hid yb
  clear ia ja ib jb ic jc h0 yc yb
  have g01 : ¬ w.heap.size = w.heap.size + 1 := by omega
  have g02 : ¬ w.heap.size = w.heap.size + 1 + 1 := by omega
  have g03 : ¬ w.heap.size = w.heap.size + 1 + 1 + 1 := by omega
  have g10 : ¬ w.heap.size + 1 = w.heap.size := by omega
  have g12 : ¬ w.heap.size + 1 = w.heap.size + 1 + 1 := by omega
  have g13 : ¬ w.heap.size + 1 = w.heap.size + 1 + 1 + 1 := by omega
  have g20 : ¬ w.heap.size + 1 + 1 = w.heap.size := by omega
  have g21 : ¬ w.heap.size + 1 + 1 = w.heap.size + 1 := by omega
  have g23 : ¬ w.heap.size + 1 + 1 = w.heap.size + 1 + 1 + 1 := by omega
  have g30 : ¬ w.heap.size + 1 + 1 + 1 = w.heap.size := by omega
  have g31 : ¬ w.heap.size + 1 + 1 + 1 = w.heap.size + 1 := by omega
  have g32 : ¬ w.heap.size + 1 + 1 + 1 = w.heap.size + 1 + 1 := by omega
  go_enter Tryz.func133, Tryz.ntmps133
  go_upto_region 1 with (fail)
  generalize (((w.alloc (.cells #[.bool sa, .slice Aa na ca, .bool za, .slice Ba ma da] 26)).alloc (.cells #[.bool sb, .slice Ab nb cb, .bool zb, .slice Bb mb db] 26)).alloc (.cells #[.bool sc, .slice Ac nc cc, .bool zc, .slice Bc mc dc] 26)).alloc (.cells #[.bool false, .slice none 0 0, .bool false, .slice none 0 0] 26) = w0 at K0 ⊢
  obtain ⟨⟨p0, p1, p2, p3⟩, _, _⟩ := (K0.blk (g := w.heap.size + 1 + 1) (vs := [.bool sc, .slice Ac nc cc, .bool zc, .slice Bc mc dc]) (by simp)).four
  obtain ⟨⟨q0, q1, q2, q3⟩, _, _⟩ := (K0.blk (g := w.heap.size + 1) (vs := [.bool sb, .slice Ab nb cb, .bool zb, .slice Bb mb db]) (by simp)).four
  go_wp2_with fail
  refine (owr_over_any sc zc Ac Bc nc cc mc dc sb zb Ab Bb nb cb mb db xc xb r M M _ (K0.at_ (List.mem_of_getElem? (i := 1) rfl)) (K0.at_ (List.mem_of_getElem? (i := 0) rfl)) (K0.at_ (List.mem_of_getElem? (i := 3) rfl)) (K0.at_ (List.mem_of_getElem? (i := 2) rfl)) P.out Q.out (by omega) H0.out hr).mono ?_
  rintro e1 w1 ⟨sg, Ag, ng, cg, zg, Bg, mg, dg, rfl, I, J, O, hb1⟩
  have K1 := ((K0.call2 hb1 O).int J).int I
  clear K0 hb1 p0 p1 p2 p3 q0 q1 q2 q3
  obtain ⟨⟨f0, f1, f2, f3⟩, ⟨ff0, ff1, ff2, ff3⟩, _⟩ := (K1.blk (g := w.heap.size + 1 + 1 + 1) (vs := [.bool false, .slice none 0 0, .bool false, .slice none 0 0]) (by simp)).four
  go_wp2_with fail
  have K9 := (K1.pick (L' := [(w.heap.size + 1 + 1 + 1, [.bool false, .slice none 0 0, .bool false, .slice none 0 0])]) (l' := [(sg, Ag, ng, cg, r.num), (zg, Bg, mg, dg, (r.den : Int))]) (by simp) (by simp)).set4 (by simp) sg Ag ng cg zg Bg mg dg
  exact bodyPost_ret (v := .agg #[.bool sg, .slice Ag ng cg, .bool zg, .slice Bg mg dg]) (by simp [results, Tryz.results133, go_sem, f0, f1, f2, f3]) rfl ⟨_, _, _, _, _, _, _, _, rfl, K9.at_ (by simp), K9.at_ (by simp), K9.own2 0 1 rfl rfl (by decide), K9.1⟩
set_option maxRecDepth 100000 in
set_option maxHeartbeats 6400000 in
theorem owb_curve1_any (sa za : Bool) (Aa Ba : Option Addr) (na ca ma da : Nat) (xa : Rat) (sb zb : Bool) (Ab Bb : Option Addr) (nb cb mb db : Nat) (xb : Rat) (sc zc : Bool) (Ac Bc : Option Addr) (nc cc mc dc : Nat) (xc : Rat) (M : Nat) (r : Rat) (w : World) (ia : IsInt w sa Aa na ca xa.num) (ja : IsInt w za Ba ma da (xa.den : Int)) (ib : IsInt w sb Ab nb cb xb.num) (jb : IsInt w zb Bb mb db (xb.den : Int)) (ic : IsInt w sc Ac nc cc xc.num) (jc : IsInt w zc Bc mc dc (xc.den : Int)) (ya : Sz xa M) (yc : Sz xc M) (hM : M ≤ 100000) (h0 : xc ≠ 0) (hr : Hid (xa / xc = r)) :
    Calls Tryz.prog 135 #[.agg #[.bool sa, .slice Aa na ca, .bool za, .slice Ba ma da], .agg #[.bool sb, .slice Ab nb cb, .bool zb, .slice Bb mb db], .agg #[.bool sc, .slice Ac nc cc, .bool zc, .slice Bc mc dc]] w (RetFrO w r) := by
  have K0 := (((((((((((Mo.nil w).int ia).int ja).int ib).int jb).int ic).int jc).var (g := w.heap.size) rfl [.bool sa, .slice Aa na ca, .bool za, .slice Ba ma da] 26).var (g := w.heap.size + 1) (by simp) [.bool sb, .slice Ab nb cb, .bool zb, .slice Bb mb db] 26).var (g := w.heap.size + 1 + 1) (by simp) [.bool sc, .slice Ac nc cc, .bool zc, .slice Bc mc dc] 26).var (g := w.heap.size + 1 + 1 + 1) (by simp) [.bool false, .slice none 0 0, .bool false, .slice none 0 0] 26)
  have H0 := Lib.hid h0
  have P := Lib.hid ya
  have Q := Lib.hid yc
  clear ia ja ib jb ic jc h0 ya yc
  have g01 : ¬ w.heap.size = w.heap.size + 1 := by omega
  have g02 : ¬ w.heap.size = w.heap.size + 1 + 1 := by omega
  have g03 : ¬ w.heap.size = w.heap.size + 1 + 1 + 1 := by omega
  have g10 : ¬ w.heap.size + 1 = w.heap.size := by omega
  have g12 : ¬ w.heap.size + 1 = w.heap.size + 1 + 1 := by omega
  have g13 : ¬ w.heap.size + 1 = w.heap.size + 1 + 1 + 1 := by omega
  have g20 : ¬ w.heap.size + 1 + 1 = w.heap.size := by omega
  have g21 : ¬ w.heap.size + 1 + 1 = w.heap.size + 1 := by omega
  have g23 : ¬ w.heap.size + 1 + 1 = w.heap.size + 1 + 1 + 1 := by omega
  have g30 : ¬ w.heap.size + 1 + 1 + 1 = w.heap.size := by omega
  have g31 : ¬ w.heap.size + 1 + 1 + 1 = w.heap.size + 1 := by omega
  have g32 : ¬ w.heap.size + 1 + 1 + 1 = w.heap.size + 1 + 1 := by omega
  go_enter Tryz.func135, Tryz.ntmps135
  go_upto_region 1 with (fail)
  generalize (((w.alloc (.cells #[.bool sa, .slice Aa na ca, .bool za, .slice Ba ma da] 26)).alloc (.cells #[.bool sb, .slice Ab nb cb, .bool zb, .slice Bb mb db] 26)).alloc (.cells #[.bool sc, .slice Ac nc cc, .bool zc, .slice Bc mc dc] 26)).alloc (.cells #[.bool false, .slice none 0 0, .bool false, .slice none 0 0] 26) = w0 at K0 ⊢
  obtain ⟨⟨p0, p1, p2, p3⟩, _, _⟩ := (K0.blk (g := w.heap.size) (vs := [.bool sa, .slice Aa na ca, .bool za, .slice Ba ma da]) (by simp)).four
  obtain ⟨⟨q0, q1, q2, q3⟩, _, _⟩ := (K0.blk (g := w.heap.size + 1 + 1) (vs := [.bool sc, .slice Ac nc cc, .bool zc, .slice Bc mc dc]) (by simp)).four
  go_wp2_with fail
  refine (owr_over_any sa za Aa Ba na ca ma da sc zc Ac Bc nc cc mc dc xa xc r M M _ (K0.at_ (List.mem_of_getElem? (i := 5) rfl)) (K0.at_ (List.mem_of_getElem? (i := 4) rfl)) (K0.at_ (List.mem_of_getElem? (i := 1) rfl)) (K0.at_ (List.mem_of_getElem? (i := 0) rfl)) P.out Q.out (by omega) H0.out hr).mono ?_
  rintro e1 w1 ⟨sg, Ag, ng, cg, zg, Bg, mg, dg, rfl, I, J, O, hb1⟩
  have K1 := ((K0.call2 hb1 O).int J).int I
  clear K0 hb1 p0 p1 p2 p3 q0 q1 q2 q3
  obtain ⟨⟨f0, f1, f2, f3⟩, ⟨ff0, ff1, ff2, ff3⟩, _⟩ := (K1.blk (g := w.heap.size + 1 + 1 + 1) (vs := [.bool false, .slice none 0 0, .bool false, .slice none 0 0]) (by simp)).four
  go_wp2_with fail
  have K9 := (K1.pick (L' := [(w.heap.size + 1 + 1 + 1, [.bool false, .slice none 0 0, .bool false, .slice none 0 0])]) (l' := [(sg, Ag, ng, cg, r.num), (zg, Bg, mg, dg, (r.den : Int))]) (by simp) (by simp)).set4 (by simp) sg Ag ng cg zg Bg mg dg
  exact bodyPost_ret (v := .agg #[.bool sg, .slice Ag ng cg, .bool zg, .slice Bg mg dg]) (by simp [results, Tryz.results135, go_sem, f0, f1, f2, f3]) rfl ⟨_, _, _, _, _, _, _, _, rfl, K9.at_ (by simp), K9.at_ (by simp), K9.own2 0 1 rfl rfl (by decide), K9.1⟩

set_option maxRecDepth 100000 in
set_option maxHeartbeats 6400000 in
theorem owb_waist_ok (su : Bool) (Au : Option Addr) (nu cu : Nat) (lu : List Nat) (zu : Bool) (Bu : Option Addr) (mu du : Nat) (ku : List Nat) (xu : Rat) (sv : Bool) (Av : Option Addr) (nv cv : Nat) (lv : List Nat) (zv : Bool) (Bv : Option Addr) (mv dv : Nat) (kv : List Nat) (xv : Rat) (w : World) (ou : OkF w ((su, Au, nu, cu, lu), (zu, Bu, mu, du, ku)) xu) (ov : OkF w ((sv, Av, nv, cv, lv), (zv, Bv, mv, dv, kv)) xv) (hv : 0 < xv) :
    Calls Tryz.prog 31 #[.agg #[.bool su, .slice Au nu cu, .bool zu, .slice Bu mu du, .bool sv, .slice Av nv cv, .bool zv, .slice Bv mv dv]] w (RetW2 w xu.num (xu.den : Int) xv.num (xv.den : Int) 0) := by
  have K0 := (((Mo.nil w).var (g := w.heap.size) rfl [.bool su, .slice Au nu cu, .bool zu, .slice Bu mu du, .bool sv, .slice Av nv cv, .bool zv, .slice Bv mv dv] 30).var (g := w.heap.size + 1) (by simp) [.bool false, .slice none 0 0, .bool false, .slice none 0 0] 26).var (g := w.heap.size + 1 + 1) (by simp) [.bool false, .slice none 0 0, .bool false, .slice none 0 0] 26
  have HC := Lib.hid (chkBm_ok ou ov hv)
  replace ou := ou.next K0.1
  replace ov := ov.next K0.1
  have g01 : ¬ w.heap.size = w.heap.size + 1 := by omega
  have g02 : ¬ w.heap.size = w.heap.size + 1 + 1 := by omega
  have g12 : ¬ w.heap.size + 1 = w.heap.size + 1 + 1 := by omega
  have g10 : ¬ w.heap.size + 1 = w.heap.size := by omega
  have g20 : ¬ w.heap.size + 1 + 1 = w.heap.size := by omega
  have g21 : ¬ w.heap.size + 1 + 1 = w.heap.size + 1 := by omega
  clear hv
  go_enter Tryz.func31, Tryz.ntmps31
  go_upto_region 1 with (fail)
  generalize ((w.alloc (.cells #[.bool su, .slice Au nu cu, .bool zu, .slice Bu mu du, .bool sv, .slice Av nv cv, .bool zv, .slice Bv mv dv] 30)).alloc (.cells #[.bool false, .slice none 0 0, .bool false, .slice none 0 0] 26)).alloc (.cells #[.bool false, .slice none 0 0, .bool false, .slice none 0 0] 26) = w0 at K0 ou ov ⊢
  obtain ⟨q0, q1, q2, q3, q4, q5, q6, q7⟩ := (K0.blk (g := w.heap.size) (vs := [.bool su, .slice Au nu cu, .bool zu, .slice Bu mu du, .bool sv, .slice Av nv cv, .bool zv, .slice Bv mv dv]) (by simp)).c8
  go_wp2_with fail
  refine (beam_check_any su Au nu cu lu zu Bu mu du ku sv Av nv cv lv zv Bv mv dv kv _ ou.1 ov.1).mono ?_
  rintro e4 w4 ⟨rfl, hb4⟩
  rw [HC.out]
  have K1 := K0.next hb4
  replace ou := ou.next hb4
  replace ov := ov.next hb4
  clear K0 hb4 q0 q1 q2 q3 q4 q5 q6 q7
  have nu2 := int_len ou.ints.1 ou.ints.2.2.1
  have mu2 := int_len ou.ints.2.1 (by rw [Int.natAbs_natCast]; exact ou.ints.2.2.2)
  have nv2 := int_len ov.ints.1 ov.ints.2.2.1
  have mv2 := int_len ov.ints.2.1 (by rw [Int.natAbs_natCast]; exact ov.ints.2.2.2)
  replace K1 := (((K1.int ov.ints.2.1).int ov.ints.1).int ou.ints.2.1).int ou.ints.1
  clear ou ov
  obtain ⟨q0, q1, q2, q3, q4, q5, q6, q7⟩ := (K1.blk (g := w.heap.size) (vs := [.bool su, .slice Au nu cu, .bool zu, .slice Bu mu du, .bool sv, .slice Av nv cv, .bool zv, .slice Bv mv dv]) (by simp)).c8
  obtain ⟨⟨r0, r1, r2, r3⟩, ⟨rf0, rf1, rf2, rf3⟩, _⟩ := (K1.blk (g := w.heap.size + 1) (vs := [.bool false, .slice none 0 0, .bool false, .slice none 0 0]) (by simp)).four
  obtain ⟨⟨s0, s1, s2, s3⟩, ⟨sf0, sf1, sf2, sf3⟩, _⟩ := (K1.blk (g := w.heap.size + 1 + 1) (vs := [.bool false, .slice none 0 0, .bool false, .slice none 0 0]) (by simp)).four
  go_upto_region 4 with (fail)
  go_region_held3 (fun w' => w'.cell? ⟨w.heap.size, 0, none⟩ = some (.bool su) ∧ w'.cell? ⟨w.heap.size, 1, none⟩ = some (.slice Au nu cu) ∧ w'.cell? ⟨w.heap.size, 2, none⟩ = some (.bool zu) ∧ w'.cell? ⟨w.heap.size, 3, none⟩ = some (.slice Bu mu du) ∧ w'.cell? ⟨w.heap.size, 4, none⟩ = some (.bool sv) ∧ w'.cell? ⟨w.heap.size, 5, none⟩ = some (.slice Av nv cv) ∧ w'.cell? ⟨w.heap.size, 6, none⟩ = some (.bool zv) ∧ w'.cell? ⟨w.heap.size, 7, none⟩ = some (.slice Bv mv dv))
    (go_keep)
    (first
      | (go_at_call 131; apply Calls.withMo (w0 := w); (case K => (repeat (first | (with_reducible exact K5) | (with_reducible apply Mo.drewN) | (with_reducible apply Mo.drew) | (with_reducible apply Mo.varz)))); intro KX; (with_reducible refine (owr_copy_any sv zv Av Bv nv cv mv dv xv _ ?_ ?_ nv2 mv2).mono ?_; with_reducible exact KX.at_ (List.mem_of_getElem? (i := 4) rfl); with_reducible exact KX.at_ (List.mem_of_getElem? (i := 5) rfl)); rintro e6 w6 ⟨sh, Ah, nh, ch, zh, Bh, mh, dh, rfl, I6, J6, O6, hb6⟩; have K6 := ((KX.call2 hb6 O6).int J6).int I6; clear KX; obtain ⟨q6_0, q6_1, q6_2, q6_3, q6_4, q6_5, q6_6, q6_7⟩ := (K6.blk (g := w.heap.size) (vs := [.bool su, .slice Au nu cu, .bool zu, .slice Bu mu du, .bool sv, .slice Av nv cv, .bool zv, .slice Bv mv dv]) (by simp)).c8; obtain ⟨⟨r6_0, r6_1, r6_2, r6_3⟩, ⟨r6_f0, r6_f1, r6_f2, r6_f3⟩, _⟩ := (K6.blk (g := w.heap.size + 1) (vs := [.bool false, .slice none 0 0, .bool false, .slice none 0 0]) (by simp)).four; obtain ⟨⟨s6_0, s6_1, s6_2, s6_3⟩, ⟨s6_f0, s6_f1, s6_f2, s6_f3⟩, _⟩ := (K6.blk (g := w.heap.size + 1 + 1) (vs := [.bool false, .slice none 0 0, .bool false, .slice none 0 0]) (by simp)).four; clear I6 J6 O6 hb6)
      | (go_at_call 131; apply Calls.withMo (w0 := w); (case K => (repeat (first | (with_reducible exact K1) | (with_reducible apply Mo.drewN) | (with_reducible apply Mo.drew) | (with_reducible apply Mo.varz)))); intro KX; (with_reducible refine (owr_copy_any su zu Au Bu nu cu mu du xu _ ?_ ?_ nu2 mu2).mono ?_; with_reducible exact KX.at_ (List.mem_of_getElem? (i := 0) rfl); with_reducible exact KX.at_ (List.mem_of_getElem? (i := 1) rfl)); rintro e5 w5 ⟨sg, Ag, ng, cg, zg, Bg, mg, dg, rfl, I5, J5, O5, hb5⟩; have K5 := ((KX.call2 hb5 O5).int J5).int I5; clear KX; obtain ⟨q5_0, q5_1, q5_2, q5_3, q5_4, q5_5, q5_6, q5_7⟩ := (K5.blk (g := w.heap.size) (vs := [.bool su, .slice Au nu cu, .bool zu, .slice Bu mu du, .bool sv, .slice Av nv cv, .bool zv, .slice Bv mv dv]) (by simp)).c8; clear I5 J5 O5 hb5)
      | fail)
  all_goals
    go_wp2_with fail
    have K7 := (K6.pick (L' := [(w.heap.size + 1, [.bool false, .slice none 0 0, .bool false, .slice none 0 0]), (w.heap.size + 1 + 1, [.bool false, .slice none 0 0, .bool false, .slice none 0 0])]) (l' := [(sg, Ag, ng, cg, xu.num), (zg, Bg, mg, dg, (xu.den : Int)), (sh, Ah, nh, ch, xv.num), (zh, Bh, mh, dh, (xv.den : Int))]) (by simp) (by simp))
    first
      | (have K8 := ((K7.set4 (by simp) sg Ag ng cg zg Bg mg dg).pick (L' := [(w.heap.size + 1 + 1, [.bool false, .slice none 0 0, .bool false, .slice none 0 0])]) (l' := [(sg, Ag, ng, cg, xu.num), (zg, Bg, mg, dg, (xu.den : Int)), (sh, Ah, nh, ch, xv.num), (zh, Bh, mh, dh, (xv.den : Int))]) (by simp) (by simp)).set4 (by simp) sh Ah nh ch zh Bh mh dh; exact bodyPost_ret (v := .tuple #[.agg #[.bool sg, .slice Ag ng cg, .bool zg, .slice Bg mg dg], .agg #[.bool sh, .slice Ah nh ch, .bool zh, .slice Bh mh dh], .int .i64 0]) (by simp [results, Tryz.results31, go_sem, r6_0, r6_1, r6_2, r6_3, s6_0, s6_1, s6_2, s6_3]) rfl ⟨_, _, _, _, _, _, _, _, _, _, _, _, _, _, _, _, rfl, K8.at_ (by simp), K8.at_ (by simp), K8.at_ (by simp), K8.at_ (by simp), K8.own4 2 3 0 1 rfl rfl rfl rfl (by decide), K8.1⟩)
      | (have K8 := (((K7.pick (L' := [(w.heap.size + 1 + 1, [.bool false, .slice none 0 0, .bool false, .slice none 0 0]), (w.heap.size + 1, [.bool false, .slice none 0 0, .bool false, .slice none 0 0])]) (l' := [(sg, Ag, ng, cg, xu.num), (zg, Bg, mg, dg, (xu.den : Int)), (sh, Ah, nh, ch, xv.num), (zh, Bh, mh, dh, (xv.den : Int))]) (by simp) (by simp)).set4 (by simp) sh Ah nh ch zh Bh mh dh).pick (L' := [(w.heap.size + 1, [.bool false, .slice none 0 0, .bool false, .slice none 0 0])]) (l' := [(sg, Ag, ng, cg, xu.num), (zg, Bg, mg, dg, (xu.den : Int)), (sh, Ah, nh, ch, xv.num), (zh, Bh, mh, dh, (xv.den : Int))]) (by simp) (by simp)).set4 (by simp) sg Ag ng cg zg Bg mg dg; exact bodyPost_ret (v := .tuple #[.agg #[.bool sg, .slice Ag ng cg, .bool zg, .slice Bg mg dg], .agg #[.bool sh, .slice Ah nh ch, .bool zh, .slice Bh mh dh], .int .i64 0]) (by simp [results, Tryz.results31, go_sem, r6_0, r6_1, r6_2, r6_3, s6_0, s6_1, s6_2, s6_3]) rfl ⟨_, _, _, _, _, _, _, _, _, _, _, _, _, _, _, _, rfl, K8.at_ (by simp), K8.at_ (by simp), K8.at_ (by simp), K8.at_ (by simp), K8.own4 2 3 0 1 rfl rfl rfl rfl (by decide), K8.1⟩)

set_option maxRecDepth 100000 in
set_option maxHeartbeats 6400000 in
theorem owb_waist_no (su : Bool) (Au : Option Addr) (nu cu : Nat) (lu : List Nat) (zu : Bool) (Bu : Option Addr) (mu du : Nat) (ku : List Nat) (sv : Bool) (Av : Option Addr) (nv cv : Nat) (lv : List Nat) (zv : Bool) (Bv : Option Addr) (mv dv : Nat) (kv : List Nat) (v : Int) (w : World) (au : LmE.at_ w ((su, Au, nu, cu, lu), (zu, Bu, mu, du, ku))) (av : LmE.at_ w ((sv, Av, nv, cv, lv), (zv, Bv, mv, dv, kv))) (hv : Hid (chkBm ((su, Au, nu, cu, lu), (zu, Bu, mu, du, ku)) ((sv, Av, nv, cv, lv), (zv, Bv, mv, dv, kv)) = v)) (h0 : v ≠ 0) :
    Calls Tryz.prog 31 #[.agg #[.bool su, .slice Au nu cu, .bool zu, .slice Bu mu du, .bool sv, .slice Av nv cv, .bool zv, .slice Bv mv dv]] w (RetW2 w 0 0 0 0 v) := by
  have K0 := (((Mm.nil w).var (g := w.heap.size) rfl [.bool su, .slice Au nu cu, .bool zu, .slice Bu mu du, .bool sv, .slice Av nv cv, .bool zv, .slice Bv mv dv] 30).var (g := w.heap.size + 1) (by simp) [.bool false, .slice none 0 0, .bool false, .slice none 0 0] 26).var (g := w.heap.size + 1 + 1) (by simp) [.bool false, .slice none 0 0, .bool false, .slice none 0 0] 26
  have hv0 : (v == 0) = false := by rw [beq_eq_false_iff_ne]; exact h0
  replace au := LmE.at_.below au K0.1
  replace av := LmE.at_.below av K0.1
  clear h0
  have g01 : ¬ w.heap.size = w.heap.size + 1 := by omega
  have g02 : ¬ w.heap.size = w.heap.size + 1 + 1 := by omega
  have g10 : ¬ w.heap.size + 1 = w.heap.size := by omega
  have g12 : ¬ w.heap.size + 1 = w.heap.size + 1 + 1 := by omega
  have g20 : ¬ w.heap.size + 1 + 1 = w.heap.size := by omega
  have g21 : ¬ w.heap.size + 1 + 1 = w.heap.size + 1 := by omega
  go_enter Tryz.func31, Tryz.ntmps31
  go_upto_region 1 with (fail)
  generalize ((w.alloc (.cells #[.bool su, .slice Au nu cu, .bool zu, .slice Bu mu du, .bool sv, .slice Av nv cv, .bool zv, .slice Bv mv dv] 30)).alloc (.cells #[.bool false, .slice none 0 0, .bool false, .slice none 0 0] 26)).alloc (.cells #[.bool false, .slice none 0 0, .bool false, .slice none 0 0] 26) = w0 at K0 au av ⊢
  obtain ⟨q0, q1, q2, q3, q4, q5, q6, q7⟩ := (K0.blk (g := w.heap.size) (vs := [.bool su, .slice Au nu cu, .bool zu, .slice Bu mu du, .bool sv, .slice Av nv cv, .bool zv, .slice Bv mv dv]) (by simp)).c8
  go_wp2_with fail
  refine (beam_check_any su Au nu cu lu zu Bu mu du ku sv Av nv cv lv zv Bv mv dv kv _ au av).mono ?_
  rintro e4 w4 ⟨rfl, hb4⟩
  rw [hv.out]
  have K1 := K0.next hb4
  clear K0 hb4 au av q0 q1 q2 q3 q4 q5 q6 q7
  obtain ⟨⟨r0, r1, r2, r3⟩, ⟨rf0, rf1, rf2, rf3⟩, _⟩ := (K1.blk (g := w.heap.size + 1) (vs := [.bool false, .slice none 0 0, .bool false, .slice none 0 0]) (by simp)).four
  obtain ⟨⟨s0, s1, s2, s3⟩, ⟨sf0, sf1, sf2, sf3⟩, _⟩ := (K1.blk (g := w.heap.size + 1 + 1) (vs := [.bool false, .slice none 0 0, .bool false, .slice none 0 0]) (by simp)).four
  go_wp2_with fail
  have K9 := ((((K1).pick (L' := [(w.heap.size + 1, [.bool false, .slice none 0 0, .bool false, .slice none 0 0]), (w.heap.size + 1 + 1, [.bool false, .slice none 0 0, .bool false, .slice none 0 0])]) (l' := []) (by simp) (by simp)).set4 (by simp) false none 0 0 false none 0 0).pick (L' := [(w.heap.size + 1 + 1, [.bool false, .slice none 0 0, .bool false, .slice none 0 0]), (w.heap.size + 1, [.bool false, .slice none 0 0, .bool false, .slice none 0 0])]) (l' := []) (by simp) (by simp)).set4 (by simp) false none 0 0 false none 0 0
  exact bodyPost_ret (v := .tuple #[.agg #[.bool false, .slice none 0 0, .bool false, .slice none 0 0], .agg #[.bool false, .slice none 0 0, .bool false, .slice none 0 0], .int .i64 v]) (by simp [results, Tryz.results31, go_sem, r0, r1, r2, r3, s0, s1, s2, s3]) rfl ⟨false, none, 0, 0, false, none, 0, 0, false, none, 0, 0, false, none, 0, 0, rfl, isInt_nought, isInt_nought, isInt_nought, isInt_nought, owns_nil4 _ _, K9.1⟩
set_option maxRecDepth 100000 in
set_option maxHeartbeats 6400000 in
theorem owb_asked_size_no (su : Bool) (Au : Option Addr) (nu cu : Nat) (lu : List Nat) (zu : Bool) (Bu : Option Addr) (mu du : Nat) (ku : List Nat) (sv : Bool) (Av : Option Addr) (nv cv : Nat) (lv : List Nat) (zv : Bool) (Bv : Option Addr) (mv dv : Nat) (kv : List Nat) (v : Int) (w : World) (au : LmE.at_ w ((su, Au, nu, cu, lu), (zu, Bu, mu, du, ku))) (av : LmE.at_ w ((sv, Av, nv, cv, lv), (zv, Bv, mv, dv, kv))) (hv : Hid (chkBm ((su, Au, nu, cu, lu), (zu, Bu, mu, du, ku)) ((sv, Av, nv, cv, lv), (zv, Bv, mv, dv, kv)) = v)) (h0 : v ≠ 0) :
    Calls Tryz.prog 132 #[.agg #[.bool su, .slice Au nu cu, .bool zu, .slice Bu mu du, .bool sv, .slice Av nv cv, .bool zv, .slice Bv mv dv], .func (.func 133) #[] #[]] w (RetF2 w 0 0 v) := by
  have K0 := ((Mm.nil w).var (g := w.heap.size) rfl [.bool su, .slice Au nu cu, .bool zu, .slice Bu mu du, .bool sv, .slice Av nv cv, .bool zv, .slice Bv mv dv] 30).var (g := w.heap.size + 1) (by simp) [.bool false, .slice none 0 0, .bool false, .slice none 0 0] 26
  have hv0 : (v == 0) = false := by rw [beq_eq_false_iff_ne]; exact h0
  replace au := LmE.at_.below au K0.1
  replace av := LmE.at_.below av K0.1
  clear h0
  have g01 : ¬ w.heap.size = w.heap.size + 1 := by omega
  have g10 : ¬ w.heap.size + 1 = w.heap.size := by omega
  go_enter Tryz.func132, Tryz.ntmps132
  go_upto_region 1 with (fail)
  generalize (w.alloc (.cells #[.bool su, .slice Au nu cu, .bool zu, .slice Bu mu du, .bool sv, .slice Av nv cv, .bool zv, .slice Bv mv dv] 30)).alloc (.cells #[.bool false, .slice none 0 0, .bool false, .slice none 0 0] 26) = w0 at K0 au av ⊢
  obtain ⟨q0, q1, q2, q3, q4, q5, q6, q7⟩ := (K0.blk (g := w.heap.size) (vs := [.bool su, .slice Au nu cu, .bool zu, .slice Bu mu du, .bool sv, .slice Av nv cv, .bool zv, .slice Bv mv dv]) (by simp)).c8
  go_wp2_with fail
  refine (beam_check_any su Au nu cu lu zu Bu mu du ku sv Av nv cv lv zv Bv mv dv kv _ au av).mono ?_
  rintro e4 w4 ⟨rfl, hb4⟩
  rw [hv.out]
  have K1 := K0.next hb4
  clear K0 hb4 au av q0 q1 q2 q3 q4 q5 q6 q7
  obtain ⟨⟨r0, r1, r2, r3⟩, ⟨rf0, rf1, rf2, rf3⟩, _⟩ := (K1.blk (g := w.heap.size + 1) (vs := [.bool false, .slice none 0 0, .bool false, .slice none 0 0]) (by simp)).four
  go_wp2_with fail
  have K9 := ((K1).pick (L' := [(w.heap.size + 1, [.bool false, .slice none 0 0, .bool false, .slice none 0 0])]) (l' := []) (by simp) (by simp)).set4 (by simp) false none 0 0 false none 0 0
  exact bodyPost_ret (v := .tuple #[.agg #[.bool false, .slice none 0 0, .bool false, .slice none 0 0], .int .i64 v]) (by simp [results, Tryz.results132, go_sem, r0, r1, r2, r3]) rfl ⟨false, none, 0, 0, false, none, 0, 0, rfl, isInt_nought, isInt_nought, owns_nil2 _ _, K9.1⟩
set_option maxRecDepth 100000 in
set_option maxHeartbeats 6400000 in
theorem owb_asked_curve_no (su : Bool) (Au : Option Addr) (nu cu : Nat) (lu : List Nat) (zu : Bool) (Bu : Option Addr) (mu du : Nat) (ku : List Nat) (sv : Bool) (Av : Option Addr) (nv cv : Nat) (lv : List Nat) (zv : Bool) (Bv : Option Addr) (mv dv : Nat) (kv : List Nat) (v : Int) (w : World) (au : LmE.at_ w ((su, Au, nu, cu, lu), (zu, Bu, mu, du, ku))) (av : LmE.at_ w ((sv, Av, nv, cv, lv), (zv, Bv, mv, dv, kv))) (hv : Hid (chkBm ((su, Au, nu, cu, lu), (zu, Bu, mu, du, ku)) ((sv, Av, nv, cv, lv), (zv, Bv, mv, dv, kv)) = v)) (h0 : v ≠ 0) :
    Calls Tryz.prog 132 #[.agg #[.bool su, .slice Au nu cu, .bool zu, .slice Bu mu du, .bool sv, .slice Av nv cv, .bool zv, .slice Bv mv dv], .func (.func 135) #[] #[]] w (RetF2 w 0 0 v) := by
  have K0 := ((Mm.nil w).var (g := w.heap.size) rfl [.bool su, .slice Au nu cu, .bool zu, .slice Bu mu du, .bool sv, .slice Av nv cv, .bool zv, .slice Bv mv dv] 30).var (g := w.heap.size + 1) (by simp) [.bool false, .slice none 0 0, .bool false, .slice none 0 0] 26
  have hv0 : (v == 0) = false := by rw [beq_eq_false_iff_ne]; exact h0
  replace au := LmE.at_.below au K0.1
  replace av := LmE.at_.below av K0.1
  clear h0
  have g01 : ¬ w.heap.size = w.heap.size + 1 := by omega
  have g10 : ¬ w.heap.size + 1 = w.heap.size := by omega
  go_enter Tryz.func132, Tryz.ntmps132
  go_upto_region 1 with (fail)
  generalize (w.alloc (.cells #[.bool su, .slice Au nu cu, .bool zu, .slice Bu mu du, .bool sv, .slice Av nv cv, .bool zv, .slice Bv mv dv] 30)).alloc (.cells #[.bool false, .slice none 0 0, .bool false, .slice none 0 0] 26) = w0 at K0 au av ⊢
  obtain ⟨q0, q1, q2, q3, q4, q5, q6, q7⟩ := (K0.blk (g := w.heap.size) (vs := [.bool su, .slice Au nu cu, .bool zu, .slice Bu mu du, .bool sv, .slice Av nv cv, .bool zv, .slice Bv mv dv]) (by simp)).c8
  go_wp2_with fail
  refine (beam_check_any su Au nu cu lu zu Bu mu du ku sv Av nv cv lv zv Bv mv dv kv _ au av).mono ?_
  rintro e4 w4 ⟨rfl, hb4⟩
  rw [hv.out]
  have K1 := K0.next hb4
  clear K0 hb4 au av q0 q1 q2 q3 q4 q5 q6 q7
  obtain ⟨⟨r0, r1, r2, r3⟩, ⟨rf0, rf1, rf2, rf3⟩, _⟩ := (K1.blk (g := w.heap.size + 1) (vs := [.bool false, .slice none 0 0, .bool false, .slice none 0 0]) (by simp)).four
  go_wp2_with fail
  have K9 := ((K1).pick (L' := [(w.heap.size + 1, [.bool false, .slice none 0 0, .bool false, .slice none 0 0])]) (l' := []) (by simp) (by simp)).set4 (by simp) false none 0 0 false none 0 0
  exact bodyPost_ret (v := .tuple #[.agg #[.bool false, .slice none 0 0, .bool false, .slice none 0 0], .int .i64 v]) (by simp [results, Tryz.results132, go_sem, r0, r1, r2, r3]) rfl ⟨false, none, 0, 0, false, none, 0, 0, rfl, isInt_nought, isInt_nought, owns_nil2 _ _, K9.1⟩
end Go.Proofs.YtmmplomkginadaaGreatDoor
