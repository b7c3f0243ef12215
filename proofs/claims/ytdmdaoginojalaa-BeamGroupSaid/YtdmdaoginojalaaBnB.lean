/-
  What keeps the first refusal of a matrix reckoning (keeper.matrix, answer, asMatrix).
-/
import Derived.Test.YtdmdaoginojalaaBnA
import Derived.Laws.Cover3
namespace Go.Proofs.Ytdmdaoginojalaa
open Go.RowKit

/-- Nothing is answered. -/
def RetU (W : World) (e : Ending) (w' : World) : Prop := e = .returned (.tuple #[]) ∧ Below W.heap.size W w'
/-- Four fractions that may be, in a row. -/
def RetL4 (W : World) (x y z t : Rat) (e : Ending) (w' : World) : Prop :=
  ∃ (g cp : Nat) (sa : Bool) (Aa : Option Addr) (na ca : Nat) (la : List Nat) (za : Bool) (Ba : Option Addr) (ma da : Nat) (ka : List Nat) (sb : Bool) (Ab : Option Addr) (nb cb : Nat) (lb : List Nat) (zb : Bool) (Bb : Option Addr) (mb db : Nat) (kb : List Nat) (sc : Bool) (Ac : Option Addr) (nc cc : Nat) (lc : List Nat) (zc : Bool) (Bc : Option Addr) (mc dc : Nat) (kc : List Nat) (sd : Bool) (Ad : Option Addr) (nd cd : Nat) (ld : List Nat) (zd : Bool) (Bd : Option Addr) (md dd : Nat) (kd : List Nat), e = .returned (.slice (some ⟨g, 0, none⟩) 4 cp) ∧ 4 ≤ cp ∧ Blk w' g [.bool sa, .slice Aa na ca, .bool za, .slice Ba ma da, .bool sb, .slice Ab nb cb, .bool zb, .slice Bb mb db, .bool sc, .slice Ac nc cc, .bool zc, .slice Bc mc dc, .bool sd, .slice Ad nd cd, .bool zd, .slice Bd md dd] ∧ OkF w' ((sa, Aa, na, ca, la), (za, Ba, ma, da, ka)) x ∧ OkF w' ((sb, Ab, nb, cb, lb), (zb, Bb, mb, db, kb)) y ∧ OkF w' ((sc, Ac, nc, cc, lc), (zc, Bc, mc, dc, kc)) z ∧ OkF w' ((sd, Ad, nd, cd, ld), (zd, Bd, md, dd, kd)) t ∧ Below W.heap.size W w'
/-- A matrix that may be, and no refusal. -/
def RetMo (W : World) (x y z t : Rat) (e : Ending) (w' : World) : Prop :=
  ∃ (sa : Bool) (Aa : Option Addr) (na ca : Nat) (la : List Nat) (za : Bool) (Ba : Option Addr) (ma da : Nat) (ka : List Nat) (sb : Bool) (Ab : Option Addr) (nb cb : Nat) (lb : List Nat) (zb : Bool) (Bb : Option Addr) (mb db : Nat) (kb : List Nat) (sc : Bool) (Ac : Option Addr) (nc cc : Nat) (lc : List Nat) (zc : Bool) (Bc : Option Addr) (mc dc : Nat) (kc : List Nat) (sd : Bool) (Ad : Option Addr) (nd cd : Nat) (ld : List Nat) (zd : Bool) (Bd : Option Addr) (md dd : Nat) (kd : List Nat), e = .returned (.tuple #[.agg #[.bool sa, .slice Aa na ca, .bool za, .slice Ba ma da, .bool sb, .slice Ab nb cb, .bool zb, .slice Bb mb db, .bool sc, .slice Ac nc cc, .bool zc, .slice Bc mc dc, .bool sd, .slice Ad nd cd, .bool zd, .slice Bd md dd], .int .i64 0]) ∧ OkF w' ((sa, Aa, na, ca, la), (za, Ba, ma, da, ka)) x ∧ OkF w' ((sb, Ab, nb, cb, lb), (zb, Bb, mb, db, kb)) y ∧ OkF w' ((sc, Ac, nc, cc, lc), (zc, Bc, mc, dc, kc)) z ∧ OkF w' ((sd, Ad, nd, cd, ld), (zd, Bd, md, dd, kd)) t ∧ Below W.heap.size W w'
theorem keep_arr {α : Type} (a : Array α) (i : Nat) (v : α) (h : a[i]? = some v) : a.setIfInBounds i v = a := by
  apply Array.ext_getElem?
  intro j
  rw [Array.getElem?_setIfInBounds]
  split
  · rename_i e
    subst e
    split
    · exact h.symm
    · rename_i hl
      rw [Array.getElem?_eq_none (by omega)] at h
      cases h
  · rfl
/-- A store of what a cell holds turns nothing. -/
theorem keep_same {w : World} {g j : Nat} {v : Value} (h : w.cell? ⟨g, j, none⟩ = some v) : w.setCell ⟨g, j, none⟩ v = w := by
  unfold World.setCell
  have e : (w.heap.modify g fun
      | .cells c elem frozen => .cells (if (none : Option Nat).isSome then c else c.setIfInBounds j v) elem frozen
      | o => o) = w.heap := by
    apply Array.ext_getElem?
    intro i
    rw [Array.getElem?_modify]
    split
    · rename_i e
      subst e
      unfold World.cell? at h
      simp only at h
      cases hg : w.heap[g]? with
      | none => rfl
      | some o =>
        rw [hg] at h
        cases o with
        | cells c t fr =>
          simp at h
          simp only [Option.map_some, Option.isSome_none, Bool.false_eq_true, if_false]
          rw [keep_arr c j v h]
        | _ => cases h
    · rfl
  show ({ w with heap := _ } : World) = w
  exact congrArg (fun hp => ({ w with heap := hp } : World)) e
theorem lfs_of_blk {w : World} {g : Nat} {a b c d : LmE} (hB : Blk w g (a.vs ++ b.vs ++ c.vs ++ d.vs)) (ha : LmE.at_ w a) (hb : LmE.at_ w b) (hc : LmE.at_ w c) (hd : LmE.at_ w d) : Lfs w g 4 (four a b c d) := by
  refine ⟨hB.1, fun i hi => ?_⟩
  match i, hi with
  | 0, _ => exact ⟨⟨(hB.2 0 _ rfl).1, (hB.2 1 _ rfl).1, (hB.2 2 _ rfl).1, (hB.2 3 _ rfl).1⟩, ha⟩
  | 1, _ => exact ⟨⟨(hB.2 4 _ rfl).1, (hB.2 5 _ rfl).1, (hB.2 6 _ rfl).1, (hB.2 7 _ rfl).1⟩, hb⟩
  | 2, _ => exact ⟨⟨(hB.2 8 _ rfl).1, (hB.2 9 _ rfl).1, (hB.2 10 _ rfl).1, (hB.2 11 _ rfl).1⟩, hc⟩
  | 3, _ => exact ⟨⟨(hB.2 12 _ rfl).1, (hB.2 13 _ rfl).1, (hB.2 14 _ rfl).1, (hB.2 15 _ rfl).1⟩, hd⟩
theorem OkF.lens {w : World} {f : LmE} {r : Rat} (h : OkF w f r) : f.1.2.2.1 ≤ 2048 ∧ f.2.2.2.1 ≤ 2048 :=
  ⟨int_len h.ints.1 h.ints.2.2.1, int_len h.ints.2.1 (by rw [Int.natAbs_natCast]; exact h.ints.2.2.2)⟩
theorem short_four {w : World} {a b c d : LmE} {x y z t : Rat} (ha : OkF w a x) (hb : OkF w b y) (hc : OkF w c z) (hd : OkF w d t) : Short (four a b c d) 4 := fun i hi => by
  match i, hi with
  | 0, _ => exact ha.lens
  | 1, _ => exact hb.lens
  | 2, _ => exact hc.lens
  | 3, _ => exact hd.lens

set_option maxRecDepth 100000 in
set_option maxHeartbeats 6400000 in
theorem keeper_matrix_ok (gk : Nat) (sa : Bool) (Aa : Option Addr) (na ca : Nat) (la : List Nat) (za : Bool) (Ba : Option Addr) (ma da : Nat) (ka : List Nat) (xa : Rat) (sb : Bool) (Ab : Option Addr) (nb cb : Nat) (lb : List Nat) (zb : Bool) (Bb : Option Addr) (mb db : Nat) (kb : List Nat) (xb : Rat) (sc : Bool) (Ac : Option Addr) (nc cc : Nat) (lc : List Nat) (zc : Bool) (Bc : Option Addr) (mc dc : Nat) (kc : List Nat) (xc : Rat) (sd : Bool) (Ad : Option Addr) (nd cd : Nat) (ld : List Nat) (zd : Bool) (Bd : Option Addr) (md dd : Nat) (kd : List Nat) (xd : Rat) (w : World) (oa : OkF w ((sa, Aa, na, ca, la), (za, Ba, ma, da, ka)) xa) (ob : OkF w ((sb, Ab, nb, cb, lb), (zb, Bb, mb, db, kb)) xb) (oc : OkF w ((sc, Ac, nc, cc, lc), (zc, Bc, mc, dc, kc)) xc) (od : OkF w ((sd, Ad, nd, cd, ld), (zd, Bd, md, dd, kd)) xd) (hdet : xa * xd - xb * xc = 1) (hgk : gk < w.heap.size) (hck : w.cell? ⟨gk, 0, none⟩ = some (.int .i64 0)) (hfk : w.frozen? ⟨gk, 0, none⟩ = false) :
    Calls Try.prog 29 #[.pointer (some ⟨gk, 0, none⟩), .agg #[.bool sa, .slice Aa na ca, .bool za, .slice Ba ma da, .bool sb, .slice Ab nb cb, .bool zb, .slice Bb mb db, .bool sc, .slice Ac nc cc, .bool zc, .slice Bc mc dc, .bool sd, .slice Ad nd cd, .bool zd, .slice Bd md dd]] w (RetU w) := by
  have K0 := (Mm.nil w).var (g := w.heap.size) rfl [.bool sa, .slice Aa na ca, .bool za, .slice Ba ma da, .bool sb, .slice Ab nb cb, .bool zb, .slice Bb mb db, .bool sc, .slice Ac nc cc, .bool zc, .slice Bc mc dc, .bool sd, .slice Ad nd cd, .bool zd, .slice Bd md dd] 28
  have HC : Hid (chkM ((sa, Aa, na, ca, la), (za, Ba, ma, da, ka)) ((sb, Ab, nb, cb, lb), (zb, Bb, mb, db, kb)) ((sc, Ac, nc, cc, lc), (zc, Bc, mc, dc, kc)) ((sd, Ad, nd, cd, ld), (zd, Bd, md, dd, kd)) = 0) := Lib.hid (by unfold chkM; rw [okM_ok oa ob oc od hdet]; rfl)
  replace oa := oa.next K0.1
  replace ob := ob.next K0.1
  replace oc := oc.next K0.1
  replace od := od.next K0.1
  have hck0 : _ := ((bcell K0.1).1 gk 0 hgk).trans hck
  have hfk0 : _ := ((bcell K0.1).2 gk 0 hgk).trans hfk
  have ngk : ¬ gk = w.heap.size := by omega
  have ngk2 : ¬ w.heap.size = gk := by omega
  clear hdet
  go_enter Try.func29, Try.ntmps29
  go_upto_region 1 with (fail)
  generalize w.alloc (.cells #[.bool sa, .slice Aa na ca, .bool za, .slice Ba ma da, .bool sb, .slice Ab nb cb, .bool zb, .slice Bb mb db, .bool sc, .slice Ac nc cc, .bool zc, .slice Bc mc dc, .bool sd, .slice Ad nd cd, .bool zd, .slice Bd md dd] 28) = w0 at K0 oa ob oc od hck0 hfk0 ⊢
  obtain ⟨p0, p1, p2, p3, p4, p5, p6, p7, p8, p9, p10, p11, p12, p13, p14, p15⟩ := (K0.blk (g := w.heap.size) (vs := [.bool sa, .slice Aa na ca, .bool za, .slice Ba ma da, .bool sb, .slice Ab nb cb, .bool zb, .slice Bb mb db, .bool sc, .slice Ac nc cc, .bool zc, .slice Bc mc dc, .bool sd, .slice Ad nd cd, .bool zd, .slice Bd md dd]) (by simp)).c16
  go_wp2_with fail
  refine (ray_check_any sa Aa na ca la za Ba ma da ka sb Ab nb cb lb zb Bb mb db kb sc Ac nc cc lc zc Bc mc dc kc sd Ad nd cd ld zd Bd md dd kd _ oa.1 ob.1 oc.1 od.1).mono ?_
  rintro e1 w1 ⟨rfl, hb⟩
  rw [HC.out]
  have K1 := K0.next hb
  clear K0 hb p0 p1 p2 p3 p4 p5 p6 p7 p8 p9 p10 p11 p12 p13 p14 p15 oa ob oc od hck0 hfk0
  have hck1 : _ := ((bcell K1.1).1 gk 0 hgk).trans hck
  have hfk1 : _ := ((bcell K1.1).2 gk 0 hgk).trans hfk
  go_wp2_with fail
  rw [keep_same hck1]
  exact bodyPost_end (v := .tuple #[]) (by simp [results, Try.results29]) rfl ⟨rfl, K1.1⟩

set_option maxRecDepth 100000 in
set_option maxHeartbeats 6400000 in
theorem keeper_answer_back (gk : Nat) (cp0 : Value) (x y z t : Rat) (w : World) (hgk : gk < w.heap.size) (hck : w.cell? ⟨gk, 0, none⟩ = some (.int .i64 0)) (hfk : w.frozen? ⟨gk, 0, none⟩ = false) (hcl : ∀ W, Below w.heap.size w W → Calls Try.prog 34 #[cp0] W (RetL4 W x y z t)) :
    Calls Try.prog 65 #[.pointer (some ⟨gk, 0, none⟩), .func (.func 34) #[] #[cp0]] w (RetL4 w x y z t) := by
  have HCL := Lib.hid hcl
  clear hcl
  go_enter Try.func65, Try.ntmps65
  go_wp2_with fail
  refine (HCL.out w (Below.refl _ _)).mono ?_
  rintro e1 w1 ⟨g, cp, sa, Aa, na, ca, la, za, Ba, ma, da, ka, sb, Ab, nb, cb, lb, zb, Bb, mb, db, kb, sc, Ac, nc, cc, lc, zc, Bc, mc, dc, kc, sd, Ad, nd, cd, ld, zd, Bd, md, dd, kd, rfl, hcp, hB, oa, ob, oc, od, hb1⟩
  have hck1 : _ := ((bcell hb1).1 gk 0 hgk).trans hck
  have hfk1 : _ := ((bcell hb1).2 gk 0 hgk).trans hfk
  have HSH := Lib.hid (short_four oa ob oc od)
  have HLF := Lib.hid (lfs_of_blk (a := ((sa, Aa, na, ca, la), (za, Ba, ma, da, ka))) (b := ((sb, Ab, nb, cb, lb), (zb, Bb, mb, db, kb))) (c := ((sc, Ac, nc, cc, lc), (zc, Bc, mc, dc, kc))) (d := ((sd, Ad, nd, cd, ld), (zd, Bd, md, dd, kd))) hB oa.1 ob.1 oc.1 od.1)
  go_wp2_with fail
  refine (rat_answer_all g 4 cp _ _ HLF.out (by decide) hcp HSH.out).mono ?_
  rintro e2 w2 ⟨rfl, hb2⟩
  replace hB := hB.next hb2
  replace oa := oa.next hb2
  replace ob := ob.next hb2
  replace oc := oc.next hb2
  replace od := od.next hb2
  have hb3 := below_next hb1 hb2
  have hck2 : _ := ((bcell hb3).1 gk 0 hgk).trans hck
  have hfk2 : _ := ((bcell hb3).2 gk 0 hgk).trans hfk
  clear HSH HLF hb1 hb2 hck1 hfk1
  go_wp2_with fail
  rw [keep_same hck2]
  go_wp2_with fail
  go_ret
  exact ⟨g, cp, _, _, _, _, _, _, _, _, _, _, _, _, _, _, _, _, _, _, _, _, _, _, _, _, _, _, _, _, _, _, _, _, _, _, _, _, _, _, _, _, rfl, hcp, hB, oa, ob, oc, od, hb3⟩
set_option maxRecDepth 100000 in
set_option maxHeartbeats 6400000 in
theorem keeper_asMatrix_back (gk : Nat) (cp0 : Value) (x y z t : Rat) (w : World) (hgk : gk < w.heap.size) (hck : w.cell? ⟨gk, 0, none⟩ = some (.int .i64 0)) (hfk : w.frozen? ⟨gk, 0, none⟩ = false) (hcl : ∀ W, Below w.heap.size w W → Calls Try.prog 34 #[cp0] W (RetL4 W x y z t)) :
    Calls Try.prog 30 #[.pointer (some ⟨gk, 0, none⟩), .func (.func 34) #[] #[cp0]] w (RetMo w x y z t) := by
  have K0 := (Mm.nil w).var (g := w.heap.size) rfl [.bool false, .slice none 0 0, .bool false, .slice none 0 0, .bool false, .slice none 0 0, .bool false, .slice none 0 0, .bool false, .slice none 0 0, .bool false, .slice none 0 0, .bool false, .slice none 0 0, .bool false, .slice none 0 0] 28
  have hck0 : _ := ((bcell K0.1).1 gk 0 hgk).trans hck
  have hfk0 : _ := ((bcell K0.1).2 gk 0 hgk).trans hfk
  have HCL : Hid (∀ W, Below (w.alloc (.cells #[.bool false, .slice none 0 0, .bool false, .slice none 0 0, .bool false, .slice none 0 0, .bool false, .slice none 0 0, .bool false, .slice none 0 0, .bool false, .slice none 0 0, .bool false, .slice none 0 0, .bool false, .slice none 0 0] 28)).heap.size (w.alloc (.cells #[.bool false, .slice none 0 0, .bool false, .slice none 0 0, .bool false, .slice none 0 0, .bool false, .slice none 0 0, .bool false, .slice none 0 0, .bool false, .slice none 0 0, .bool false, .slice none 0 0, .bool false, .slice none 0 0] 28)) W → Calls Try.prog 34 #[cp0] W (RetL4 W x y z t)) := Lib.hid (fun W hb => hcl W (below_next K0.1 hb))
  have hgk0 : gk < (w.alloc (.cells #[.bool false, .slice none 0 0, .bool false, .slice none 0 0, .bool false, .slice none 0 0, .bool false, .slice none 0 0, .bool false, .slice none 0 0, .bool false, .slice none 0 0, .bool false, .slice none 0 0, .bool false, .slice none 0 0] 28)).heap.size := Nat.lt_of_lt_of_le hgk K0.1.size
  have hat : ∀ (a : Option Addr) (c : Nat) (w : World), (Instr.arrayAt 73 (.slice a 4 c)).run Try.prog w = .ok (.pointer a) w := fun a c w => run_arrayAt w 73 26 4 _ 4 c (by kernel_rfl) (Nat.le_refl _)
  clear hcl
  go_enter Try.func30, Try.ntmps30
  go_upto_region 1 with (fail)
  generalize w.alloc (.cells #[.bool false, .slice none 0 0, .bool false, .slice none 0 0, .bool false, .slice none 0 0, .bool false, .slice none 0 0, .bool false, .slice none 0 0, .bool false, .slice none 0 0, .bool false, .slice none 0 0, .bool false, .slice none 0 0] 28) = w0 at K0 hck0 hfk0 hgk0 HCL ⊢
  go_wp2_with fail
  refine (keeper_answer_back gk cp0 x y z t _ hgk0 hck0 hfk0 HCL.out).mono ?_
  rintro e1 w1 ⟨g, cp, sa, Aa, na, ca, la, za, Ba, ma, da, ka, sb, Ab, nb, cb, lb, zb, Bb, mb, db, kb, sc, Ac, nc, cc, lc, zc, Bc, mc, dc, kc, sd, Ad, nd, cd, ld, zd, Bd, md, dd, kd, rfl, hcp, hB, oa, ob, oc, od, hb1⟩
  have K1 := K0.next hb1
  clear K0 hb1 hck0 hfk0 hgk0 HCL
  obtain ⟨p0, p1, p2, p3, p4, p5, p6, p7, p8, p9, p10, p11, p12, p13, p14, p15⟩ := hB.c16
  go_wp2_with fail
  refine (four_matrix_any sa Aa na ca za Ba ma da sb Ab nb cb zb Bb mb db sc Ac nc cc zc Bc mc dc sd Ad nd cd zd Bd md dd _).mono ?_
  rintro e2 w2 ⟨rfl, hb2⟩
  have K2 := K1.next hb2
  replace oa := oa.next hb2
  replace ob := ob.next hb2
  replace oc := oc.next hb2
  replace od := od.next hb2
  clear K1 hb2 p0 p1 p2 p3 p4 p5 p6 p7 p8 p9 p10 p11 p12 p13 p14 p15 hB
  obtain ⟨f0, f1, f2, f3, f4, f5, f6, f7, f8, f9, f10, f11, f12, f13, f14, f15⟩ := (K2.blk (g := w.heap.size) (vs := [.bool false, .slice none 0 0, .bool false, .slice none 0 0, .bool false, .slice none 0 0, .bool false, .slice none 0 0, .bool false, .slice none 0 0, .bool false, .slice none 0 0, .bool false, .slice none 0 0, .bool false, .slice none 0 0]) (by simp)).c16
  obtain ⟨ff0, ff1, ff2, ff3, ff4, ff5, ff6, ff7, ff8, ff9, ff10, ff11, ff12, ff13, ff14, ff15, _⟩ := (K2.blk (g := w.heap.size) (vs := [.bool false, .slice none 0 0, .bool false, .slice none 0 0, .bool false, .slice none 0 0, .bool false, .slice none 0 0, .bool false, .slice none 0 0, .bool false, .slice none 0 0, .bool false, .slice none 0 0, .bool false, .slice none 0 0]) (by simp)).f16
  go_wp2_with fail
  have K9 := (((((((((K2.int oa.ints.1).int oa.ints.2.1).int ob.ints.1).int ob.ints.2.1).int oc.ints.1).int oc.ints.2.1).int od.ints.1).int od.ints.2.1).pick (L' := [(w.heap.size, [.bool false, .slice none 0 0, .bool false, .slice none 0 0, .bool false, .slice none 0 0, .bool false, .slice none 0 0, .bool false, .slice none 0 0, .bool false, .slice none 0 0, .bool false, .slice none 0 0, .bool false, .slice none 0 0])]) (l' := [(sa, Aa, na, ca, x.num), (za, Ba, ma, da, (x.den : Int)), (sb, Ab, nb, cb, y.num), (zb, Bb, mb, db, (y.den : Int)), (sc, Ac, nc, cc, z.num), (zc, Bc, mc, dc, (z.den : Int)), (sd, Ad, nd, cd, t.num), (zd, Bd, md, dd, (t.den : Int))]) (by simp) (by simp)).set16 (by simp) sa Aa na ca za Ba ma da sb Ab nb cb zb Bb mb db sc Ac nc cc zc Bc mc dc sd Ad nd cd zd Bd md dd
  obtain ⟨l9a, k9a, o9a⟩ := okF_of (r := x) (K9.at_ (neg := sa) (A := Aa) (n := na) (c := ca) (z := x.num) (by simp)) (K9.at_ (neg := za) (A := Ba) (n := ma) (c := da) (z := ((x.den : Nat) : Int)) (by simp)) oa.ints.2.2
  obtain ⟨l9b, k9b, o9b⟩ := okF_of (r := y) (K9.at_ (neg := sb) (A := Ab) (n := nb) (c := cb) (z := y.num) (by simp)) (K9.at_ (neg := zb) (A := Bb) (n := mb) (c := db) (z := ((y.den : Nat) : Int)) (by simp)) ob.ints.2.2
  obtain ⟨l9c, k9c, o9c⟩ := okF_of (r := z) (K9.at_ (neg := sc) (A := Ac) (n := nc) (c := cc) (z := z.num) (by simp)) (K9.at_ (neg := zc) (A := Bc) (n := mc) (c := dc) (z := ((z.den : Nat) : Int)) (by simp)) oc.ints.2.2
  obtain ⟨l9d, k9d, o9d⟩ := okF_of (r := t) (K9.at_ (neg := sd) (A := Ad) (n := nd) (c := cd) (z := t.num) (by simp)) (K9.at_ (neg := zd) (A := Bd) (n := md) (c := dd) (z := ((t.den : Nat) : Int)) (by simp)) od.ints.2.2
  exact bodyPost_ret (v := .tuple #[.agg #[.bool sa, .slice Aa na ca, .bool za, .slice Ba ma da, .bool sb, .slice Ab nb cb, .bool zb, .slice Bb mb db, .bool sc, .slice Ac nc cc, .bool zc, .slice Bc mc dc, .bool sd, .slice Ad nd cd, .bool zd, .slice Bd md dd], .int .i64 0]) (by simp [results, Try.results30, go_sem, f0, f1, f2, f3, f4, f5, f6, f7, f8, f9, f10, f11, f12, f13, f14, f15]) rfl ⟨_, _, _, _, _, _, _, _, _, _, _, _, _, _, _, _, _, _, _, _, _, _, _, _, _, _, _, _, _, _, _, _, _, _, _, _, _, _, _, _, rfl, o9a, o9b, o9c, o9d, K9.1⟩

set_option maxRecDepth 100000 in
set_option maxHeartbeats 6400000 in
theorem keeper_answer_mirror (gk : Nat) (cp0 : Value) (x y z t : Rat) (w : World) (hgk : gk < w.heap.size) (hck : w.cell? ⟨gk, 0, none⟩ = some (.int .i64 0)) (hfk : w.frozen? ⟨gk, 0, none⟩ = false) (hcl : ∀ W, Below w.heap.size w W → Calls Try.prog 37 #[cp0] W (RetL4 W x y z t)) :
    Calls Try.prog 65 #[.pointer (some ⟨gk, 0, none⟩), .func (.func 37) #[] #[cp0]] w (RetL4 w x y z t) := by
  have HCL := Lib.hid hcl
  clear hcl
  go_enter Try.func65, Try.ntmps65
  go_wp2_with fail
  refine (HCL.out w (Below.refl _ _)).mono ?_
  rintro e1 w1 ⟨g, cp, sa, Aa, na, ca, la, za, Ba, ma, da, ka, sb, Ab, nb, cb, lb, zb, Bb, mb, db, kb, sc, Ac, nc, cc, lc, zc, Bc, mc, dc, kc, sd, Ad, nd, cd, ld, zd, Bd, md, dd, kd, rfl, hcp, hB, oa, ob, oc, od, hb1⟩
  have hck1 : _ := ((bcell hb1).1 gk 0 hgk).trans hck
  have hfk1 : _ := ((bcell hb1).2 gk 0 hgk).trans hfk
  have HSH := Lib.hid (short_four oa ob oc od)
  have HLF := Lib.hid (lfs_of_blk (a := ((sa, Aa, na, ca, la), (za, Ba, ma, da, ka))) (b := ((sb, Ab, nb, cb, lb), (zb, Bb, mb, db, kb))) (c := ((sc, Ac, nc, cc, lc), (zc, Bc, mc, dc, kc))) (d := ((sd, Ad, nd, cd, ld), (zd, Bd, md, dd, kd))) hB oa.1 ob.1 oc.1 od.1)
  go_wp2_with fail
  refine (rat_answer_all g 4 cp _ _ HLF.out (by decide) hcp HSH.out).mono ?_
  rintro e2 w2 ⟨rfl, hb2⟩
  replace hB := hB.next hb2
  replace oa := oa.next hb2
  replace ob := ob.next hb2
  replace oc := oc.next hb2
  replace od := od.next hb2
  have hb3 := below_next hb1 hb2
  have hck2 : _ := ((bcell hb3).1 gk 0 hgk).trans hck
  have hfk2 : _ := ((bcell hb3).2 gk 0 hgk).trans hfk
  clear HSH HLF hb1 hb2 hck1 hfk1
  go_wp2_with fail
  rw [keep_same hck2]
  go_wp2_with fail
  go_ret
  exact ⟨g, cp, _, _, _, _, _, _, _, _, _, _, _, _, _, _, _, _, _, _, _, _, _, _, _, _, _, _, _, _, _, _, _, _, _, _, _, _, _, _, _, _, rfl, hcp, hB, oa, ob, oc, od, hb3⟩
set_option maxRecDepth 100000 in
set_option maxHeartbeats 6400000 in
theorem keeper_asMatrix_mirror (gk : Nat) (cp0 : Value) (x y z t : Rat) (w : World) (hgk : gk < w.heap.size) (hck : w.cell? ⟨gk, 0, none⟩ = some (.int .i64 0)) (hfk : w.frozen? ⟨gk, 0, none⟩ = false) (hcl : ∀ W, Below w.heap.size w W → Calls Try.prog 37 #[cp0] W (RetL4 W x y z t)) :
    Calls Try.prog 30 #[.pointer (some ⟨gk, 0, none⟩), .func (.func 37) #[] #[cp0]] w (RetMo w x y z t) := by
  have K0 := (Mm.nil w).var (g := w.heap.size) rfl [.bool false, .slice none 0 0, .bool false, .slice none 0 0, .bool false, .slice none 0 0, .bool false, .slice none 0 0, .bool false, .slice none 0 0, .bool false, .slice none 0 0, .bool false, .slice none 0 0, .bool false, .slice none 0 0] 28
  have hck0 : _ := ((bcell K0.1).1 gk 0 hgk).trans hck
  have hfk0 : _ := ((bcell K0.1).2 gk 0 hgk).trans hfk
  have HCL : Hid (∀ W, Below (w.alloc (.cells #[.bool false, .slice none 0 0, .bool false, .slice none 0 0, .bool false, .slice none 0 0, .bool false, .slice none 0 0, .bool false, .slice none 0 0, .bool false, .slice none 0 0, .bool false, .slice none 0 0, .bool false, .slice none 0 0] 28)).heap.size (w.alloc (.cells #[.bool false, .slice none 0 0, .bool false, .slice none 0 0, .bool false, .slice none 0 0, .bool false, .slice none 0 0, .bool false, .slice none 0 0, .bool false, .slice none 0 0, .bool false, .slice none 0 0, .bool false, .slice none 0 0] 28)) W → Calls Try.prog 37 #[cp0] W (RetL4 W x y z t)) := Lib.hid (fun W hb => hcl W (below_next K0.1 hb))
  have hgk0 : gk < (w.alloc (.cells #[.bool false, .slice none 0 0, .bool false, .slice none 0 0, .bool false, .slice none 0 0, .bool false, .slice none 0 0, .bool false, .slice none 0 0, .bool false, .slice none 0 0, .bool false, .slice none 0 0, .bool false, .slice none 0 0] 28)).heap.size := Nat.lt_of_lt_of_le hgk K0.1.size
  have hat : ∀ (a : Option Addr) (c : Nat) (w : World), (Instr.arrayAt 73 (.slice a 4 c)).run Try.prog w = .ok (.pointer a) w := fun a c w => run_arrayAt w 73 26 4 _ 4 c (by kernel_rfl) (Nat.le_refl _)
  clear hcl
  go_enter Try.func30, Try.ntmps30
  go_upto_region 1 with (fail)
  generalize w.alloc (.cells #[.bool false, .slice none 0 0, .bool false, .slice none 0 0, .bool false, .slice none 0 0, .bool false, .slice none 0 0, .bool false, .slice none 0 0, .bool false, .slice none 0 0, .bool false, .slice none 0 0, .bool false, .slice none 0 0] 28) = w0 at K0 hck0 hfk0 hgk0 HCL ⊢
  go_wp2_with fail
  refine (keeper_answer_mirror gk cp0 x y z t _ hgk0 hck0 hfk0 HCL.out).mono ?_
  rintro e1 w1 ⟨g, cp, sa, Aa, na, ca, la, za, Ba, ma, da, ka, sb, Ab, nb, cb, lb, zb, Bb, mb, db, kb, sc, Ac, nc, cc, lc, zc, Bc, mc, dc, kc, sd, Ad, nd, cd, ld, zd, Bd, md, dd, kd, rfl, hcp, hB, oa, ob, oc, od, hb1⟩
  have K1 := K0.next hb1
  clear K0 hb1 hck0 hfk0 hgk0 HCL
  obtain ⟨p0, p1, p2, p3, p4, p5, p6, p7, p8, p9, p10, p11, p12, p13, p14, p15⟩ := hB.c16
  go_wp2_with fail
  refine (four_matrix_any sa Aa na ca za Ba ma da sb Ab nb cb zb Bb mb db sc Ac nc cc zc Bc mc dc sd Ad nd cd zd Bd md dd _).mono ?_
  rintro e2 w2 ⟨rfl, hb2⟩
  have K2 := K1.next hb2
  replace oa := oa.next hb2
  replace ob := ob.next hb2
  replace oc := oc.next hb2
  replace od := od.next hb2
  clear K1 hb2 p0 p1 p2 p3 p4 p5 p6 p7 p8 p9 p10 p11 p12 p13 p14 p15 hB
  obtain ⟨f0, f1, f2, f3, f4, f5, f6, f7, f8, f9, f10, f11, f12, f13, f14, f15⟩ := (K2.blk (g := w.heap.size) (vs := [.bool false, .slice none 0 0, .bool false, .slice none 0 0, .bool false, .slice none 0 0, .bool false, .slice none 0 0, .bool false, .slice none 0 0, .bool false, .slice none 0 0, .bool false, .slice none 0 0, .bool false, .slice none 0 0]) (by simp)).c16
  obtain ⟨ff0, ff1, ff2, ff3, ff4, ff5, ff6, ff7, ff8, ff9, ff10, ff11, ff12, ff13, ff14, ff15, _⟩ := (K2.blk (g := w.heap.size) (vs := [.bool false, .slice none 0 0, .bool false, .slice none 0 0, .bool false, .slice none 0 0, .bool false, .slice none 0 0, .bool false, .slice none 0 0, .bool false, .slice none 0 0, .bool false, .slice none 0 0, .bool false, .slice none 0 0]) (by simp)).f16
  go_wp2_with fail
  have K9 := (((((((((K2.int oa.ints.1).int oa.ints.2.1).int ob.ints.1).int ob.ints.2.1).int oc.ints.1).int oc.ints.2.1).int od.ints.1).int od.ints.2.1).pick (L' := [(w.heap.size, [.bool false, .slice none 0 0, .bool false, .slice none 0 0, .bool false, .slice none 0 0, .bool false, .slice none 0 0, .bool false, .slice none 0 0, .bool false, .slice none 0 0, .bool false, .slice none 0 0, .bool false, .slice none 0 0])]) (l' := [(sa, Aa, na, ca, x.num), (za, Ba, ma, da, (x.den : Int)), (sb, Ab, nb, cb, y.num), (zb, Bb, mb, db, (y.den : Int)), (sc, Ac, nc, cc, z.num), (zc, Bc, mc, dc, (z.den : Int)), (sd, Ad, nd, cd, t.num), (zd, Bd, md, dd, (t.den : Int))]) (by simp) (by simp)).set16 (by simp) sa Aa na ca za Ba ma da sb Ab nb cb zb Bb mb db sc Ac nc cc zc Bc mc dc sd Ad nd cd zd Bd md dd
  obtain ⟨l9a, k9a, o9a⟩ := okF_of (r := x) (K9.at_ (neg := sa) (A := Aa) (n := na) (c := ca) (z := x.num) (by simp)) (K9.at_ (neg := za) (A := Ba) (n := ma) (c := da) (z := ((x.den : Nat) : Int)) (by simp)) oa.ints.2.2
  obtain ⟨l9b, k9b, o9b⟩ := okF_of (r := y) (K9.at_ (neg := sb) (A := Ab) (n := nb) (c := cb) (z := y.num) (by simp)) (K9.at_ (neg := zb) (A := Bb) (n := mb) (c := db) (z := ((y.den : Nat) : Int)) (by simp)) ob.ints.2.2
  obtain ⟨l9c, k9c, o9c⟩ := okF_of (r := z) (K9.at_ (neg := sc) (A := Ac) (n := nc) (c := cc) (z := z.num) (by simp)) (K9.at_ (neg := zc) (A := Bc) (n := mc) (c := dc) (z := ((z.den : Nat) : Int)) (by simp)) oc.ints.2.2
  obtain ⟨l9d, k9d, o9d⟩ := okF_of (r := t) (K9.at_ (neg := sd) (A := Ad) (n := nd) (c := cd) (z := t.num) (by simp)) (K9.at_ (neg := zd) (A := Bd) (n := md) (c := dd) (z := ((t.den : Nat) : Int)) (by simp)) od.ints.2.2
  exact bodyPost_ret (v := .tuple #[.agg #[.bool sa, .slice Aa na ca, .bool za, .slice Ba ma da, .bool sb, .slice Ab nb cb, .bool zb, .slice Bb mb db, .bool sc, .slice Ac nc cc, .bool zc, .slice Bc mc dc, .bool sd, .slice Ad nd cd, .bool zd, .slice Bd md dd], .int .i64 0]) (by simp [results, Try.results30, go_sem, f0, f1, f2, f3, f4, f5, f6, f7, f8, f9, f10, f11, f12, f13, f14, f15]) rfl ⟨_, _, _, _, _, _, _, _, _, _, _, _, _, _, _, _, _, _, _, _, _, _, _, _, _, _, _, _, _, _, _, _, _, _, _, _, _, _, _, _, rfl, o9a, o9b, o9c, o9d, K9.1⟩

set_option maxRecDepth 100000 in
set_option maxHeartbeats 6400000 in
theorem keeper_answer_mul (gk : Nat) (cp0 : Value) (cp1 : Value) (x y z t : Rat) (w : World) (hgk : gk < w.heap.size) (hck : w.cell? ⟨gk, 0, none⟩ = some (.int .i64 0)) (hfk : w.frozen? ⟨gk, 0, none⟩ = false) (hcl : ∀ W, Below w.heap.size w W → Calls Try.prog 31 #[cp0, cp1] W (RetL4 W x y z t)) :
    Calls Try.prog 65 #[.pointer (some ⟨gk, 0, none⟩), .func (.func 31) #[] #[cp0, cp1]] w (RetL4 w x y z t) := by
  have HCL := Lib.hid hcl
  clear hcl
  go_enter Try.func65, Try.ntmps65
  go_wp2_with fail
  refine (HCL.out w (Below.refl _ _)).mono ?_
  rintro e1 w1 ⟨g, cp, sa, Aa, na, ca, la, za, Ba, ma, da, ka, sb, Ab, nb, cb, lb, zb, Bb, mb, db, kb, sc, Ac, nc, cc, lc, zc, Bc, mc, dc, kc, sd, Ad, nd, cd, ld, zd, Bd, md, dd, kd, rfl, hcp, hB, oa, ob, oc, od, hb1⟩
  have hck1 : _ := ((bcell hb1).1 gk 0 hgk).trans hck
  have hfk1 : _ := ((bcell hb1).2 gk 0 hgk).trans hfk
  have HSH := Lib.hid (short_four oa ob oc od)
  have HLF := Lib.hid (lfs_of_blk (a := ((sa, Aa, na, ca, la), (za, Ba, ma, da, ka))) (b := ((sb, Ab, nb, cb, lb), (zb, Bb, mb, db, kb))) (c := ((sc, Ac, nc, cc, lc), (zc, Bc, mc, dc, kc))) (d := ((sd, Ad, nd, cd, ld), (zd, Bd, md, dd, kd))) hB oa.1 ob.1 oc.1 od.1)
  go_wp2_with fail
  refine (rat_answer_all g 4 cp _ _ HLF.out (by decide) hcp HSH.out).mono ?_
  rintro e2 w2 ⟨rfl, hb2⟩
  replace hB := hB.next hb2
  replace oa := oa.next hb2
  replace ob := ob.next hb2
  replace oc := oc.next hb2
  replace od := od.next hb2
  have hb3 := below_next hb1 hb2
  have hck2 : _ := ((bcell hb3).1 gk 0 hgk).trans hck
  have hfk2 : _ := ((bcell hb3).2 gk 0 hgk).trans hfk
  clear HSH HLF hb1 hb2 hck1 hfk1
  go_wp2_with fail
  rw [keep_same hck2]
  go_wp2_with fail
  go_ret
  exact ⟨g, cp, _, _, _, _, _, _, _, _, _, _, _, _, _, _, _, _, _, _, _, _, _, _, _, _, _, _, _, _, _, _, _, _, _, _, _, _, _, _, _, _, rfl, hcp, hB, oa, ob, oc, od, hb3⟩
set_option maxRecDepth 100000 in
set_option maxHeartbeats 6400000 in
theorem keeper_asMatrix_mul (gk : Nat) (cp0 : Value) (cp1 : Value) (x y z t : Rat) (w : World) (hgk : gk < w.heap.size) (hck : w.cell? ⟨gk, 0, none⟩ = some (.int .i64 0)) (hfk : w.frozen? ⟨gk, 0, none⟩ = false) (hcl : ∀ W, Below w.heap.size w W → Calls Try.prog 31 #[cp0, cp1] W (RetL4 W x y z t)) :
    Calls Try.prog 30 #[.pointer (some ⟨gk, 0, none⟩), .func (.func 31) #[] #[cp0, cp1]] w (RetMo w x y z t) := by
  have K0 := (Mm.nil w).var (g := w.heap.size) rfl [.bool false, .slice none 0 0, .bool false, .slice none 0 0, .bool false, .slice none 0 0, .bool false, .slice none 0 0, .bool false, .slice none 0 0, .bool false, .slice none 0 0, .bool false, .slice none 0 0, .bool false, .slice none 0 0] 28
  have hck0 : _ := ((bcell K0.1).1 gk 0 hgk).trans hck
  have hfk0 : _ := ((bcell K0.1).2 gk 0 hgk).trans hfk
  have HCL : Hid (∀ W, Below (w.alloc (.cells #[.bool false, .slice none 0 0, .bool false, .slice none 0 0, .bool false, .slice none 0 0, .bool false, .slice none 0 0, .bool false, .slice none 0 0, .bool false, .slice none 0 0, .bool false, .slice none 0 0, .bool false, .slice none 0 0] 28)).heap.size (w.alloc (.cells #[.bool false, .slice none 0 0, .bool false, .slice none 0 0, .bool false, .slice none 0 0, .bool false, .slice none 0 0, .bool false, .slice none 0 0, .bool false, .slice none 0 0, .bool false, .slice none 0 0, .bool false, .slice none 0 0] 28)) W → Calls Try.prog 31 #[cp0, cp1] W (RetL4 W x y z t)) := Lib.hid (fun W hb => hcl W (below_next K0.1 hb))
  have hgk0 : gk < (w.alloc (.cells #[.bool false, .slice none 0 0, .bool false, .slice none 0 0, .bool false, .slice none 0 0, .bool false, .slice none 0 0, .bool false, .slice none 0 0, .bool false, .slice none 0 0, .bool false, .slice none 0 0, .bool false, .slice none 0 0] 28)).heap.size := Nat.lt_of_lt_of_le hgk K0.1.size
  have hat : ∀ (a : Option Addr) (c : Nat) (w : World), (Instr.arrayAt 73 (.slice a 4 c)).run Try.prog w = .ok (.pointer a) w := fun a c w => run_arrayAt w 73 26 4 _ 4 c (by kernel_rfl) (Nat.le_refl _)
  clear hcl
  go_enter Try.func30, Try.ntmps30
  go_upto_region 1 with (fail)
  generalize w.alloc (.cells #[.bool false, .slice none 0 0, .bool false, .slice none 0 0, .bool false, .slice none 0 0, .bool false, .slice none 0 0, .bool false, .slice none 0 0, .bool false, .slice none 0 0, .bool false, .slice none 0 0, .bool false, .slice none 0 0] 28) = w0 at K0 hck0 hfk0 hgk0 HCL ⊢
  go_wp2_with fail
  refine (keeper_answer_mul gk cp0 cp1 x y z t _ hgk0 hck0 hfk0 HCL.out).mono ?_
  rintro e1 w1 ⟨g, cp, sa, Aa, na, ca, la, za, Ba, ma, da, ka, sb, Ab, nb, cb, lb, zb, Bb, mb, db, kb, sc, Ac, nc, cc, lc, zc, Bc, mc, dc, kc, sd, Ad, nd, cd, ld, zd, Bd, md, dd, kd, rfl, hcp, hB, oa, ob, oc, od, hb1⟩
  have K1 := K0.next hb1
  clear K0 hb1 hck0 hfk0 hgk0 HCL
  obtain ⟨p0, p1, p2, p3, p4, p5, p6, p7, p8, p9, p10, p11, p12, p13, p14, p15⟩ := hB.c16
  go_wp2_with fail
  refine (four_matrix_any sa Aa na ca za Ba ma da sb Ab nb cb zb Bb mb db sc Ac nc cc zc Bc mc dc sd Ad nd cd zd Bd md dd _).mono ?_
  rintro e2 w2 ⟨rfl, hb2⟩
  have K2 := K1.next hb2
  replace oa := oa.next hb2
  replace ob := ob.next hb2
  replace oc := oc.next hb2
  replace od := od.next hb2
  clear K1 hb2 p0 p1 p2 p3 p4 p5 p6 p7 p8 p9 p10 p11 p12 p13 p14 p15 hB
  obtain ⟨f0, f1, f2, f3, f4, f5, f6, f7, f8, f9, f10, f11, f12, f13, f14, f15⟩ := (K2.blk (g := w.heap.size) (vs := [.bool false, .slice none 0 0, .bool false, .slice none 0 0, .bool false, .slice none 0 0, .bool false, .slice none 0 0, .bool false, .slice none 0 0, .bool false, .slice none 0 0, .bool false, .slice none 0 0, .bool false, .slice none 0 0]) (by simp)).c16
  obtain ⟨ff0, ff1, ff2, ff3, ff4, ff5, ff6, ff7, ff8, ff9, ff10, ff11, ff12, ff13, ff14, ff15, _⟩ := (K2.blk (g := w.heap.size) (vs := [.bool false, .slice none 0 0, .bool false, .slice none 0 0, .bool false, .slice none 0 0, .bool false, .slice none 0 0, .bool false, .slice none 0 0, .bool false, .slice none 0 0, .bool false, .slice none 0 0, .bool false, .slice none 0 0]) (by simp)).f16
  go_wp2_with fail
  have K9 := (((((((((K2.int oa.ints.1).int oa.ints.2.1).int ob.ints.1).int ob.ints.2.1).int oc.ints.1).int oc.ints.2.1).int od.ints.1).int od.ints.2.1).pick (L' := [(w.heap.size, [.bool false, .slice none 0 0, .bool false, .slice none 0 0, .bool false, .slice none 0 0, .bool false, .slice none 0 0, .bool false, .slice none 0 0, .bool false, .slice none 0 0, .bool false, .slice none 0 0, .bool false, .slice none 0 0])]) (l' := [(sa, Aa, na, ca, x.num), (za, Ba, ma, da, (x.den : Int)), (sb, Ab, nb, cb, y.num), (zb, Bb, mb, db, (y.den : Int)), (sc, Ac, nc, cc, z.num), (zc, Bc, mc, dc, (z.den : Int)), (sd, Ad, nd, cd, t.num), (zd, Bd, md, dd, (t.den : Int))]) (by simp) (by simp)).set16 (by simp) sa Aa na ca za Ba ma da sb Ab nb cb zb Bb mb db sc Ac nc cc zc Bc mc dc sd Ad nd cd zd Bd md dd
  obtain ⟨l9a, k9a, o9a⟩ := okF_of (r := x) (K9.at_ (neg := sa) (A := Aa) (n := na) (c := ca) (z := x.num) (by simp)) (K9.at_ (neg := za) (A := Ba) (n := ma) (c := da) (z := ((x.den : Nat) : Int)) (by simp)) oa.ints.2.2
  obtain ⟨l9b, k9b, o9b⟩ := okF_of (r := y) (K9.at_ (neg := sb) (A := Ab) (n := nb) (c := cb) (z := y.num) (by simp)) (K9.at_ (neg := zb) (A := Bb) (n := mb) (c := db) (z := ((y.den : Nat) : Int)) (by simp)) ob.ints.2.2
  obtain ⟨l9c, k9c, o9c⟩ := okF_of (r := z) (K9.at_ (neg := sc) (A := Ac) (n := nc) (c := cc) (z := z.num) (by simp)) (K9.at_ (neg := zc) (A := Bc) (n := mc) (c := dc) (z := ((z.den : Nat) : Int)) (by simp)) oc.ints.2.2
  obtain ⟨l9d, k9d, o9d⟩ := okF_of (r := t) (K9.at_ (neg := sd) (A := Ad) (n := nd) (c := cd) (z := t.num) (by simp)) (K9.at_ (neg := zd) (A := Bd) (n := md) (c := dd) (z := ((t.den : Nat) : Int)) (by simp)) od.ints.2.2
  exact bodyPost_ret (v := .tuple #[.agg #[.bool sa, .slice Aa na ca, .bool za, .slice Ba ma da, .bool sb, .slice Ab nb cb, .bool zb, .slice Bb mb db, .bool sc, .slice Ac nc cc, .bool zc, .slice Bc mc dc, .bool sd, .slice Ad nd cd, .bool zd, .slice Bd md dd], .int .i64 0]) (by simp [results, Try.results30, go_sem, f0, f1, f2, f3, f4, f5, f6, f7, f8, f9, f10, f11, f12, f13, f14, f15]) rfl ⟨_, _, _, _, _, _, _, _, _, _, _, _, _, _, _, _, _, _, _, _, _, _, _, _, _, _, _, _, _, _, _, _, _, _, _, _, _, _, _, _, rfl, o9a, o9b, o9c, o9d, K9.1⟩
end Go.Proofs.Ytdmdaoginojalaa
