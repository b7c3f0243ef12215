/-
  One matrix behind another (ray.Mul).
-/
import Derived.Test.YtdmdaoginojalaaBnC
import Derived.Test.YtdmdaoginojalaaFrZ
import Derived.Test.YtdmdaoginojalaaLst
import Derived.Deep.MidRow
namespace Go.Proofs.Ytdmdaoginojalaa
open Go.RowKit

/-- The walk's memory where a row of fractions is built: blocks of the call's own below B, the row from B on. -/
def Mrow (w : World) (L : List (Nat × List Value)) (B : Nat) (av : Value) (N : Nat) (V : Nat → Rat) (wr : World) : Prop :=
  Mm w L [] wr ∧ Hid (w.heap.size ≤ B ∧ (∀ b ∈ L, b.1 < B) ∧ B ≤ wr.heap.size) ∧ AllR B av N V wr
theorem Mrow.next {w wr w' : World} {L : List (Nat × List Value)} {B N : Nat} {av : Value} {V : Nat → Rat} (h : Mrow w L B av N V wr) (hb : Below wr.heap.size wr w') : Mrow w L B av N V w' :=
  ⟨h.1.next hb, Lib.hid ⟨h.2.1.out.1, h.2.1.out.2.1, Nat.le_trans h.2.1.out.2.2 hb.size⟩, h.2.2.next hb⟩
theorem Mrow.drew {w wr : World} {L : List (Nat × List Value)} {B N : Nat} {av : Value} {V : Nat → Rat} (h : Mrow w L B av N V wr) : Mrow w L B av N V wr.drew := h.next ⟨rfl, rfl, rfl, Nat.le_refl _, fun _ _ => rfl⟩
theorem Mrow.drewN {w wr : World} {L : List (Nat × List Value)} {B N : Nat} {av : Value} {V : Nat → Rat} (h : Mrow w L B av N V wr) (n : Nat) : Mrow w L B av N V (wr.drewN n) := h.next (below_drewN (Below.refl _ _) n)
theorem Mrow.start {w wr : World} {L : List (Nat × List Value)} (h : Mm w L [] wr) (V : Nat → Rat) : Mrow w L wr.heap.size (.slice none 0 0) 0 V wr :=
  ⟨h, Lib.hid ⟨h.1.size, fun b hb => (h.2.1 b hb).2.1, Nat.le_refl _⟩, AllR.nil _ _ _⟩
theorem Mrow.more {w wr w' : World} {L : List (Nat × List Value)} {B N g cap : Nat} {av : Value} {V : Nat → Rat} {xs : List Value} (h : Mrow w L B av N V wr)
    (h1 : wr.ownsRow B 26 4 av N xs) (k2 : wr.grownBy w' av.ownBlock) (hA : AllR B (.slice (some ⟨g, 0, none⟩) (N + 1) cap) (N + 1) V w') : Mrow w L B (.slice (some ⟨g, 0, none⟩) (N + 1) cap) (N + 1) V w' := by
  obtain ⟨c1, c2, c5⟩ := h.2.1.out
  exact ⟨⟨below_grown h.1.1 k2 (by have := h.1.1.size; omega) (fun g hg => by have := (h1.lt g hg).1; omega), fun b hb => ⟨(h.1.2.1 b hb).1, (h.1.2.1 b hb).2.grown k2 (own_ge2 h1 (c2 b hb))⟩, fun p hp => absurd hp (by simp)⟩,
    Lib.hid ⟨c1, c2, Nat.le_trans c5 k2.size⟩, hA⟩
theorem Calls.withMr {P : Program} {f : FuncId} {args : Array Value} {W : World} {post : Ending → World → Prop} {w0 : World} {L : List (Nat × List Value)} {B N : Nat} {av : Value} {V : Nat → Rat} (K : Mrow w0 L B av N V W) (h : Mrow w0 L B av N V W → Calls P f args W post) : Calls P f args W post := h K
/-- One more fraction at the row's end. -/
theorem step_row {wr w : World} {ops : Array Oper} {o : Oper} {a : Act} {K : Act → World → Prop} {Q : Exit → Act → World → Prop} {E : Prop} (hgd : o.guard = none) (s x : Operand)
    (ho : o.op = .call { callee := .builtin .append, args := #[s, x], argTypes := #[71, 71] })
    {L : List (Nat × List Value)} {B N : Nat} {av : Value} {V : Nat → Rat} (f : FrE) (ga c : Nat) (hD : Mrow w L B av N V wr) (hf : ∀ k v, f.vs[k]? = some v → wr.cell? ⟨ga, k, none⟩ = some v) (hat : FrE.at_ wr f) (hv : f.2.2 = V N) (hN : N ≤ 1000)
    (hs : a.eval s = av) (hx : a.eval x = .slice (some ⟨ga, 0, none⟩) 1 c)
    (h : ∀ g cap w', Mrow w L B (.slice (some ⟨g, 0, none⟩) (N + 1) cap) (N + 1) V w' → K (a.put o.dst (.slice (some ⟨g, 0, none⟩) (N + 1) cap)) w') :
    if Region.wanted o (yielded ops a.tmps) = true then Oper.wp Try.prog o a wr K Q else E := by
  obtain ⟨i, hi, hz, hsz, hby⟩ := info_parts info_frac
  have hD0 := hD
  obtain ⟨_, hB, G, xs, h1, h2, h3, h4, h5⟩ := hD
  refine step_append_limbs wr hgd s x 71 ho B 26 i _ 4 64 under_fracs hi hz hsz hby rfl (by decide) av N xs hs h1 ⟨ga, 0, none⟩ 1 c f.vs hx rfl (fun j u hj => ?_) (fun u hu => ?_) (by decide) (by simp [maxLen]; omega) (by omega) hB.out.2.2 h4 (vs_no_limb f) h3 frac_zeros ?_
  · have e : (⟨ga, 0, none⟩ : Addr).add j = ⟨ga, j, none⟩ := by
      cases j with
      | zero => simp [Addr.add]
      | succ n => simp [Addr.add]
    rw [e]
    exact hf j u hj
  · unfold FrE.vs at hu
    simp only [List.mem_cons, List.not_mem_nil, or_false] at hu
    rcases hu with rfl | rfl | rfl | rfl <;> rfl
  · intro g cap w' k1 k2 k3 k4 k5
    exact h g cap w' (Mrow.more hD0 h1 k2 (AllR.more h1 h2 h3 h4 h5 hat hv k1 k2 k5))
theorem AllR.own2 {base N : Nat} {av : Value} {V : Nat → Rat} {wr : World} (h : AllR base av N V wr) (h0 : 0 < N) : ∃ g cap, av = .slice (some ⟨g, 0, none⟩) N cap ∧ N ≤ cap ∧ ∀ k, wr.frozen? ⟨g, k, none⟩ = false := by
  obtain ⟨G, xs, h1, _⟩ := h
  rcases h1.2 with ⟨_, k⟩ | ⟨g, cap, cur, rfl, hb, hg, hnc, _⟩
  · omega
  · refine ⟨g, cap, rfl, hnc, fun k => ?_⟩
    unfold World.frozen?
    rw [hg]
    simp
def rowV (x y z t : Rat) : Nat → Rat := fun j => if j = 0 then x else if j = 1 then y else if j = 2 then z else t
theorem blk_of_frs {w : World} {g : Nat} {F : Nat → FrE} (h : Frs w g 4 F) (hz : ∀ k, w.frozen? ⟨g, k, none⟩ = false) : Blk w g ((F 0).vs ++ (F 1).vs ++ (F 2).vs ++ (F 3).vs) := by
  obtain ⟨⟨a0, a1, a2, a3⟩, _⟩ := h.2 0 (by decide)
  obtain ⟨⟨b0, b1, b2, b3⟩, _⟩ := h.2 1 (by decide)
  obtain ⟨⟨c0, c1, c2, c3⟩, _⟩ := h.2 2 (by decide)
  obtain ⟨⟨d0, d1, d2, d3⟩, _⟩ := h.2 3 (by decide)
  refine ⟨h.1, fun k v hk => ⟨?_, hz k⟩⟩
  match k, hk with
  | 0, hk => injection hk with hk; rw [← hk]; exact a0
  | 1, hk => injection hk with hk; rw [← hk]; exact a1
  | 2, hk => injection hk with hk; rw [← hk]; exact a2
  | 3, hk => injection hk with hk; rw [← hk]; exact a3
  | 4, hk => injection hk with hk; rw [← hk]; exact b0
  | 5, hk => injection hk with hk; rw [← hk]; exact b1
  | 6, hk => injection hk with hk; rw [← hk]; exact b2
  | 7, hk => injection hk with hk; rw [← hk]; exact b3
  | 8, hk => injection hk with hk; rw [← hk]; exact c0
  | 9, hk => injection hk with hk; rw [← hk]; exact c1
  | 10, hk => injection hk with hk; rw [← hk]; exact c2
  | 11, hk => injection hk with hk; rw [← hk]; exact c3
  | 12, hk => injection hk with hk; rw [← hk]; exact d0
  | 13, hk => injection hk with hk; rw [← hk]; exact d1
  | 14, hk => injection hk with hk; rw [← hk]; exact d2
  | 15, hk => injection hk with hk; rw [← hk]; exact d3
theorem retL4_of {W wr : World} {B : Nat} {av : Value} {x y z t : Rat} (h : AllR B av 4 (rowV x y z t) wr) (sx : Sz x 2048) (sy : Sz y 2048) (sz : Sz z 2048) (st : Sz t 2048) (hb : Below W.heap.size W wr) : ∃ g cap, av = .slice (some ⟨g, 0, none⟩) 4 cap ∧ RetL4 W x y z t (.returned (.slice (some ⟨g, 0, none⟩) 4 cap)) wr := by
  obtain ⟨g, cap, rfl, hcap, hz⟩ := h.own2 (by decide)
  refine ⟨g, cap, rfl, ?_⟩
  obtain ⟨F, hF, hV⟩ := h.frs
  have hB := blk_of_frs hF hz
  have v0 := hV 0 (by decide)
  have v1 := hV 1 (by decide)
  have v2 := hV 2 (by decide)
  have v3 := hV 3 (by decide)
  obtain ⟨i0, j0⟩ := (hF.2 0 (by decide)).2
  obtain ⟨i1, j1⟩ := (hF.2 1 (by decide)).2
  obtain ⟨i2, j2⟩ := (hF.2 2 (by decide)).2
  obtain ⟨i3, j3⟩ := (hF.2 3 (by decide)).2
  rw [v0] at i0 j0
  rw [v1] at i1 j1
  rw [v2] at i2 j2
  rw [v3] at i3 j3
  obtain ⟨l0, k0, o0⟩ := okF_of i0 j0 sx
  obtain ⟨l1, k1, o1⟩ := okF_of i1 j1 sy
  obtain ⟨l2, k2, o2⟩ := okF_of i2 j2 sz
  obtain ⟨l3, k3, o3⟩ := okF_of i3 j3 st
  exact ⟨g, cap, _, _, _, _, _, _, _, _, _, _, _, _, _, _, _, _, _, _, _, _, _, _, _, _, _, _, _, _, _, _, _, _, _, _, _, _, _, _, _, _, rfl, hcap, hB, o0, o1, o2, o3, hb⟩

theorem Blk.rngB {wr : World} {g : Nat} {vs : List Value} (h : Blk wr g vs) : wr.rangeAt g 0 vs := fun j v hv => by rw [Nat.zero_add]; exact (h.2 j v hv).1
theorem Blk.thereB {wr : World} {g : Nat} {vs : List Value} (h : Blk wr g vs) : wr.there g 0 vs.length := fun j hj => by
  have := h.2 j vs[j] (List.getElem?_eq_getElem hj)
  rw [Nat.zero_add]
  exact ⟨by rw [this.1]; rfl, this.2⟩
theorem size_maB : (Try.prog.info? 28).map (·.size) = some 16 := by kernel_rfl
theorem size_foB : (Try.prog.info? 73).map (·.size) = some 16 := by kernel_rfl
theorem load_yields {P : Program} {op : Oper} {a : Act} {w : World} (ty : TypeId) (x : Operand) (ho : op.op = .load ty x) (b o : Nat) (hx : a.eval x = .pointer (some ⟨b, o, none⟩)) (cs : List Value) (d : TypeDesc) (hc : w.rangeAt b o cs)
    (hu : P.underlying ty = some d) (hd : d.isRow = true) (hi : (P.info? ty).map (·.size) = some cs.length) : (execOp a.eval op).run P w = .ok (.value (.agg cs.toArray)) w := by
  unfold execOp
  simp only [ho, hx, Instr.loadAt, Instr.sureAddr, Sem.run_bind, Sem.run_pure, Result.andThen_ok, run_loadVar_mid w b o ty cs d hc hu hd hi]
theorem step_store16 {P : Program} {ops : Array Oper} {o : Oper} {a : Act} {w : World} {K : Act → World → Prop} {Q : Exit → Act → World → Prop} {E : Prop} (hw : Region.wanted o (yielded ops a.tmps) = true) (ty : TypeId) (x y : Operand) (ho : o.op = .store ty x y)
    (g : Nat) (hx : a.eval x = .pointer (some ⟨g, 0, none⟩)) (cs : List Value) (hy : a.eval y = .agg cs.toArray) (ht : w.there g 0 16) (hl : cs.length = 16) (hi : (P.info? ty).map (·.size) = some 16) (h1 : cs.all (·.oneCell') = true)
    (h : K (a.put o.dst undef) (w.setCells g 0 cs)) : if Region.wanted o (yielded ops a.tmps) = true then Oper.wp P o a w K Q else E := by
  rw [if_pos hw]
  exact wp_store_mid ty x y ho g 0 cs.toArray hx hy (by rw [List.size_toArray, hl]; exact ht) (by rw [List.size_toArray, hl]; exact hi) (all_oneCell_toArray (List.all_eq_true.1 h1)) h
/-- Cells turned one by one. -/
def setL (cur : List Value) (o : Nat) : List Value → List Value
  | [] => cur
  | v :: r => setL (cur.set o v) (o + 1) r
theorem Mm.setB {w : World} {L : List (Nat × List Value)} {g : Nat} : ∀ (r : List Value) (o : Nat) (cur : List Value) (wr : World), Mm w ((g, cur) :: L) [] wr → (∀ b ∈ L, g ≠ b.1) → o + r.length ≤ cur.length → Mm w ((g, setL cur o r) :: L) [] (wr.setCells g o r)
  | [], _, _, _, h, _, _ => h
  | v :: r, o, cur, wr, h, hne, hl => by
    have hlt : o < cur.length := by simp at hl; omega
    obtain ⟨hg, hB⟩ := h.2.1 (g, cur) List.mem_cons_self
    have h1 : Mm w ((g, cur.set o v) :: L) [] (wr.setCell ⟨g, o, none⟩ v) := ⟨h.1.setCell (p := ⟨g, o, none⟩) hg _, fun b hb => by
      rw [List.mem_cons] at hb
      rcases hb with rfl | hb
      · exact ⟨hg, hB.set hlt v⟩
      · exact ⟨(h.2.1 b (List.mem_cons_of_mem _ hb)).1, (h.2.1 b (List.mem_cons_of_mem _ hb)).2.far (hne b hb) v⟩, fun p hp => absurd hp (by simp)⟩
    rw [World.setCells]
    exact Mm.setB r (o + 1) (cur.set o v) _ h1 hne (by simp at hl ⊢; omega)
theorem Mm.set16B {w wr : World} {L : List (Nat × List Value)} {g : Nat} {z0 z1 z2 z3 z4 z5 z6 z7 z8 z9 z10 z11 z12 z13 z14 z15 v0 v1 v2 v3 v4 v5 v6 v7 v8 v9 v10 v11 v12 v13 v14 v15 : Value} (h : Mm w ((g, [z0, z1, z2, z3, z4, z5, z6, z7, z8, z9, z10, z11, z12, z13, z14, z15]) :: L) [] wr) (hne : ∀ b ∈ L, g ≠ b.1) :
    Mm w ((g, [v0, v1, v2, v3, v4, v5, v6, v7, v8, v9, v10, v11, v12, v13, v14, v15]) :: L) [] (wr.setCells g 0 [v0, v1, v2, v3, v4, v5, v6, v7, v8, v9, v10, v11, v12, v13, v14, v15]) := Mm.setB [v0, v1, v2, v3, v4, v5, v6, v7, v8, v9, v10, v11, v12, v13, v14, v15] 0 [z0, z1, z2, z3, z4, z5, z6, z7, z8, z9, z10, z11, z12, z13, z14, z15] wr h hne (Nat.le_refl 16)

set_option maxRecDepth 100000 in
set_option maxHeartbeats 64000000 in
theorem ray_mul1_ok (pm pn : Nat) (sa : Bool) (Aa : Option Addr) (na ca : Nat) (la : List Nat) (za : Bool) (Ba : Option Addr) (ma da : Nat) (ka : List Nat) (xa : Rat) (sb : Bool) (Ab : Option Addr) (nb cb : Nat) (lb : List Nat) (zb : Bool) (Bb : Option Addr) (mb db : Nat) (kb : List Nat) (xb : Rat) (sc : Bool) (Ac : Option Addr) (nc cc : Nat) (lc : List Nat) (zc : Bool) (Bc : Option Addr) (mc dc : Nat) (kc : List Nat) (xc : Rat) (sd : Bool) (Ad : Option Addr) (nd cd : Nat) (ld : List Nat) (zd : Bool) (Bd : Option Addr) (md dd : Nat) (kd : List Nat) (xd : Rat) (se : Bool) (Ae : Option Addr) (ne ce : Nat) (le : List Nat) (ze : Bool) (Be : Option Addr) (me de : Nat) (ke : List Nat) (xe : Rat) (sf : Bool) (Af : Option Addr) (nf cf : Nat) (lf : List Nat) (zf : Bool) (Bf : Option Addr) (mf df : Nat) (kf : List Nat) (xf : Rat) (sg : Bool) (Ag : Option Addr) (ng cg : Nat) (lg : List Nat) (zg : Bool) (Bg : Option Addr) (mg dg : Nat) (kg : List Nat) (xg : Rat) (sh : Bool) (Ah : Option Addr) (nh ch : Nat) (lh : List Nat) (zh : Bool) (Bh : Option Addr) (mh dh : Nat) (kh : List Nat) (xh : Rat) (w : World) (oa : OkF w ((sa, Aa, na, ca, la), (za, Ba, ma, da, ka)) xa) (ya : Sz xa 500) (ob : OkF w ((sb, Ab, nb, cb, lb), (zb, Bb, mb, db, kb)) xb) (yb : Sz xb 500) (oc : OkF w ((sc, Ac, nc, cc, lc), (zc, Bc, mc, dc, kc)) xc) (yc : Sz xc 500) (od : OkF w ((sd, Ad, nd, cd, ld), (zd, Bd, md, dd, kd)) xd) (yd : Sz xd 500) (oe : OkF w ((se, Ae, ne, ce, le), (ze, Be, me, de, ke)) xe) (ye : Sz xe 500) (of : OkF w ((sf, Af, nf, cf, lf), (zf, Bf, mf, df, kf)) xf) (yf : Sz xf 500) (og : OkF w ((sg, Ag, ng, cg, lg), (zg, Bg, mg, dg, kg)) xg) (yg : Sz xg 500) (oh : OkF w ((sh, Ah, nh, ch, lh), (zh, Bh, mh, dh, kh)) xh) (yh : Sz xh 500) (hpm : Blk w pm [.bool sa, .slice Aa na ca, .bool za, .slice Ba ma da, .bool sb, .slice Ab nb cb, .bool zb, .slice Bb mb db, .bool sc, .slice Ac nc cc, .bool zc, .slice Bc mc dc, .bool sd, .slice Ad nd cd, .bool zd, .slice Bd md dd]) (hpn : Blk w pn [.bool se, .slice Ae ne ce, .bool ze, .slice Be me de, .bool sf, .slice Af nf cf, .bool zf, .slice Bf mf df, .bool sg, .slice Ag ng cg, .bool zg, .slice Bg mg dg, .bool sh, .slice Ah nh ch, .bool zh, .slice Bh mh dh]) :
    Calls Try.prog 31 #[.pointer (some ⟨pm, 0, none⟩), .pointer (some ⟨pn, 0, none⟩)] w (RetL4 w (xa * xe + xb * xg) (xa * xf + xb * xh) (xc * xe + xd * xg) (xc * xf + xd * xh)) := by
  have Oa := Lib.hid oa
  have Ya := Lib.hid ya
  have Ob := Lib.hid ob
  have Yb := Lib.hid yb
  have Oc := Lib.hid oc
  have Yc := Lib.hid yc
  have Od := Lib.hid od
  have Yd := Lib.hid yd
  have Oe := Lib.hid oe
  have Ye := Lib.hid ye
  have Of := Lib.hid of
  have Yf := Lib.hid yf
  have Og := Lib.hid og
  have Yg := Lib.hid yg
  have Oh := Lib.hid oh
  have Yh := Lib.hid yh
  have SR0 : Hid (Sz (xa * xe + xb * xg) 2048) := Lib.hid ((Sz.add (Sz.mul ya ye) (Sz.mul yb yg)).mono (by decide))
  have SR1 : Hid (Sz (xa * xf + xb * xh) 2048) := Lib.hid ((Sz.add (Sz.mul ya yf) (Sz.mul yb yh)).mono (by decide))
  have SR2 : Hid (Sz (xc * xe + xd * xg) 2048) := Lib.hid ((Sz.add (Sz.mul yc ye) (Sz.mul yd yg)).mono (by decide))
  have SR3 : Hid (Sz (xc * xf + xd * xh) 2048) := Lib.hid ((Sz.add (Sz.mul yc yf) (Sz.mul yd yh)).mono (by decide))
  clear oa ya ob yb oc yc od yd oe ye of yf og yg oh yh
  have K0 := Mm.nil w
  have HP := Lib.hid hpm
  have HQ := Lib.hid hpn
  clear hpm hpn
  go_enter Try.func31, Try.ntmps31
  go_upto_region 1 with (fail)
  go_cut [3, 4] from 9 to 13 (fun s3 s4 wx => ∃ (g3 g4 : Nat), s3 = .pointer (some ⟨g3, 0, none⟩) ∧ s4 = .pointer (some ⟨g4, 0, none⟩) ∧ g3 ≠ g4 ∧
    Mm w [(g3, [.bool sa, .slice Aa na ca, .bool za, .slice Ba ma da, .bool sb, .slice Ab nb cb, .bool zb, .slice Bb mb db, .bool sc, .slice Ac nc cc, .bool zc, .slice Bc mc dc, .bool sd, .slice Ad nd cd, .bool zd, .slice Bd md dd]), (g4, [.bool se, .slice Ae ne ce, .bool ze, .slice Be me de, .bool sf, .slice Af nf cf, .bool zf, .slice Bf mf df, .bool sg, .slice Ag ng cg, .bool zg, .slice Bg mg dg, .bool sh, .slice Ah nh ch, .bool zh, .slice Bh mh dh])] [] wx)
  case first =>
    (try refine wp_region_noPanic ?_)
    refine wp_region_held_drew (S := fun w' => w'.rangeAt pm 0 [.bool sa, .slice Aa na ca, .bool za, .slice Ba ma da, .bool sb, .slice Ab nb cb, .bool zb, .slice Bb mb db, .bool sc, .slice Ac nc cc, .bool zc, .slice Bc mc dc, .bool sd, .slice Ad nd cd, .bool zd, .slice Bd md dd] ∧ w'.rangeAt pn 0 [.bool se, .slice Ae ne ce, .bool ze, .slice Be me de, .bool sf, .slice Af nf cf, .bool zf, .slice Bf mf df, .bool sg, .slice Ag ng cg, .bool zg, .slice Bg mg dg, .bool sh, .slice Ah nh ch, .bool zh, .slice Bh mh dh]) (by kernel_rfl) ⟨HP.out.rngB, HQ.out.rngB⟩ (fun H0 => ?_)
    have K00 := K0.drew
    have HPD := K00.1
    generalize w.drew = W0 at K00 H0 HPD ⊢
    refine wpAnyH_take (i := 0) (oi := ?oiL0) (v := .agg (List.toArray [.bool sa, .slice Aa na ca, .bool za, .slice Ba ma da, .bool sb, .slice Ab nb cb, .bool zb, .slice Bb mb db, .bool sc, .slice Ac nc cc, .bool zc, .slice Bc mc dc, .bool sd, .slice Ad nd cd, .bool zd, .slice Bd md dd])) ?hiL0 (by kernel_rfl) (by kernel_rfl) (by kernel_rfl) ?hQL0 (Or.inl ⟨?hwL0, ?hyL0⟩) (by assumption) ?restL0
    case hiL0 =>
      simp only [List.getElem?_toArray, List.getElem?_cons_zero]
      rfl
    case hQL0 => exact fun _ _ _ h => h
    case hwL0 => rfl
    case hyL0 =>
      intro w hSw
      exact load_yields _ _ rfl pm 0 rfl [.bool sa, .slice Aa na ca, .bool za, .slice Ba ma da, .bool sb, .slice Ab nb cb, .bool zb, .slice Bb mb db, .bool sc, .slice Ac nc cc, .bool zc, .slice Bc mc dc, .bool sd, .slice Ad nd cd, .bool zd, .slice Bd md dd] _ hSw.1 Try.underlying28 rfl size_maB
    try simp only [Act.put, List.setIfInBounds_toArray, List.set_cons_zero, List.set_cons_succ]
    refine wpAnyH_take (i := 2) (oi := ?oiL2) (v := .agg (List.toArray [.bool se, .slice Ae ne ce, .bool ze, .slice Be me de, .bool sf, .slice Af nf cf, .bool zf, .slice Bf mf df, .bool sg, .slice Ag ng cg, .bool zg, .slice Bg mg dg, .bool sh, .slice Ah nh ch, .bool zh, .slice Bh mh dh])) ?hiL2 (by kernel_rfl) (by kernel_rfl) (by kernel_rfl) ?hQL2 (Or.inl ⟨?hwL2, ?hyL2⟩) (by assumption) ?restL2
    case hiL2 =>
      simp only [List.getElem?_toArray, List.getElem?_cons_succ, List.getElem?_cons_zero]
      rfl
    case hQL2 => exact fun _ _ _ h => h
    case hwL2 => rfl
    case hyL2 =>
      intro w hSw
      exact load_yields _ _ rfl pn 0 rfl [.bool se, .slice Ae ne ce, .bool ze, .slice Be me de, .bool sf, .slice Af nf cf, .bool zf, .slice Bf mf df, .bool sg, .slice Ag ng cg, .bool zg, .slice Bg mg dg, .bool sh, .slice Ah nh ch, .bool zh, .slice Bh mh dh] _ hSw.2 Try.underlying28 rfl size_maB
    try simp only [Act.put, List.setIfInBounds_toArray, List.set_cons_zero, List.set_cons_succ]
    refine wpAnyH_ready (rs := [1, 4, 5]) (by kernel_rfl) (by simp) ?_
    refine AllReadyH.cons (o := ?o1) ?ho1 (fun Kf hK => ?st1) ?mo1
    case ho1 =>
      simp only [List.getElem?_toArray, List.getElem?_cons_succ, List.getElem?_cons_zero]
      rfl
    case st1 =>
      go_simp
      refine (four_of_any sa Aa na ca za Ba ma da sb Ab nb cb zb Bb mb db sc Ac nc cc zc Bc mc dc sd Ad nd cd zd Bd md dd _).mono ?_
      rintro e1 W1 ⟨rfl, hb1⟩
      have K1 := K00.next hb1
      refine hK.out _ _ ⟨(HP.out.next K1.1).rngB, (HQ.out.next K1.1).rngB⟩ (fun H1 => ?_)
      clear hK Kf H0 K00 hb1
      try simp only [Act.put, List.setIfInBounds_toArray, List.set_cons_zero, List.set_cons_succ]
      refine wpAnyH_ready (rs := [3, 4, 5]) (by kernel_rfl) (by simp) ?_
      refine AllReadyH.cons (o := ?o2) ?ho2 (fun Kf hK => ?st2) ?mo2
      case ho2 =>
        simp only [List.getElem?_toArray, List.getElem?_cons_succ, List.getElem?_cons_zero]
        rfl
      case st2 =>
        go_simp
        refine (four_of_any se Ae ne ce ze Be me de sf Af nf cf zf Bf mf df sg Ag ng cg zg Bg mg dg sh Ah nh ch zh Bh mh dh _).mono ?_
        rintro e2 W2 ⟨rfl, hb2⟩
        have K2 := K1.next hb2
        refine hK.out _ _ ⟨(HP.out.next K2.1).rngB, (HQ.out.next K2.1).rngB⟩ (fun H2 => ?_)
        clear hK Kf H1 K1 hb2
        try simp only [Act.put, List.setIfInBounds_toArray, List.set_cons_zero, List.set_cons_succ]
        refine wpAnyH_ready (rs := [4, 5]) (by kernel_rfl) (by simp) ?_
        refine AllReadyH.cons (o := ?o3) ?ho3 (fun Kf hK => ?st3) ?mo3
        case ho3 =>
          simp only [List.getElem?_toArray, List.getElem?_cons_succ, List.getElem?_cons_zero]
          rfl
        case st3 =>
          go_simp
          have K3 := K2.var (g := W2.heap.size) rfl [.bool false, .slice none 0 0, .bool false, .slice none 0 0, .bool false, .slice none 0 0, .bool false, .slice none 0 0, .bool false, .slice none 0 0, .bool false, .slice none 0 0, .bool false, .slice none 0 0, .bool false, .slice none 0 0] 73
          refine hK.out _ _ ⟨(HP.out.next K3.1).rngB, (HQ.out.next K3.1).rngB⟩ (fun H3 => ?_)
          clear hK Kf H2 K2
          try simp only [Act.put, List.setIfInBounds_toArray, List.set_cons_zero, List.set_cons_succ]
          generalize W2.heap.size = g3 at K3  ⊢
          generalize W2.alloc (.cells #[.bool false, .slice none 0 0, .bool false, .slice none 0 0, .bool false, .slice none 0 0, .bool false, .slice none 0 0, .bool false, .slice none 0 0, .bool false, .slice none 0 0, .bool false, .slice none 0 0, .bool false, .slice none 0 0] 73) = W3 at K3 H3 ⊢
          refine wpAnyH_ready (rs := [5]) (by kernel_rfl) (by simp) ?_
          refine AllReadyH.cons (o := ?o4) ?ho4 (fun Kf hK => ?st4) ?mo4
          case ho4 =>
            simp only [List.getElem?_toArray, List.getElem?_cons_succ, List.getElem?_cons_zero]
            rfl
          case st4 =>
            go_simp
            have K4 := K3.var (g := W3.heap.size) rfl [.bool false, .slice none 0 0, .bool false, .slice none 0 0, .bool false, .slice none 0 0, .bool false, .slice none 0 0, .bool false, .slice none 0 0, .bool false, .slice none 0 0, .bool false, .slice none 0 0, .bool false, .slice none 0 0] 73
            have ne_g3_g4 : g3 ≠ W3.heap.size := by have := (K3.blk (g := g3) (vs := [.bool false, .slice none 0 0, .bool false, .slice none 0 0, .bool false, .slice none 0 0, .bool false, .slice none 0 0, .bool false, .slice none 0 0, .bool false, .slice none 0 0, .bool false, .slice none 0 0, .bool false, .slice none 0 0]) (List.mem_of_getElem? (i := 0) rfl)).1; omega
            have ne_g4_g3 : W3.heap.size ≠ g3 := fun h => ne_g3_g4 h.symm
            refine hK.out _ _ ⟨(HP.out.next K4.1).rngB, (HQ.out.next K4.1).rngB⟩ (fun H4 => ?_)
            clear hK Kf H3 K3
            try simp only [Act.put, List.setIfInBounds_toArray, List.set_cons_zero, List.set_cons_succ]
            generalize W3.heap.size = g4 at K4 ne_g3_g4 ne_g4_g3 ⊢
            generalize W3.alloc (.cells #[.bool false, .slice none 0 0, .bool false, .slice none 0 0, .bool false, .slice none 0 0, .bool false, .slice none 0 0, .bool false, .slice none 0 0, .bool false, .slice none 0 0, .bool false, .slice none 0 0, .bool false, .slice none 0 0] 73) = W4 at K4 H4 ⊢
            refine wpAnyH_ready (rs := [6]) (by kernel_rfl) (by simp) ?_
            refine AllReadyH.cons (o := ?o5) ?ho5 (fun Kf hK => ?st5) ?mo5
            case ho5 =>
              simp only [List.getElem?_toArray, List.getElem?_cons_succ, List.getElem?_cons_zero]
              rfl
            case st5 =>
              have Q5 : Mm w (((g3, [.bool false, .slice none 0 0, .bool false, .slice none 0 0, .bool false, .slice none 0 0, .bool false, .slice none 0 0, .bool false, .slice none 0 0, .bool false, .slice none 0 0, .bool false, .slice none 0 0, .bool false, .slice none 0 0]) : Nat × List Value) :: [(g4, [.bool false, .slice none 0 0, .bool false, .slice none 0 0, .bool false, .slice none 0 0, .bool false, .slice none 0 0, .bool false, .slice none 0 0, .bool false, .slice none 0 0, .bool false, .slice none 0 0, .bool false, .slice none 0 0])]) [] W4 := K4.pick (L' := ((g3, [.bool false, .slice none 0 0, .bool false, .slice none 0 0, .bool false, .slice none 0 0, .bool false, .slice none 0 0, .bool false, .slice none 0 0, .bool false, .slice none 0 0, .bool false, .slice none 0 0, .bool false, .slice none 0 0]) : Nat × List Value) :: [(g4, [.bool false, .slice none 0 0, .bool false, .slice none 0 0, .bool false, .slice none 0 0, .bool false, .slice none 0 0, .bool false, .slice none 0 0, .bool false, .slice none 0 0, .bool false, .slice none 0 0, .bool false, .slice none 0 0])]) (l' := []) (all_cons (List.mem_of_getElem? (i := 1) rfl) (all_cons (List.mem_of_getElem? (i := 0) rfl) all_nil)) all_nil
              have K5 : Mm w [(g3, [.bool sa, .slice Aa na ca, .bool za, .slice Ba ma da, .bool sb, .slice Ab nb cb, .bool zb, .slice Bb mb db, .bool sc, .slice Ac nc cc, .bool zc, .slice Bc mc dc, .bool sd, .slice Ad nd cd, .bool zd, .slice Bd md dd]), (g4, [.bool false, .slice none 0 0, .bool false, .slice none 0 0, .bool false, .slice none 0 0, .bool false, .slice none 0 0, .bool false, .slice none 0 0, .bool false, .slice none 0 0, .bool false, .slice none 0 0, .bool false, .slice none 0 0])] [] (W4.setCells g3 0 [.bool sa, .slice Aa na ca, .bool za, .slice Ba ma da, .bool sb, .slice Ab nb cb, .bool zb, .slice Bb mb db, .bool sc, .slice Ac nc cc, .bool zc, .slice Bc mc dc, .bool sd, .slice Ad nd cd, .bool zd, .slice Bd md dd]) := Mm.set16B Q5 (all_cons ne_g3_g4 all_nil)
              have th5 : World.there W4 g3 0 16 := (Q5.blk (g := g3) (vs := [.bool false, .slice none 0 0, .bool false, .slice none 0 0, .bool false, .slice none 0 0, .bool false, .slice none 0 0, .bool false, .slice none 0 0, .bool false, .slice none 0 0, .bool false, .slice none 0 0, .bool false, .slice none 0 0]) List.mem_cons_self).thereB
              refine step_store16 ?hw5 73 ?x5 ?y5 ?hop5 g3 ?hx5 [.bool sa, .slice Aa na ca, .bool za, .slice Ba ma da, .bool sb, .slice Ab nb cb, .bool zb, .slice Bb mb db, .bool sc, .slice Ac nc cc, .bool zc, .slice Bc mc dc, .bool sd, .slice Ad nd cd, .bool zd, .slice Bd md dd] ?hy5 th5 ?hl5 size_foB ?h15 ?hk5
              case hop5 => rfl
              case hw5 => rfl
              case hx5 => rfl
              case hy5 => rfl
              case hl5 => rfl
              case h15 => rfl
              generalize W4.setCells g3 0 [.bool sa, .slice Aa na ca, .bool za, .slice Ba ma da, .bool sb, .slice Ab nb cb, .bool zb, .slice Bb mb db, .bool sc, .slice Ac nc cc, .bool zc, .slice Bc mc dc, .bool sd, .slice Ad nd cd, .bool zd, .slice Bd md dd] = W5 at K5 ⊢
              refine hK.out _ _ ⟨(HP.out.next K5.1).rngB, (HQ.out.next K5.1).rngB⟩ (fun H5 => ?_)
              clear hK Kf H4 K4 Q5 th5
              try simp only [Act.put]
              refine wpAnyH_ready (rs := [7]) (by kernel_rfl) (by simp) ?_
              refine AllReadyH.cons (o := ?o6) ?ho6 (fun Kf hK => ?st6) ?mo6
              case ho6 =>
                simp only [List.getElem?_toArray, List.getElem?_cons_succ, List.getElem?_cons_zero]
                rfl
              case st6 =>
                have Q6 : Mm w (((g4, [.bool false, .slice none 0 0, .bool false, .slice none 0 0, .bool false, .slice none 0 0, .bool false, .slice none 0 0, .bool false, .slice none 0 0, .bool false, .slice none 0 0, .bool false, .slice none 0 0, .bool false, .slice none 0 0]) : Nat × List Value) :: [(g3, [.bool sa, .slice Aa na ca, .bool za, .slice Ba ma da, .bool sb, .slice Ab nb cb, .bool zb, .slice Bb mb db, .bool sc, .slice Ac nc cc, .bool zc, .slice Bc mc dc, .bool sd, .slice Ad nd cd, .bool zd, .slice Bd md dd])]) [] W5 := K5.pick (L' := ((g4, [.bool false, .slice none 0 0, .bool false, .slice none 0 0, .bool false, .slice none 0 0, .bool false, .slice none 0 0, .bool false, .slice none 0 0, .bool false, .slice none 0 0, .bool false, .slice none 0 0, .bool false, .slice none 0 0]) : Nat × List Value) :: [(g3, [.bool sa, .slice Aa na ca, .bool za, .slice Ba ma da, .bool sb, .slice Ab nb cb, .bool zb, .slice Bb mb db, .bool sc, .slice Ac nc cc, .bool zc, .slice Bc mc dc, .bool sd, .slice Ad nd cd, .bool zd, .slice Bd md dd])]) (l' := []) (all_cons (List.mem_of_getElem? (i := 1) rfl) (all_cons (List.mem_of_getElem? (i := 0) rfl) all_nil)) all_nil
                have K6 : Mm w [(g4, [.bool se, .slice Ae ne ce, .bool ze, .slice Be me de, .bool sf, .slice Af nf cf, .bool zf, .slice Bf mf df, .bool sg, .slice Ag ng cg, .bool zg, .slice Bg mg dg, .bool sh, .slice Ah nh ch, .bool zh, .slice Bh mh dh]), (g3, [.bool sa, .slice Aa na ca, .bool za, .slice Ba ma da, .bool sb, .slice Ab nb cb, .bool zb, .slice Bb mb db, .bool sc, .slice Ac nc cc, .bool zc, .slice Bc mc dc, .bool sd, .slice Ad nd cd, .bool zd, .slice Bd md dd])] [] (W5.setCells g4 0 [.bool se, .slice Ae ne ce, .bool ze, .slice Be me de, .bool sf, .slice Af nf cf, .bool zf, .slice Bf mf df, .bool sg, .slice Ag ng cg, .bool zg, .slice Bg mg dg, .bool sh, .slice Ah nh ch, .bool zh, .slice Bh mh dh]) := Mm.set16B Q6 (all_cons ne_g4_g3 all_nil)
                have th6 : World.there W5 g4 0 16 := (Q6.blk (g := g4) (vs := [.bool false, .slice none 0 0, .bool false, .slice none 0 0, .bool false, .slice none 0 0, .bool false, .slice none 0 0, .bool false, .slice none 0 0, .bool false, .slice none 0 0, .bool false, .slice none 0 0, .bool false, .slice none 0 0]) List.mem_cons_self).thereB
                refine step_store16 ?hw6 73 ?x6 ?y6 ?hop6 g4 ?hx6 [.bool se, .slice Ae ne ce, .bool ze, .slice Be me de, .bool sf, .slice Af nf cf, .bool zf, .slice Bf mf df, .bool sg, .slice Ag ng cg, .bool zg, .slice Bg mg dg, .bool sh, .slice Ah nh ch, .bool zh, .slice Bh mh dh] ?hy6 th6 ?hl6 size_foB ?h16 ?hk6
                case hop6 => rfl
                case hw6 => rfl
                case hx6 => rfl
                case hy6 => rfl
                case hl6 => rfl
                case h16 => rfl
                generalize W5.setCells g4 0 [.bool se, .slice Ae ne ce, .bool ze, .slice Be me de, .bool sf, .slice Af nf cf, .bool zf, .slice Bf mf df, .bool sg, .slice Ag ng cg, .bool zg, .slice Bg mg dg, .bool sh, .slice Ah nh ch, .bool zh, .slice Bh mh dh] = W6 at K6 ⊢
                refine hK.out _ _ ⟨(HP.out.next K6.1).rngB, (HQ.out.next K6.1).rngB⟩ (fun H6 => ?_)
                clear hK Kf H5 K5 Q6 th6
                try simp only [Act.put]
                refine wpAnyH_done (by kernel_rfl) ?_ _
                (try refine NoPanic.normal ?_)
                go_wp2_with fail
                go_meet
                exact ⟨g3, g4, rfl, rfl, ne_g3_g4, K6.pick (L' := [(g3, [.bool sa, .slice Aa na ca, .bool za, .slice Ba ma da, .bool sb, .slice Ab nb cb, .bool zb, .slice Bb mb db, .bool sc, .slice Ac nc cc, .bool zc, .slice Bc mc dc, .bool sd, .slice Ad nd cd, .bool zd, .slice Bd md dd]), (g4, [.bool se, .slice Ae ne ce, .bool ze, .slice Be me de, .bool sf, .slice Af nf cf, .bool zf, .slice Bf mf df, .bool sg, .slice Ag ng cg, .bool zg, .slice Bg mg dg, .bool sh, .slice Ah nh ch, .bool zh, .slice Bh mh dh])]) (l' := []) (all_cons (List.mem_of_getElem? (i := 1) rfl) (all_cons (List.mem_of_getElem? (i := 0) rfl) all_nil)) all_nil⟩
              exact AllReadyH.nil
            exact AllReadyH.nil
          exact AllReadyH.nil
        refine AllReadyH.cons (o := ?o7) ?ho7 (fun Kf hK => ?st7) ?mo7
        case ho7 =>
          simp only [List.getElem?_toArray, List.getElem?_cons_succ, List.getElem?_cons_zero]
          rfl
        case st7 =>
          go_simp
          have K7 := K2.var (g := W2.heap.size) rfl [.bool false, .slice none 0 0, .bool false, .slice none 0 0, .bool false, .slice none 0 0, .bool false, .slice none 0 0, .bool false, .slice none 0 0, .bool false, .slice none 0 0, .bool false, .slice none 0 0, .bool false, .slice none 0 0] 73
          refine hK.out _ _ ⟨(HP.out.next K7.1).rngB, (HQ.out.next K7.1).rngB⟩ (fun H7 => ?_)
          clear hK Kf H2 K2
          try simp only [Act.put, List.setIfInBounds_toArray, List.set_cons_zero, List.set_cons_succ]
          generalize W2.heap.size = g7 at K7  ⊢
          generalize W2.alloc (.cells #[.bool false, .slice none 0 0, .bool false, .slice none 0 0, .bool false, .slice none 0 0, .bool false, .slice none 0 0, .bool false, .slice none 0 0, .bool false, .slice none 0 0, .bool false, .slice none 0 0, .bool false, .slice none 0 0] 73) = W7 at K7 H7 ⊢
          refine wpAnyH_ready (rs := [4]) (by kernel_rfl) (by simp) ?_
          refine AllReadyH.cons (o := ?o8) ?ho8 (fun Kf hK => ?st8) ?mo8
          case ho8 =>
            simp only [List.getElem?_toArray, List.getElem?_cons_succ, List.getElem?_cons_zero]
            rfl
          case st8 =>
            go_simp
            have K8 := K7.var (g := W7.heap.size) rfl [.bool false, .slice none 0 0, .bool false, .slice none 0 0, .bool false, .slice none 0 0, .bool false, .slice none 0 0, .bool false, .slice none 0 0, .bool false, .slice none 0 0, .bool false, .slice none 0 0, .bool false, .slice none 0 0] 73
            have ne_g7_g8 : g7 ≠ W7.heap.size := by have := (K7.blk (g := g7) (vs := [.bool false, .slice none 0 0, .bool false, .slice none 0 0, .bool false, .slice none 0 0, .bool false, .slice none 0 0, .bool false, .slice none 0 0, .bool false, .slice none 0 0, .bool false, .slice none 0 0, .bool false, .slice none 0 0]) (List.mem_of_getElem? (i := 0) rfl)).1; omega
            have ne_g8_g7 : W7.heap.size ≠ g7 := fun h => ne_g7_g8 h.symm
            refine hK.out _ _ ⟨(HP.out.next K8.1).rngB, (HQ.out.next K8.1).rngB⟩ (fun H8 => ?_)
            clear hK Kf H7 K7
            try simp only [Act.put, List.setIfInBounds_toArray, List.set_cons_zero, List.set_cons_succ]
            generalize W7.heap.size = g8 at K8 ne_g7_g8 ne_g8_g7 ⊢
            generalize W7.alloc (.cells #[.bool false, .slice none 0 0, .bool false, .slice none 0 0, .bool false, .slice none 0 0, .bool false, .slice none 0 0, .bool false, .slice none 0 0, .bool false, .slice none 0 0, .bool false, .slice none 0 0, .bool false, .slice none 0 0] 73) = W8 at K8 H8 ⊢
            refine wpAnyH_ready (rs := [6]) (by kernel_rfl) (by simp) ?_
            refine AllReadyH.cons (o := ?o9) ?ho9 (fun Kf hK => ?st9) ?mo9
            case ho9 =>
              simp only [List.getElem?_toArray, List.getElem?_cons_succ, List.getElem?_cons_zero]
              rfl
            case st9 =>
              have Q9 : Mm w (((g8, [.bool false, .slice none 0 0, .bool false, .slice none 0 0, .bool false, .slice none 0 0, .bool false, .slice none 0 0, .bool false, .slice none 0 0, .bool false, .slice none 0 0, .bool false, .slice none 0 0, .bool false, .slice none 0 0]) : Nat × List Value) :: [(g7, [.bool false, .slice none 0 0, .bool false, .slice none 0 0, .bool false, .slice none 0 0, .bool false, .slice none 0 0, .bool false, .slice none 0 0, .bool false, .slice none 0 0, .bool false, .slice none 0 0, .bool false, .slice none 0 0])]) [] W8 := K8.pick (L' := ((g8, [.bool false, .slice none 0 0, .bool false, .slice none 0 0, .bool false, .slice none 0 0, .bool false, .slice none 0 0, .bool false, .slice none 0 0, .bool false, .slice none 0 0, .bool false, .slice none 0 0, .bool false, .slice none 0 0]) : Nat × List Value) :: [(g7, [.bool false, .slice none 0 0, .bool false, .slice none 0 0, .bool false, .slice none 0 0, .bool false, .slice none 0 0, .bool false, .slice none 0 0, .bool false, .slice none 0 0, .bool false, .slice none 0 0, .bool false, .slice none 0 0])]) (l' := []) (all_cons (List.mem_of_getElem? (i := 0) rfl) (all_cons (List.mem_of_getElem? (i := 1) rfl) all_nil)) all_nil
              have K9 : Mm w [(g8, [.bool sa, .slice Aa na ca, .bool za, .slice Ba ma da, .bool sb, .slice Ab nb cb, .bool zb, .slice Bb mb db, .bool sc, .slice Ac nc cc, .bool zc, .slice Bc mc dc, .bool sd, .slice Ad nd cd, .bool zd, .slice Bd md dd]), (g7, [.bool false, .slice none 0 0, .bool false, .slice none 0 0, .bool false, .slice none 0 0, .bool false, .slice none 0 0, .bool false, .slice none 0 0, .bool false, .slice none 0 0, .bool false, .slice none 0 0, .bool false, .slice none 0 0])] [] (W8.setCells g8 0 [.bool sa, .slice Aa na ca, .bool za, .slice Ba ma da, .bool sb, .slice Ab nb cb, .bool zb, .slice Bb mb db, .bool sc, .slice Ac nc cc, .bool zc, .slice Bc mc dc, .bool sd, .slice Ad nd cd, .bool zd, .slice Bd md dd]) := Mm.set16B Q9 (all_cons ne_g8_g7 all_nil)
              have th9 : World.there W8 g8 0 16 := (Q9.blk (g := g8) (vs := [.bool false, .slice none 0 0, .bool false, .slice none 0 0, .bool false, .slice none 0 0, .bool false, .slice none 0 0, .bool false, .slice none 0 0, .bool false, .slice none 0 0, .bool false, .slice none 0 0, .bool false, .slice none 0 0]) List.mem_cons_self).thereB
              refine step_store16 ?hw9 73 ?x9 ?y9 ?hop9 g8 ?hx9 [.bool sa, .slice Aa na ca, .bool za, .slice Ba ma da, .bool sb, .slice Ab nb cb, .bool zb, .slice Bb mb db, .bool sc, .slice Ac nc cc, .bool zc, .slice Bc mc dc, .bool sd, .slice Ad nd cd, .bool zd, .slice Bd md dd] ?hy9 th9 ?hl9 size_foB ?h19 ?hk9
              case hop9 => rfl
              case hw9 => rfl
              case hx9 => rfl
              case hy9 => rfl
              case hl9 => rfl
              case h19 => rfl
              generalize W8.setCells g8 0 [.bool sa, .slice Aa na ca, .bool za, .slice Ba ma da, .bool sb, .slice Ab nb cb, .bool zb, .slice Bb mb db, .bool sc, .slice Ac nc cc, .bool zc, .slice Bc mc dc, .bool sd, .slice Ad nd cd, .bool zd, .slice Bd md dd] = W9 at K9 ⊢
              refine hK.out _ _ ⟨(HP.out.next K9.1).rngB, (HQ.out.next K9.1).rngB⟩ (fun H9 => ?_)
              clear hK Kf H8 K8 Q9 th9
              try simp only [Act.put]
              refine wpAnyH_ready (rs := [7]) (by kernel_rfl) (by simp) ?_
              refine AllReadyH.cons (o := ?o10) ?ho10 (fun Kf hK => ?st10) ?mo10
              case ho10 =>
                simp only [List.getElem?_toArray, List.getElem?_cons_succ, List.getElem?_cons_zero]
                rfl
              case st10 =>
                have Q10 : Mm w (((g7, [.bool false, .slice none 0 0, .bool false, .slice none 0 0, .bool false, .slice none 0 0, .bool false, .slice none 0 0, .bool false, .slice none 0 0, .bool false, .slice none 0 0, .bool false, .slice none 0 0, .bool false, .slice none 0 0]) : Nat × List Value) :: [(g8, [.bool sa, .slice Aa na ca, .bool za, .slice Ba ma da, .bool sb, .slice Ab nb cb, .bool zb, .slice Bb mb db, .bool sc, .slice Ac nc cc, .bool zc, .slice Bc mc dc, .bool sd, .slice Ad nd cd, .bool zd, .slice Bd md dd])]) [] W9 := K9.pick (L' := ((g7, [.bool false, .slice none 0 0, .bool false, .slice none 0 0, .bool false, .slice none 0 0, .bool false, .slice none 0 0, .bool false, .slice none 0 0, .bool false, .slice none 0 0, .bool false, .slice none 0 0, .bool false, .slice none 0 0]) : Nat × List Value) :: [(g8, [.bool sa, .slice Aa na ca, .bool za, .slice Ba ma da, .bool sb, .slice Ab nb cb, .bool zb, .slice Bb mb db, .bool sc, .slice Ac nc cc, .bool zc, .slice Bc mc dc, .bool sd, .slice Ad nd cd, .bool zd, .slice Bd md dd])]) (l' := []) (all_cons (List.mem_of_getElem? (i := 1) rfl) (all_cons (List.mem_of_getElem? (i := 0) rfl) all_nil)) all_nil
                have K10 : Mm w [(g7, [.bool se, .slice Ae ne ce, .bool ze, .slice Be me de, .bool sf, .slice Af nf cf, .bool zf, .slice Bf mf df, .bool sg, .slice Ag ng cg, .bool zg, .slice Bg mg dg, .bool sh, .slice Ah nh ch, .bool zh, .slice Bh mh dh]), (g8, [.bool sa, .slice Aa na ca, .bool za, .slice Ba ma da, .bool sb, .slice Ab nb cb, .bool zb, .slice Bb mb db, .bool sc, .slice Ac nc cc, .bool zc, .slice Bc mc dc, .bool sd, .slice Ad nd cd, .bool zd, .slice Bd md dd])] [] (W9.setCells g7 0 [.bool se, .slice Ae ne ce, .bool ze, .slice Be me de, .bool sf, .slice Af nf cf, .bool zf, .slice Bf mf df, .bool sg, .slice Ag ng cg, .bool zg, .slice Bg mg dg, .bool sh, .slice Ah nh ch, .bool zh, .slice Bh mh dh]) := Mm.set16B Q10 (all_cons ne_g7_g8 all_nil)
                have th10 : World.there W9 g7 0 16 := (Q10.blk (g := g7) (vs := [.bool false, .slice none 0 0, .bool false, .slice none 0 0, .bool false, .slice none 0 0, .bool false, .slice none 0 0, .bool false, .slice none 0 0, .bool false, .slice none 0 0, .bool false, .slice none 0 0, .bool false, .slice none 0 0]) List.mem_cons_self).thereB
                refine step_store16 ?hw10 73 ?x10 ?y10 ?hop10 g7 ?hx10 [.bool se, .slice Ae ne ce, .bool ze, .slice Be me de, .bool sf, .slice Af nf cf, .bool zf, .slice Bf mf df, .bool sg, .slice Ag ng cg, .bool zg, .slice Bg mg dg, .bool sh, .slice Ah nh ch, .bool zh, .slice Bh mh dh] ?hy10 th10 ?hl10 size_foB ?h110 ?hk10
                case hop10 => rfl
                case hw10 => rfl
                case hx10 => rfl
                case hy10 => rfl
                case hl10 => rfl
                case h110 => rfl
                generalize W9.setCells g7 0 [.bool se, .slice Ae ne ce, .bool ze, .slice Be me de, .bool sf, .slice Af nf cf, .bool zf, .slice Bf mf df, .bool sg, .slice Ag ng cg, .bool zg, .slice Bg mg dg, .bool sh, .slice Ah nh ch, .bool zh, .slice Bh mh dh] = W10 at K10 ⊢
                refine hK.out _ _ ⟨(HP.out.next K10.1).rngB, (HQ.out.next K10.1).rngB⟩ (fun H10 => ?_)
                clear hK Kf H9 K9 Q10 th10
                try simp only [Act.put]
                refine wpAnyH_done (by kernel_rfl) ?_ _
                (try refine NoPanic.normal ?_)
                go_wp2_with fail
                go_meet
                exact ⟨g8, g7, rfl, rfl, ne_g8_g7, K10.pick (L' := [(g8, [.bool sa, .slice Aa na ca, .bool za, .slice Ba ma da, .bool sb, .slice Ab nb cb, .bool zb, .slice Bb mb db, .bool sc, .slice Ac nc cc, .bool zc, .slice Bc mc dc, .bool sd, .slice Ad nd cd, .bool zd, .slice Bd md dd]), (g7, [.bool se, .slice Ae ne ce, .bool ze, .slice Be me de, .bool sf, .slice Af nf cf, .bool zf, .slice Bf mf df, .bool sg, .slice Ag ng cg, .bool zg, .slice Bg mg dg, .bool sh, .slice Ah nh ch, .bool zh, .slice Bh mh dh])]) (l' := []) (all_cons (List.mem_of_getElem? (i := 1) rfl) (all_cons (List.mem_of_getElem? (i := 0) rfl) all_nil)) all_nil⟩
              exact AllReadyH.nil
            exact AllReadyH.nil
          exact AllReadyH.nil
        exact AllReadyH.nil
      refine AllReadyH.cons (o := ?o11) ?ho11 (fun Kf hK => ?st11) ?mo11
      case ho11 =>
        simp only [List.getElem?_toArray, List.getElem?_cons_succ, List.getElem?_cons_zero]
        rfl
      case st11 =>
        go_simp
        have K11 := K1.var (g := W1.heap.size) rfl [.bool false, .slice none 0 0, .bool false, .slice none 0 0, .bool false, .slice none 0 0, .bool false, .slice none 0 0, .bool false, .slice none 0 0, .bool false, .slice none 0 0, .bool false, .slice none 0 0, .bool false, .slice none 0 0] 73
        refine hK.out _ _ ⟨(HP.out.next K11.1).rngB, (HQ.out.next K11.1).rngB⟩ (fun H11 => ?_)
        clear hK Kf H1 K1
        try simp only [Act.put, List.setIfInBounds_toArray, List.set_cons_zero, List.set_cons_succ]
        generalize W1.heap.size = g11 at K11  ⊢
        generalize W1.alloc (.cells #[.bool false, .slice none 0 0, .bool false, .slice none 0 0, .bool false, .slice none 0 0, .bool false, .slice none 0 0, .bool false, .slice none 0 0, .bool false, .slice none 0 0, .bool false, .slice none 0 0, .bool false, .slice none 0 0] 73) = W11 at K11 H11 ⊢
        refine wpAnyH_ready (rs := [3, 5]) (by kernel_rfl) (by simp) ?_
        refine AllReadyH.cons (o := ?o12) ?ho12 (fun Kf hK => ?st12) ?mo12
        case ho12 =>
          simp only [List.getElem?_toArray, List.getElem?_cons_succ, List.getElem?_cons_zero]
          rfl
        case st12 =>
          go_simp
          refine (four_of_any se Ae ne ce ze Be me de sf Af nf cf zf Bf mf df sg Ag ng cg zg Bg mg dg sh Ah nh ch zh Bh mh dh _).mono ?_
          rintro e12 W12 ⟨rfl, hb12⟩
          have K12 := K11.next hb12
          refine hK.out _ _ ⟨(HP.out.next K12.1).rngB, (HQ.out.next K12.1).rngB⟩ (fun H12 => ?_)
          clear hK Kf H11 K11 hb12
          try simp only [Act.put, List.setIfInBounds_toArray, List.set_cons_zero, List.set_cons_succ]
          refine wpAnyH_ready (rs := [5]) (by kernel_rfl) (by simp) ?_
          refine AllReadyH.cons (o := ?o13) ?ho13 (fun Kf hK => ?st13) ?mo13
          case ho13 =>
            simp only [List.getElem?_toArray, List.getElem?_cons_succ, List.getElem?_cons_zero]
            rfl
          case st13 =>
            go_simp
            have K13 := K12.var (g := W12.heap.size) rfl [.bool false, .slice none 0 0, .bool false, .slice none 0 0, .bool false, .slice none 0 0, .bool false, .slice none 0 0, .bool false, .slice none 0 0, .bool false, .slice none 0 0, .bool false, .slice none 0 0, .bool false, .slice none 0 0] 73
            have ne_g11_g13 : g11 ≠ W12.heap.size := by have := (K12.blk (g := g11) (vs := [.bool false, .slice none 0 0, .bool false, .slice none 0 0, .bool false, .slice none 0 0, .bool false, .slice none 0 0, .bool false, .slice none 0 0, .bool false, .slice none 0 0, .bool false, .slice none 0 0, .bool false, .slice none 0 0]) (List.mem_of_getElem? (i := 0) rfl)).1; omega
            have ne_g13_g11 : W12.heap.size ≠ g11 := fun h => ne_g11_g13 h.symm
            refine hK.out _ _ ⟨(HP.out.next K13.1).rngB, (HQ.out.next K13.1).rngB⟩ (fun H13 => ?_)
            clear hK Kf H12 K12
            try simp only [Act.put, List.setIfInBounds_toArray, List.set_cons_zero, List.set_cons_succ]
            generalize W12.heap.size = g13 at K13 ne_g11_g13 ne_g13_g11 ⊢
            generalize W12.alloc (.cells #[.bool false, .slice none 0 0, .bool false, .slice none 0 0, .bool false, .slice none 0 0, .bool false, .slice none 0 0, .bool false, .slice none 0 0, .bool false, .slice none 0 0, .bool false, .slice none 0 0, .bool false, .slice none 0 0] 73) = W13 at K13 H13 ⊢
            refine wpAnyH_ready (rs := [6]) (by kernel_rfl) (by simp) ?_
            refine AllReadyH.cons (o := ?o14) ?ho14 (fun Kf hK => ?st14) ?mo14
            case ho14 =>
              simp only [List.getElem?_toArray, List.getElem?_cons_succ, List.getElem?_cons_zero]
              rfl
            case st14 =>
              have Q14 : Mm w (((g11, [.bool false, .slice none 0 0, .bool false, .slice none 0 0, .bool false, .slice none 0 0, .bool false, .slice none 0 0, .bool false, .slice none 0 0, .bool false, .slice none 0 0, .bool false, .slice none 0 0, .bool false, .slice none 0 0]) : Nat × List Value) :: [(g13, [.bool false, .slice none 0 0, .bool false, .slice none 0 0, .bool false, .slice none 0 0, .bool false, .slice none 0 0, .bool false, .slice none 0 0, .bool false, .slice none 0 0, .bool false, .slice none 0 0, .bool false, .slice none 0 0])]) [] W13 := K13.pick (L' := ((g11, [.bool false, .slice none 0 0, .bool false, .slice none 0 0, .bool false, .slice none 0 0, .bool false, .slice none 0 0, .bool false, .slice none 0 0, .bool false, .slice none 0 0, .bool false, .slice none 0 0, .bool false, .slice none 0 0]) : Nat × List Value) :: [(g13, [.bool false, .slice none 0 0, .bool false, .slice none 0 0, .bool false, .slice none 0 0, .bool false, .slice none 0 0, .bool false, .slice none 0 0, .bool false, .slice none 0 0, .bool false, .slice none 0 0, .bool false, .slice none 0 0])]) (l' := []) (all_cons (List.mem_of_getElem? (i := 1) rfl) (all_cons (List.mem_of_getElem? (i := 0) rfl) all_nil)) all_nil
              have K14 : Mm w [(g11, [.bool sa, .slice Aa na ca, .bool za, .slice Ba ma da, .bool sb, .slice Ab nb cb, .bool zb, .slice Bb mb db, .bool sc, .slice Ac nc cc, .bool zc, .slice Bc mc dc, .bool sd, .slice Ad nd cd, .bool zd, .slice Bd md dd]), (g13, [.bool false, .slice none 0 0, .bool false, .slice none 0 0, .bool false, .slice none 0 0, .bool false, .slice none 0 0, .bool false, .slice none 0 0, .bool false, .slice none 0 0, .bool false, .slice none 0 0, .bool false, .slice none 0 0])] [] (W13.setCells g11 0 [.bool sa, .slice Aa na ca, .bool za, .slice Ba ma da, .bool sb, .slice Ab nb cb, .bool zb, .slice Bb mb db, .bool sc, .slice Ac nc cc, .bool zc, .slice Bc mc dc, .bool sd, .slice Ad nd cd, .bool zd, .slice Bd md dd]) := Mm.set16B Q14 (all_cons ne_g11_g13 all_nil)
              have th14 : World.there W13 g11 0 16 := (Q14.blk (g := g11) (vs := [.bool false, .slice none 0 0, .bool false, .slice none 0 0, .bool false, .slice none 0 0, .bool false, .slice none 0 0, .bool false, .slice none 0 0, .bool false, .slice none 0 0, .bool false, .slice none 0 0, .bool false, .slice none 0 0]) List.mem_cons_self).thereB
              refine step_store16 ?hw14 73 ?x14 ?y14 ?hop14 g11 ?hx14 [.bool sa, .slice Aa na ca, .bool za, .slice Ba ma da, .bool sb, .slice Ab nb cb, .bool zb, .slice Bb mb db, .bool sc, .slice Ac nc cc, .bool zc, .slice Bc mc dc, .bool sd, .slice Ad nd cd, .bool zd, .slice Bd md dd] ?hy14 th14 ?hl14 size_foB ?h114 ?hk14
              case hop14 => rfl
              case hw14 => rfl
              case hx14 => rfl
              case hy14 => rfl
              case hl14 => rfl
              case h114 => rfl
              generalize W13.setCells g11 0 [.bool sa, .slice Aa na ca, .bool za, .slice Ba ma da, .bool sb, .slice Ab nb cb, .bool zb, .slice Bb mb db, .bool sc, .slice Ac nc cc, .bool zc, .slice Bc mc dc, .bool sd, .slice Ad nd cd, .bool zd, .slice Bd md dd] = W14 at K14 ⊢
              refine hK.out _ _ ⟨(HP.out.next K14.1).rngB, (HQ.out.next K14.1).rngB⟩ (fun H14 => ?_)
              clear hK Kf H13 K13 Q14 th14
              try simp only [Act.put]
              refine wpAnyH_ready (rs := [7]) (by kernel_rfl) (by simp) ?_
              refine AllReadyH.cons (o := ?o15) ?ho15 (fun Kf hK => ?st15) ?mo15
              case ho15 =>
                simp only [List.getElem?_toArray, List.getElem?_cons_succ, List.getElem?_cons_zero]
                rfl
              case st15 =>
                have Q15 : Mm w (((g13, [.bool false, .slice none 0 0, .bool false, .slice none 0 0, .bool false, .slice none 0 0, .bool false, .slice none 0 0, .bool false, .slice none 0 0, .bool false, .slice none 0 0, .bool false, .slice none 0 0, .bool false, .slice none 0 0]) : Nat × List Value) :: [(g11, [.bool sa, .slice Aa na ca, .bool za, .slice Ba ma da, .bool sb, .slice Ab nb cb, .bool zb, .slice Bb mb db, .bool sc, .slice Ac nc cc, .bool zc, .slice Bc mc dc, .bool sd, .slice Ad nd cd, .bool zd, .slice Bd md dd])]) [] W14 := K14.pick (L' := ((g13, [.bool false, .slice none 0 0, .bool false, .slice none 0 0, .bool false, .slice none 0 0, .bool false, .slice none 0 0, .bool false, .slice none 0 0, .bool false, .slice none 0 0, .bool false, .slice none 0 0, .bool false, .slice none 0 0]) : Nat × List Value) :: [(g11, [.bool sa, .slice Aa na ca, .bool za, .slice Ba ma da, .bool sb, .slice Ab nb cb, .bool zb, .slice Bb mb db, .bool sc, .slice Ac nc cc, .bool zc, .slice Bc mc dc, .bool sd, .slice Ad nd cd, .bool zd, .slice Bd md dd])]) (l' := []) (all_cons (List.mem_of_getElem? (i := 1) rfl) (all_cons (List.mem_of_getElem? (i := 0) rfl) all_nil)) all_nil
                have K15 : Mm w [(g13, [.bool se, .slice Ae ne ce, .bool ze, .slice Be me de, .bool sf, .slice Af nf cf, .bool zf, .slice Bf mf df, .bool sg, .slice Ag ng cg, .bool zg, .slice Bg mg dg, .bool sh, .slice Ah nh ch, .bool zh, .slice Bh mh dh]), (g11, [.bool sa, .slice Aa na ca, .bool za, .slice Ba ma da, .bool sb, .slice Ab nb cb, .bool zb, .slice Bb mb db, .bool sc, .slice Ac nc cc, .bool zc, .slice Bc mc dc, .bool sd, .slice Ad nd cd, .bool zd, .slice Bd md dd])] [] (W14.setCells g13 0 [.bool se, .slice Ae ne ce, .bool ze, .slice Be me de, .bool sf, .slice Af nf cf, .bool zf, .slice Bf mf df, .bool sg, .slice Ag ng cg, .bool zg, .slice Bg mg dg, .bool sh, .slice Ah nh ch, .bool zh, .slice Bh mh dh]) := Mm.set16B Q15 (all_cons ne_g13_g11 all_nil)
                have th15 : World.there W14 g13 0 16 := (Q15.blk (g := g13) (vs := [.bool false, .slice none 0 0, .bool false, .slice none 0 0, .bool false, .slice none 0 0, .bool false, .slice none 0 0, .bool false, .slice none 0 0, .bool false, .slice none 0 0, .bool false, .slice none 0 0, .bool false, .slice none 0 0]) List.mem_cons_self).thereB
                refine step_store16 ?hw15 73 ?x15 ?y15 ?hop15 g13 ?hx15 [.bool se, .slice Ae ne ce, .bool ze, .slice Be me de, .bool sf, .slice Af nf cf, .bool zf, .slice Bf mf df, .bool sg, .slice Ag ng cg, .bool zg, .slice Bg mg dg, .bool sh, .slice Ah nh ch, .bool zh, .slice Bh mh dh] ?hy15 th15 ?hl15 size_foB ?h115 ?hk15
                case hop15 => rfl
                case hw15 => rfl
                case hx15 => rfl
                case hy15 => rfl
                case hl15 => rfl
                case h115 => rfl
                generalize W14.setCells g13 0 [.bool se, .slice Ae ne ce, .bool ze, .slice Be me de, .bool sf, .slice Af nf cf, .bool zf, .slice Bf mf df, .bool sg, .slice Ag ng cg, .bool zg, .slice Bg mg dg, .bool sh, .slice Ah nh ch, .bool zh, .slice Bh mh dh] = W15 at K15 ⊢
                refine hK.out _ _ ⟨(HP.out.next K15.1).rngB, (HQ.out.next K15.1).rngB⟩ (fun H15 => ?_)
                clear hK Kf H14 K14 Q15 th15
                try simp only [Act.put]
                refine wpAnyH_done (by kernel_rfl) ?_ _
                (try refine NoPanic.normal ?_)
                go_wp2_with fail
                go_meet
                exact ⟨g11, g13, rfl, rfl, ne_g11_g13, K15.pick (L' := [(g11, [.bool sa, .slice Aa na ca, .bool za, .slice Ba ma da, .bool sb, .slice Ab nb cb, .bool zb, .slice Bb mb db, .bool sc, .slice Ac nc cc, .bool zc, .slice Bc mc dc, .bool sd, .slice Ad nd cd, .bool zd, .slice Bd md dd]), (g13, [.bool se, .slice Ae ne ce, .bool ze, .slice Be me de, .bool sf, .slice Af nf cf, .bool zf, .slice Bf mf df, .bool sg, .slice Ag ng cg, .bool zg, .slice Bg mg dg, .bool sh, .slice Ah nh ch, .bool zh, .slice Bh mh dh])]) (l' := []) (all_cons (List.mem_of_getElem? (i := 1) rfl) (all_cons (List.mem_of_getElem? (i := 0) rfl) all_nil)) all_nil⟩
              exact AllReadyH.nil
            exact AllReadyH.nil
          exact AllReadyH.nil
        refine AllReadyH.cons (o := ?o16) ?ho16 (fun Kf hK => ?st16) ?mo16
        case ho16 =>
          simp only [List.getElem?_toArray, List.getElem?_cons_succ, List.getElem?_cons_zero]
          rfl
        case st16 =>
          go_simp
          have K16 := K11.var (g := W11.heap.size) rfl [.bool false, .slice none 0 0, .bool false, .slice none 0 0, .bool false, .slice none 0 0, .bool false, .slice none 0 0, .bool false, .slice none 0 0, .bool false, .slice none 0 0, .bool false, .slice none 0 0, .bool false, .slice none 0 0] 73
          have ne_g11_g16 : g11 ≠ W11.heap.size := by have := (K11.blk (g := g11) (vs := [.bool false, .slice none 0 0, .bool false, .slice none 0 0, .bool false, .slice none 0 0, .bool false, .slice none 0 0, .bool false, .slice none 0 0, .bool false, .slice none 0 0, .bool false, .slice none 0 0, .bool false, .slice none 0 0]) (List.mem_of_getElem? (i := 0) rfl)).1; omega
          have ne_g16_g11 : W11.heap.size ≠ g11 := fun h => ne_g11_g16 h.symm
          refine hK.out _ _ ⟨(HP.out.next K16.1).rngB, (HQ.out.next K16.1).rngB⟩ (fun H16 => ?_)
          clear hK Kf H11 K11
          try simp only [Act.put, List.setIfInBounds_toArray, List.set_cons_zero, List.set_cons_succ]
          generalize W11.heap.size = g16 at K16 ne_g11_g16 ne_g16_g11 ⊢
          generalize W11.alloc (.cells #[.bool false, .slice none 0 0, .bool false, .slice none 0 0, .bool false, .slice none 0 0, .bool false, .slice none 0 0, .bool false, .slice none 0 0, .bool false, .slice none 0 0, .bool false, .slice none 0 0, .bool false, .slice none 0 0] 73) = W16 at K16 H16 ⊢
          refine wpAnyH_ready (rs := [3]) (by kernel_rfl) (by simp) ?_
          refine AllReadyH.cons (o := ?o17) ?ho17 (fun Kf hK => ?st17) ?mo17
          case ho17 =>
            simp only [List.getElem?_toArray, List.getElem?_cons_succ, List.getElem?_cons_zero]
            rfl
          case st17 =>
            go_simp
            refine (four_of_any se Ae ne ce ze Be me de sf Af nf cf zf Bf mf df sg Ag ng cg zg Bg mg dg sh Ah nh ch zh Bh mh dh _).mono ?_
            rintro e17 W17 ⟨rfl, hb17⟩
            have K17 := K16.next hb17
            refine hK.out _ _ ⟨(HP.out.next K17.1).rngB, (HQ.out.next K17.1).rngB⟩ (fun H17 => ?_)
            clear hK Kf H16 K16 hb17
            try simp only [Act.put, List.setIfInBounds_toArray, List.set_cons_zero, List.set_cons_succ]
            refine wpAnyH_ready (rs := [6]) (by kernel_rfl) (by simp) ?_
            refine AllReadyH.cons (o := ?o18) ?ho18 (fun Kf hK => ?st18) ?mo18
            case ho18 =>
              simp only [List.getElem?_toArray, List.getElem?_cons_succ, List.getElem?_cons_zero]
              rfl
            case st18 =>
              have Q18 : Mm w (((g11, [.bool false, .slice none 0 0, .bool false, .slice none 0 0, .bool false, .slice none 0 0, .bool false, .slice none 0 0, .bool false, .slice none 0 0, .bool false, .slice none 0 0, .bool false, .slice none 0 0, .bool false, .slice none 0 0]) : Nat × List Value) :: [(g16, [.bool false, .slice none 0 0, .bool false, .slice none 0 0, .bool false, .slice none 0 0, .bool false, .slice none 0 0, .bool false, .slice none 0 0, .bool false, .slice none 0 0, .bool false, .slice none 0 0, .bool false, .slice none 0 0])]) [] W17 := K17.pick (L' := ((g11, [.bool false, .slice none 0 0, .bool false, .slice none 0 0, .bool false, .slice none 0 0, .bool false, .slice none 0 0, .bool false, .slice none 0 0, .bool false, .slice none 0 0, .bool false, .slice none 0 0, .bool false, .slice none 0 0]) : Nat × List Value) :: [(g16, [.bool false, .slice none 0 0, .bool false, .slice none 0 0, .bool false, .slice none 0 0, .bool false, .slice none 0 0, .bool false, .slice none 0 0, .bool false, .slice none 0 0, .bool false, .slice none 0 0, .bool false, .slice none 0 0])]) (l' := []) (all_cons (List.mem_of_getElem? (i := 1) rfl) (all_cons (List.mem_of_getElem? (i := 0) rfl) all_nil)) all_nil
              have K18 : Mm w [(g11, [.bool sa, .slice Aa na ca, .bool za, .slice Ba ma da, .bool sb, .slice Ab nb cb, .bool zb, .slice Bb mb db, .bool sc, .slice Ac nc cc, .bool zc, .slice Bc mc dc, .bool sd, .slice Ad nd cd, .bool zd, .slice Bd md dd]), (g16, [.bool false, .slice none 0 0, .bool false, .slice none 0 0, .bool false, .slice none 0 0, .bool false, .slice none 0 0, .bool false, .slice none 0 0, .bool false, .slice none 0 0, .bool false, .slice none 0 0, .bool false, .slice none 0 0])] [] (W17.setCells g11 0 [.bool sa, .slice Aa na ca, .bool za, .slice Ba ma da, .bool sb, .slice Ab nb cb, .bool zb, .slice Bb mb db, .bool sc, .slice Ac nc cc, .bool zc, .slice Bc mc dc, .bool sd, .slice Ad nd cd, .bool zd, .slice Bd md dd]) := Mm.set16B Q18 (all_cons ne_g11_g16 all_nil)
              have th18 : World.there W17 g11 0 16 := (Q18.blk (g := g11) (vs := [.bool false, .slice none 0 0, .bool false, .slice none 0 0, .bool false, .slice none 0 0, .bool false, .slice none 0 0, .bool false, .slice none 0 0, .bool false, .slice none 0 0, .bool false, .slice none 0 0, .bool false, .slice none 0 0]) List.mem_cons_self).thereB
              refine step_store16 ?hw18 73 ?x18 ?y18 ?hop18 g11 ?hx18 [.bool sa, .slice Aa na ca, .bool za, .slice Ba ma da, .bool sb, .slice Ab nb cb, .bool zb, .slice Bb mb db, .bool sc, .slice Ac nc cc, .bool zc, .slice Bc mc dc, .bool sd, .slice Ad nd cd, .bool zd, .slice Bd md dd] ?hy18 th18 ?hl18 size_foB ?h118 ?hk18
              case hop18 => rfl
              case hw18 => rfl
              case hx18 => rfl
              case hy18 => rfl
              case hl18 => rfl
              case h118 => rfl
              generalize W17.setCells g11 0 [.bool sa, .slice Aa na ca, .bool za, .slice Ba ma da, .bool sb, .slice Ab nb cb, .bool zb, .slice Bb mb db, .bool sc, .slice Ac nc cc, .bool zc, .slice Bc mc dc, .bool sd, .slice Ad nd cd, .bool zd, .slice Bd md dd] = W18 at K18 ⊢
              refine hK.out _ _ ⟨(HP.out.next K18.1).rngB, (HQ.out.next K18.1).rngB⟩ (fun H18 => ?_)
              clear hK Kf H17 K17 Q18 th18
              try simp only [Act.put]
              refine wpAnyH_ready (rs := [7]) (by kernel_rfl) (by simp) ?_
              refine AllReadyH.cons (o := ?o19) ?ho19 (fun Kf hK => ?st19) ?mo19
              case ho19 =>
                simp only [List.getElem?_toArray, List.getElem?_cons_succ, List.getElem?_cons_zero]
                rfl
              case st19 =>
                have Q19 : Mm w (((g16, [.bool false, .slice none 0 0, .bool false, .slice none 0 0, .bool false, .slice none 0 0, .bool false, .slice none 0 0, .bool false, .slice none 0 0, .bool false, .slice none 0 0, .bool false, .slice none 0 0, .bool false, .slice none 0 0]) : Nat × List Value) :: [(g11, [.bool sa, .slice Aa na ca, .bool za, .slice Ba ma da, .bool sb, .slice Ab nb cb, .bool zb, .slice Bb mb db, .bool sc, .slice Ac nc cc, .bool zc, .slice Bc mc dc, .bool sd, .slice Ad nd cd, .bool zd, .slice Bd md dd])]) [] W18 := K18.pick (L' := ((g16, [.bool false, .slice none 0 0, .bool false, .slice none 0 0, .bool false, .slice none 0 0, .bool false, .slice none 0 0, .bool false, .slice none 0 0, .bool false, .slice none 0 0, .bool false, .slice none 0 0, .bool false, .slice none 0 0]) : Nat × List Value) :: [(g11, [.bool sa, .slice Aa na ca, .bool za, .slice Ba ma da, .bool sb, .slice Ab nb cb, .bool zb, .slice Bb mb db, .bool sc, .slice Ac nc cc, .bool zc, .slice Bc mc dc, .bool sd, .slice Ad nd cd, .bool zd, .slice Bd md dd])]) (l' := []) (all_cons (List.mem_of_getElem? (i := 1) rfl) (all_cons (List.mem_of_getElem? (i := 0) rfl) all_nil)) all_nil
                have K19 : Mm w [(g16, [.bool se, .slice Ae ne ce, .bool ze, .slice Be me de, .bool sf, .slice Af nf cf, .bool zf, .slice Bf mf df, .bool sg, .slice Ag ng cg, .bool zg, .slice Bg mg dg, .bool sh, .slice Ah nh ch, .bool zh, .slice Bh mh dh]), (g11, [.bool sa, .slice Aa na ca, .bool za, .slice Ba ma da, .bool sb, .slice Ab nb cb, .bool zb, .slice Bb mb db, .bool sc, .slice Ac nc cc, .bool zc, .slice Bc mc dc, .bool sd, .slice Ad nd cd, .bool zd, .slice Bd md dd])] [] (W18.setCells g16 0 [.bool se, .slice Ae ne ce, .bool ze, .slice Be me de, .bool sf, .slice Af nf cf, .bool zf, .slice Bf mf df, .bool sg, .slice Ag ng cg, .bool zg, .slice Bg mg dg, .bool sh, .slice Ah nh ch, .bool zh, .slice Bh mh dh]) := Mm.set16B Q19 (all_cons ne_g16_g11 all_nil)
                have th19 : World.there W18 g16 0 16 := (Q19.blk (g := g16) (vs := [.bool false, .slice none 0 0, .bool false, .slice none 0 0, .bool false, .slice none 0 0, .bool false, .slice none 0 0, .bool false, .slice none 0 0, .bool false, .slice none 0 0, .bool false, .slice none 0 0, .bool false, .slice none 0 0]) List.mem_cons_self).thereB
                refine step_store16 ?hw19 73 ?x19 ?y19 ?hop19 g16 ?hx19 [.bool se, .slice Ae ne ce, .bool ze, .slice Be me de, .bool sf, .slice Af nf cf, .bool zf, .slice Bf mf df, .bool sg, .slice Ag ng cg, .bool zg, .slice Bg mg dg, .bool sh, .slice Ah nh ch, .bool zh, .slice Bh mh dh] ?hy19 th19 ?hl19 size_foB ?h119 ?hk19
                case hop19 => rfl
                case hw19 => rfl
                case hx19 => rfl
                case hy19 => rfl
                case hl19 => rfl
                case h119 => rfl
                generalize W18.setCells g16 0 [.bool se, .slice Ae ne ce, .bool ze, .slice Be me de, .bool sf, .slice Af nf cf, .bool zf, .slice Bf mf df, .bool sg, .slice Ag ng cg, .bool zg, .slice Bg mg dg, .bool sh, .slice Ah nh ch, .bool zh, .slice Bh mh dh] = W19 at K19 ⊢
                refine hK.out _ _ ⟨(HP.out.next K19.1).rngB, (HQ.out.next K19.1).rngB⟩ (fun H19 => ?_)
                clear hK Kf H18 K18 Q19 th19
                try simp only [Act.put]
                refine wpAnyH_done (by kernel_rfl) ?_ _
                (try refine NoPanic.normal ?_)
                go_wp2_with fail
                go_meet
                exact ⟨g11, g16, rfl, rfl, ne_g11_g16, K19.pick (L' := [(g11, [.bool sa, .slice Aa na ca, .bool za, .slice Ba ma da, .bool sb, .slice Ab nb cb, .bool zb, .slice Bb mb db, .bool sc, .slice Ac nc cc, .bool zc, .slice Bc mc dc, .bool sd, .slice Ad nd cd, .bool zd, .slice Bd md dd]), (g16, [.bool se, .slice Ae ne ce, .bool ze, .slice Be me de, .bool sf, .slice Af nf cf, .bool zf, .slice Bf mf df, .bool sg, .slice Ag ng cg, .bool zg, .slice Bg mg dg, .bool sh, .slice Ah nh ch, .bool zh, .slice Bh mh dh])]) (l' := []) (all_cons (List.mem_of_getElem? (i := 1) rfl) (all_cons (List.mem_of_getElem? (i := 0) rfl) all_nil)) all_nil⟩
              exact AllReadyH.nil
            exact AllReadyH.nil
          exact AllReadyH.nil
        exact AllReadyH.nil
      refine AllReadyH.cons (o := ?o20) ?ho20 (fun Kf hK => ?st20) ?mo20
      case ho20 =>
        simp only [List.getElem?_toArray, List.getElem?_cons_succ, List.getElem?_cons_zero]
        rfl
      case st20 =>
        go_simp
        have K20 := K1.var (g := W1.heap.size) rfl [.bool false, .slice none 0 0, .bool false, .slice none 0 0, .bool false, .slice none 0 0, .bool false, .slice none 0 0, .bool false, .slice none 0 0, .bool false, .slice none 0 0, .bool false, .slice none 0 0, .bool false, .slice none 0 0] 73
        refine hK.out _ _ ⟨(HP.out.next K20.1).rngB, (HQ.out.next K20.1).rngB⟩ (fun H20 => ?_)
        clear hK Kf H1 K1
        try simp only [Act.put, List.setIfInBounds_toArray, List.set_cons_zero, List.set_cons_succ]
        generalize W1.heap.size = g20 at K20  ⊢
        generalize W1.alloc (.cells #[.bool false, .slice none 0 0, .bool false, .slice none 0 0, .bool false, .slice none 0 0, .bool false, .slice none 0 0, .bool false, .slice none 0 0, .bool false, .slice none 0 0, .bool false, .slice none 0 0, .bool false, .slice none 0 0] 73) = W20 at K20 H20 ⊢
        refine wpAnyH_ready (rs := [3, 4]) (by kernel_rfl) (by simp) ?_
        refine AllReadyH.cons (o := ?o21) ?ho21 (fun Kf hK => ?st21) ?mo21
        case ho21 =>
          simp only [List.getElem?_toArray, List.getElem?_cons_succ, List.getElem?_cons_zero]
          rfl
        case st21 =>
          go_simp
          refine (four_of_any se Ae ne ce ze Be me de sf Af nf cf zf Bf mf df sg Ag ng cg zg Bg mg dg sh Ah nh ch zh Bh mh dh _).mono ?_
          rintro e21 W21 ⟨rfl, hb21⟩
          have K21 := K20.next hb21
          refine hK.out _ _ ⟨(HP.out.next K21.1).rngB, (HQ.out.next K21.1).rngB⟩ (fun H21 => ?_)
          clear hK Kf H20 K20 hb21
          try simp only [Act.put, List.setIfInBounds_toArray, List.set_cons_zero, List.set_cons_succ]
          refine wpAnyH_ready (rs := [4]) (by kernel_rfl) (by simp) ?_
          refine AllReadyH.cons (o := ?o22) ?ho22 (fun Kf hK => ?st22) ?mo22
          case ho22 =>
            simp only [List.getElem?_toArray, List.getElem?_cons_succ, List.getElem?_cons_zero]
            rfl
          case st22 =>
            go_simp
            have K22 := K21.var (g := W21.heap.size) rfl [.bool false, .slice none 0 0, .bool false, .slice none 0 0, .bool false, .slice none 0 0, .bool false, .slice none 0 0, .bool false, .slice none 0 0, .bool false, .slice none 0 0, .bool false, .slice none 0 0, .bool false, .slice none 0 0] 73
            have ne_g20_g22 : g20 ≠ W21.heap.size := by have := (K21.blk (g := g20) (vs := [.bool false, .slice none 0 0, .bool false, .slice none 0 0, .bool false, .slice none 0 0, .bool false, .slice none 0 0, .bool false, .slice none 0 0, .bool false, .slice none 0 0, .bool false, .slice none 0 0, .bool false, .slice none 0 0]) (List.mem_of_getElem? (i := 0) rfl)).1; omega
            have ne_g22_g20 : W21.heap.size ≠ g20 := fun h => ne_g20_g22 h.symm
            refine hK.out _ _ ⟨(HP.out.next K22.1).rngB, (HQ.out.next K22.1).rngB⟩ (fun H22 => ?_)
            clear hK Kf H21 K21
            try simp only [Act.put, List.setIfInBounds_toArray, List.set_cons_zero, List.set_cons_succ]
            generalize W21.heap.size = g22 at K22 ne_g20_g22 ne_g22_g20 ⊢
            generalize W21.alloc (.cells #[.bool false, .slice none 0 0, .bool false, .slice none 0 0, .bool false, .slice none 0 0, .bool false, .slice none 0 0, .bool false, .slice none 0 0, .bool false, .slice none 0 0, .bool false, .slice none 0 0, .bool false, .slice none 0 0] 73) = W22 at K22 H22 ⊢
            refine wpAnyH_ready (rs := [6]) (by kernel_rfl) (by simp) ?_
            refine AllReadyH.cons (o := ?o23) ?ho23 (fun Kf hK => ?st23) ?mo23
            case ho23 =>
              simp only [List.getElem?_toArray, List.getElem?_cons_succ, List.getElem?_cons_zero]
              rfl
            case st23 =>
              have Q23 : Mm w (((g22, [.bool false, .slice none 0 0, .bool false, .slice none 0 0, .bool false, .slice none 0 0, .bool false, .slice none 0 0, .bool false, .slice none 0 0, .bool false, .slice none 0 0, .bool false, .slice none 0 0, .bool false, .slice none 0 0]) : Nat × List Value) :: [(g20, [.bool false, .slice none 0 0, .bool false, .slice none 0 0, .bool false, .slice none 0 0, .bool false, .slice none 0 0, .bool false, .slice none 0 0, .bool false, .slice none 0 0, .bool false, .slice none 0 0, .bool false, .slice none 0 0])]) [] W22 := K22.pick (L' := ((g22, [.bool false, .slice none 0 0, .bool false, .slice none 0 0, .bool false, .slice none 0 0, .bool false, .slice none 0 0, .bool false, .slice none 0 0, .bool false, .slice none 0 0, .bool false, .slice none 0 0, .bool false, .slice none 0 0]) : Nat × List Value) :: [(g20, [.bool false, .slice none 0 0, .bool false, .slice none 0 0, .bool false, .slice none 0 0, .bool false, .slice none 0 0, .bool false, .slice none 0 0, .bool false, .slice none 0 0, .bool false, .slice none 0 0, .bool false, .slice none 0 0])]) (l' := []) (all_cons (List.mem_of_getElem? (i := 0) rfl) (all_cons (List.mem_of_getElem? (i := 1) rfl) all_nil)) all_nil
              have K23 : Mm w [(g22, [.bool sa, .slice Aa na ca, .bool za, .slice Ba ma da, .bool sb, .slice Ab nb cb, .bool zb, .slice Bb mb db, .bool sc, .slice Ac nc cc, .bool zc, .slice Bc mc dc, .bool sd, .slice Ad nd cd, .bool zd, .slice Bd md dd]), (g20, [.bool false, .slice none 0 0, .bool false, .slice none 0 0, .bool false, .slice none 0 0, .bool false, .slice none 0 0, .bool false, .slice none 0 0, .bool false, .slice none 0 0, .bool false, .slice none 0 0, .bool false, .slice none 0 0])] [] (W22.setCells g22 0 [.bool sa, .slice Aa na ca, .bool za, .slice Ba ma da, .bool sb, .slice Ab nb cb, .bool zb, .slice Bb mb db, .bool sc, .slice Ac nc cc, .bool zc, .slice Bc mc dc, .bool sd, .slice Ad nd cd, .bool zd, .slice Bd md dd]) := Mm.set16B Q23 (all_cons ne_g22_g20 all_nil)
              have th23 : World.there W22 g22 0 16 := (Q23.blk (g := g22) (vs := [.bool false, .slice none 0 0, .bool false, .slice none 0 0, .bool false, .slice none 0 0, .bool false, .slice none 0 0, .bool false, .slice none 0 0, .bool false, .slice none 0 0, .bool false, .slice none 0 0, .bool false, .slice none 0 0]) List.mem_cons_self).thereB
              refine step_store16 ?hw23 73 ?x23 ?y23 ?hop23 g22 ?hx23 [.bool sa, .slice Aa na ca, .bool za, .slice Ba ma da, .bool sb, .slice Ab nb cb, .bool zb, .slice Bb mb db, .bool sc, .slice Ac nc cc, .bool zc, .slice Bc mc dc, .bool sd, .slice Ad nd cd, .bool zd, .slice Bd md dd] ?hy23 th23 ?hl23 size_foB ?h123 ?hk23
              case hop23 => rfl
              case hw23 => rfl
              case hx23 => rfl
              case hy23 => rfl
              case hl23 => rfl
              case h123 => rfl
              generalize W22.setCells g22 0 [.bool sa, .slice Aa na ca, .bool za, .slice Ba ma da, .bool sb, .slice Ab nb cb, .bool zb, .slice Bb mb db, .bool sc, .slice Ac nc cc, .bool zc, .slice Bc mc dc, .bool sd, .slice Ad nd cd, .bool zd, .slice Bd md dd] = W23 at K23 ⊢
              refine hK.out _ _ ⟨(HP.out.next K23.1).rngB, (HQ.out.next K23.1).rngB⟩ (fun H23 => ?_)
              clear hK Kf H22 K22 Q23 th23
              try simp only [Act.put]
              refine wpAnyH_ready (rs := [7]) (by kernel_rfl) (by simp) ?_
              refine AllReadyH.cons (o := ?o24) ?ho24 (fun Kf hK => ?st24) ?mo24
              case ho24 =>
                simp only [List.getElem?_toArray, List.getElem?_cons_succ, List.getElem?_cons_zero]
                rfl
              case st24 =>
                have Q24 : Mm w (((g20, [.bool false, .slice none 0 0, .bool false, .slice none 0 0, .bool false, .slice none 0 0, .bool false, .slice none 0 0, .bool false, .slice none 0 0, .bool false, .slice none 0 0, .bool false, .slice none 0 0, .bool false, .slice none 0 0]) : Nat × List Value) :: [(g22, [.bool sa, .slice Aa na ca, .bool za, .slice Ba ma da, .bool sb, .slice Ab nb cb, .bool zb, .slice Bb mb db, .bool sc, .slice Ac nc cc, .bool zc, .slice Bc mc dc, .bool sd, .slice Ad nd cd, .bool zd, .slice Bd md dd])]) [] W23 := K23.pick (L' := ((g20, [.bool false, .slice none 0 0, .bool false, .slice none 0 0, .bool false, .slice none 0 0, .bool false, .slice none 0 0, .bool false, .slice none 0 0, .bool false, .slice none 0 0, .bool false, .slice none 0 0, .bool false, .slice none 0 0]) : Nat × List Value) :: [(g22, [.bool sa, .slice Aa na ca, .bool za, .slice Ba ma da, .bool sb, .slice Ab nb cb, .bool zb, .slice Bb mb db, .bool sc, .slice Ac nc cc, .bool zc, .slice Bc mc dc, .bool sd, .slice Ad nd cd, .bool zd, .slice Bd md dd])]) (l' := []) (all_cons (List.mem_of_getElem? (i := 1) rfl) (all_cons (List.mem_of_getElem? (i := 0) rfl) all_nil)) all_nil
                have K24 : Mm w [(g20, [.bool se, .slice Ae ne ce, .bool ze, .slice Be me de, .bool sf, .slice Af nf cf, .bool zf, .slice Bf mf df, .bool sg, .slice Ag ng cg, .bool zg, .slice Bg mg dg, .bool sh, .slice Ah nh ch, .bool zh, .slice Bh mh dh]), (g22, [.bool sa, .slice Aa na ca, .bool za, .slice Ba ma da, .bool sb, .slice Ab nb cb, .bool zb, .slice Bb mb db, .bool sc, .slice Ac nc cc, .bool zc, .slice Bc mc dc, .bool sd, .slice Ad nd cd, .bool zd, .slice Bd md dd])] [] (W23.setCells g20 0 [.bool se, .slice Ae ne ce, .bool ze, .slice Be me de, .bool sf, .slice Af nf cf, .bool zf, .slice Bf mf df, .bool sg, .slice Ag ng cg, .bool zg, .slice Bg mg dg, .bool sh, .slice Ah nh ch, .bool zh, .slice Bh mh dh]) := Mm.set16B Q24 (all_cons ne_g20_g22 all_nil)
                have th24 : World.there W23 g20 0 16 := (Q24.blk (g := g20) (vs := [.bool false, .slice none 0 0, .bool false, .slice none 0 0, .bool false, .slice none 0 0, .bool false, .slice none 0 0, .bool false, .slice none 0 0, .bool false, .slice none 0 0, .bool false, .slice none 0 0, .bool false, .slice none 0 0]) List.mem_cons_self).thereB
                refine step_store16 ?hw24 73 ?x24 ?y24 ?hop24 g20 ?hx24 [.bool se, .slice Ae ne ce, .bool ze, .slice Be me de, .bool sf, .slice Af nf cf, .bool zf, .slice Bf mf df, .bool sg, .slice Ag ng cg, .bool zg, .slice Bg mg dg, .bool sh, .slice Ah nh ch, .bool zh, .slice Bh mh dh] ?hy24 th24 ?hl24 size_foB ?h124 ?hk24
                case hop24 => rfl
                case hw24 => rfl
                case hx24 => rfl
                case hy24 => rfl
                case hl24 => rfl
                case h124 => rfl
                generalize W23.setCells g20 0 [.bool se, .slice Ae ne ce, .bool ze, .slice Be me de, .bool sf, .slice Af nf cf, .bool zf, .slice Bf mf df, .bool sg, .slice Ag ng cg, .bool zg, .slice Bg mg dg, .bool sh, .slice Ah nh ch, .bool zh, .slice Bh mh dh] = W24 at K24 ⊢
                refine hK.out _ _ ⟨(HP.out.next K24.1).rngB, (HQ.out.next K24.1).rngB⟩ (fun H24 => ?_)
                clear hK Kf H23 K23 Q24 th24
                try simp only [Act.put]
                refine wpAnyH_done (by kernel_rfl) ?_ _
                (try refine NoPanic.normal ?_)
                go_wp2_with fail
                go_meet
                exact ⟨g22, g20, rfl, rfl, ne_g22_g20, K24.pick (L' := [(g22, [.bool sa, .slice Aa na ca, .bool za, .slice Ba ma da, .bool sb, .slice Ab nb cb, .bool zb, .slice Bb mb db, .bool sc, .slice Ac nc cc, .bool zc, .slice Bc mc dc, .bool sd, .slice Ad nd cd, .bool zd, .slice Bd md dd]), (g20, [.bool se, .slice Ae ne ce, .bool ze, .slice Be me de, .bool sf, .slice Af nf cf, .bool zf, .slice Bf mf df, .bool sg, .slice Ag ng cg, .bool zg, .slice Bg mg dg, .bool sh, .slice Ah nh ch, .bool zh, .slice Bh mh dh])]) (l' := []) (all_cons (List.mem_of_getElem? (i := 1) rfl) (all_cons (List.mem_of_getElem? (i := 0) rfl) all_nil)) all_nil⟩
              exact AllReadyH.nil
            exact AllReadyH.nil
          exact AllReadyH.nil
        refine AllReadyH.cons (o := ?o25) ?ho25 (fun Kf hK => ?st25) ?mo25
        case ho25 =>
          simp only [List.getElem?_toArray, List.getElem?_cons_succ, List.getElem?_cons_zero]
          rfl
        case st25 =>
          go_simp
          have K25 := K20.var (g := W20.heap.size) rfl [.bool false, .slice none 0 0, .bool false, .slice none 0 0, .bool false, .slice none 0 0, .bool false, .slice none 0 0, .bool false, .slice none 0 0, .bool false, .slice none 0 0, .bool false, .slice none 0 0, .bool false, .slice none 0 0] 73
          have ne_g20_g25 : g20 ≠ W20.heap.size := by have := (K20.blk (g := g20) (vs := [.bool false, .slice none 0 0, .bool false, .slice none 0 0, .bool false, .slice none 0 0, .bool false, .slice none 0 0, .bool false, .slice none 0 0, .bool false, .slice none 0 0, .bool false, .slice none 0 0, .bool false, .slice none 0 0]) (List.mem_of_getElem? (i := 0) rfl)).1; omega
          have ne_g25_g20 : W20.heap.size ≠ g20 := fun h => ne_g20_g25 h.symm
          refine hK.out _ _ ⟨(HP.out.next K25.1).rngB, (HQ.out.next K25.1).rngB⟩ (fun H25 => ?_)
          clear hK Kf H20 K20
          try simp only [Act.put, List.setIfInBounds_toArray, List.set_cons_zero, List.set_cons_succ]
          generalize W20.heap.size = g25 at K25 ne_g20_g25 ne_g25_g20 ⊢
          generalize W20.alloc (.cells #[.bool false, .slice none 0 0, .bool false, .slice none 0 0, .bool false, .slice none 0 0, .bool false, .slice none 0 0, .bool false, .slice none 0 0, .bool false, .slice none 0 0, .bool false, .slice none 0 0, .bool false, .slice none 0 0] 73) = W25 at K25 H25 ⊢
          refine wpAnyH_ready (rs := [3]) (by kernel_rfl) (by simp) ?_
          refine AllReadyH.cons (o := ?o26) ?ho26 (fun Kf hK => ?st26) ?mo26
          case ho26 =>
            simp only [List.getElem?_toArray, List.getElem?_cons_succ, List.getElem?_cons_zero]
            rfl
          case st26 =>
            go_simp
            refine (four_of_any se Ae ne ce ze Be me de sf Af nf cf zf Bf mf df sg Ag ng cg zg Bg mg dg sh Ah nh ch zh Bh mh dh _).mono ?_
            rintro e26 W26 ⟨rfl, hb26⟩
            have K26 := K25.next hb26
            refine hK.out _ _ ⟨(HP.out.next K26.1).rngB, (HQ.out.next K26.1).rngB⟩ (fun H26 => ?_)
            clear hK Kf H25 K25 hb26
            try simp only [Act.put, List.setIfInBounds_toArray, List.set_cons_zero, List.set_cons_succ]
            refine wpAnyH_ready (rs := [6]) (by kernel_rfl) (by simp) ?_
            refine AllReadyH.cons (o := ?o27) ?ho27 (fun Kf hK => ?st27) ?mo27
            case ho27 =>
              simp only [List.getElem?_toArray, List.getElem?_cons_succ, List.getElem?_cons_zero]
              rfl
            case st27 =>
              have Q27 : Mm w (((g25, [.bool false, .slice none 0 0, .bool false, .slice none 0 0, .bool false, .slice none 0 0, .bool false, .slice none 0 0, .bool false, .slice none 0 0, .bool false, .slice none 0 0, .bool false, .slice none 0 0, .bool false, .slice none 0 0]) : Nat × List Value) :: [(g20, [.bool false, .slice none 0 0, .bool false, .slice none 0 0, .bool false, .slice none 0 0, .bool false, .slice none 0 0, .bool false, .slice none 0 0, .bool false, .slice none 0 0, .bool false, .slice none 0 0, .bool false, .slice none 0 0])]) [] W26 := K26.pick (L' := ((g25, [.bool false, .slice none 0 0, .bool false, .slice none 0 0, .bool false, .slice none 0 0, .bool false, .slice none 0 0, .bool false, .slice none 0 0, .bool false, .slice none 0 0, .bool false, .slice none 0 0, .bool false, .slice none 0 0]) : Nat × List Value) :: [(g20, [.bool false, .slice none 0 0, .bool false, .slice none 0 0, .bool false, .slice none 0 0, .bool false, .slice none 0 0, .bool false, .slice none 0 0, .bool false, .slice none 0 0, .bool false, .slice none 0 0, .bool false, .slice none 0 0])]) (l' := []) (all_cons (List.mem_of_getElem? (i := 0) rfl) (all_cons (List.mem_of_getElem? (i := 1) rfl) all_nil)) all_nil
              have K27 : Mm w [(g25, [.bool sa, .slice Aa na ca, .bool za, .slice Ba ma da, .bool sb, .slice Ab nb cb, .bool zb, .slice Bb mb db, .bool sc, .slice Ac nc cc, .bool zc, .slice Bc mc dc, .bool sd, .slice Ad nd cd, .bool zd, .slice Bd md dd]), (g20, [.bool false, .slice none 0 0, .bool false, .slice none 0 0, .bool false, .slice none 0 0, .bool false, .slice none 0 0, .bool false, .slice none 0 0, .bool false, .slice none 0 0, .bool false, .slice none 0 0, .bool false, .slice none 0 0])] [] (W26.setCells g25 0 [.bool sa, .slice Aa na ca, .bool za, .slice Ba ma da, .bool sb, .slice Ab nb cb, .bool zb, .slice Bb mb db, .bool sc, .slice Ac nc cc, .bool zc, .slice Bc mc dc, .bool sd, .slice Ad nd cd, .bool zd, .slice Bd md dd]) := Mm.set16B Q27 (all_cons ne_g25_g20 all_nil)
              have th27 : World.there W26 g25 0 16 := (Q27.blk (g := g25) (vs := [.bool false, .slice none 0 0, .bool false, .slice none 0 0, .bool false, .slice none 0 0, .bool false, .slice none 0 0, .bool false, .slice none 0 0, .bool false, .slice none 0 0, .bool false, .slice none 0 0, .bool false, .slice none 0 0]) List.mem_cons_self).thereB
              refine step_store16 ?hw27 73 ?x27 ?y27 ?hop27 g25 ?hx27 [.bool sa, .slice Aa na ca, .bool za, .slice Ba ma da, .bool sb, .slice Ab nb cb, .bool zb, .slice Bb mb db, .bool sc, .slice Ac nc cc, .bool zc, .slice Bc mc dc, .bool sd, .slice Ad nd cd, .bool zd, .slice Bd md dd] ?hy27 th27 ?hl27 size_foB ?h127 ?hk27
              case hop27 => rfl
              case hw27 => rfl
              case hx27 => rfl
              case hy27 => rfl
              case hl27 => rfl
              case h127 => rfl
              generalize W26.setCells g25 0 [.bool sa, .slice Aa na ca, .bool za, .slice Ba ma da, .bool sb, .slice Ab nb cb, .bool zb, .slice Bb mb db, .bool sc, .slice Ac nc cc, .bool zc, .slice Bc mc dc, .bool sd, .slice Ad nd cd, .bool zd, .slice Bd md dd] = W27 at K27 ⊢
              refine hK.out _ _ ⟨(HP.out.next K27.1).rngB, (HQ.out.next K27.1).rngB⟩ (fun H27 => ?_)
              clear hK Kf H26 K26 Q27 th27
              try simp only [Act.put]
              refine wpAnyH_ready (rs := [7]) (by kernel_rfl) (by simp) ?_
              refine AllReadyH.cons (o := ?o28) ?ho28 (fun Kf hK => ?st28) ?mo28
              case ho28 =>
                simp only [List.getElem?_toArray, List.getElem?_cons_succ, List.getElem?_cons_zero]
                rfl
              case st28 =>
                have Q28 : Mm w (((g20, [.bool false, .slice none 0 0, .bool false, .slice none 0 0, .bool false, .slice none 0 0, .bool false, .slice none 0 0, .bool false, .slice none 0 0, .bool false, .slice none 0 0, .bool false, .slice none 0 0, .bool false, .slice none 0 0]) : Nat × List Value) :: [(g25, [.bool sa, .slice Aa na ca, .bool za, .slice Ba ma da, .bool sb, .slice Ab nb cb, .bool zb, .slice Bb mb db, .bool sc, .slice Ac nc cc, .bool zc, .slice Bc mc dc, .bool sd, .slice Ad nd cd, .bool zd, .slice Bd md dd])]) [] W27 := K27.pick (L' := ((g20, [.bool false, .slice none 0 0, .bool false, .slice none 0 0, .bool false, .slice none 0 0, .bool false, .slice none 0 0, .bool false, .slice none 0 0, .bool false, .slice none 0 0, .bool false, .slice none 0 0, .bool false, .slice none 0 0]) : Nat × List Value) :: [(g25, [.bool sa, .slice Aa na ca, .bool za, .slice Ba ma da, .bool sb, .slice Ab nb cb, .bool zb, .slice Bb mb db, .bool sc, .slice Ac nc cc, .bool zc, .slice Bc mc dc, .bool sd, .slice Ad nd cd, .bool zd, .slice Bd md dd])]) (l' := []) (all_cons (List.mem_of_getElem? (i := 1) rfl) (all_cons (List.mem_of_getElem? (i := 0) rfl) all_nil)) all_nil
                have K28 : Mm w [(g20, [.bool se, .slice Ae ne ce, .bool ze, .slice Be me de, .bool sf, .slice Af nf cf, .bool zf, .slice Bf mf df, .bool sg, .slice Ag ng cg, .bool zg, .slice Bg mg dg, .bool sh, .slice Ah nh ch, .bool zh, .slice Bh mh dh]), (g25, [.bool sa, .slice Aa na ca, .bool za, .slice Ba ma da, .bool sb, .slice Ab nb cb, .bool zb, .slice Bb mb db, .bool sc, .slice Ac nc cc, .bool zc, .slice Bc mc dc, .bool sd, .slice Ad nd cd, .bool zd, .slice Bd md dd])] [] (W27.setCells g20 0 [.bool se, .slice Ae ne ce, .bool ze, .slice Be me de, .bool sf, .slice Af nf cf, .bool zf, .slice Bf mf df, .bool sg, .slice Ag ng cg, .bool zg, .slice Bg mg dg, .bool sh, .slice Ah nh ch, .bool zh, .slice Bh mh dh]) := Mm.set16B Q28 (all_cons ne_g20_g25 all_nil)
                have th28 : World.there W27 g20 0 16 := (Q28.blk (g := g20) (vs := [.bool false, .slice none 0 0, .bool false, .slice none 0 0, .bool false, .slice none 0 0, .bool false, .slice none 0 0, .bool false, .slice none 0 0, .bool false, .slice none 0 0, .bool false, .slice none 0 0, .bool false, .slice none 0 0]) List.mem_cons_self).thereB
                refine step_store16 ?hw28 73 ?x28 ?y28 ?hop28 g20 ?hx28 [.bool se, .slice Ae ne ce, .bool ze, .slice Be me de, .bool sf, .slice Af nf cf, .bool zf, .slice Bf mf df, .bool sg, .slice Ag ng cg, .bool zg, .slice Bg mg dg, .bool sh, .slice Ah nh ch, .bool zh, .slice Bh mh dh] ?hy28 th28 ?hl28 size_foB ?h128 ?hk28
                case hop28 => rfl
                case hw28 => rfl
                case hx28 => rfl
                case hy28 => rfl
                case hl28 => rfl
                case h128 => rfl
                generalize W27.setCells g20 0 [.bool se, .slice Ae ne ce, .bool ze, .slice Be me de, .bool sf, .slice Af nf cf, .bool zf, .slice Bf mf df, .bool sg, .slice Ag ng cg, .bool zg, .slice Bg mg dg, .bool sh, .slice Ah nh ch, .bool zh, .slice Bh mh dh] = W28 at K28 ⊢
                refine hK.out _ _ ⟨(HP.out.next K28.1).rngB, (HQ.out.next K28.1).rngB⟩ (fun H28 => ?_)
                clear hK Kf H27 K27 Q28 th28
                try simp only [Act.put]
                refine wpAnyH_done (by kernel_rfl) ?_ _
                (try refine NoPanic.normal ?_)
                go_wp2_with fail
                go_meet
                exact ⟨g25, g20, rfl, rfl, ne_g25_g20, K28.pick (L' := [(g25, [.bool sa, .slice Aa na ca, .bool za, .slice Ba ma da, .bool sb, .slice Ab nb cb, .bool zb, .slice Bb mb db, .bool sc, .slice Ac nc cc, .bool zc, .slice Bc mc dc, .bool sd, .slice Ad nd cd, .bool zd, .slice Bd md dd]), (g20, [.bool se, .slice Ae ne ce, .bool ze, .slice Be me de, .bool sf, .slice Af nf cf, .bool zf, .slice Bf mf df, .bool sg, .slice Ag ng cg, .bool zg, .slice Bg mg dg, .bool sh, .slice Ah nh ch, .bool zh, .slice Bh mh dh])]) (l' := []) (all_cons (List.mem_of_getElem? (i := 1) rfl) (all_cons (List.mem_of_getElem? (i := 0) rfl) all_nil)) all_nil⟩
              exact AllReadyH.nil
            exact AllReadyH.nil
          exact AllReadyH.nil
        exact AllReadyH.nil
      exact AllReadyH.nil
    refine AllReadyH.cons (o := ?o29) ?ho29 (fun Kf hK => ?st29) ?mo29
    case ho29 =>
      simp only [List.getElem?_toArray, List.getElem?_cons_succ, List.getElem?_cons_zero]
      rfl
    case st29 =>
      go_simp
      have K29 := K00.var (g := W0.heap.size) rfl [.bool false, .slice none 0 0, .bool false, .slice none 0 0, .bool false, .slice none 0 0, .bool false, .slice none 0 0, .bool false, .slice none 0 0, .bool false, .slice none 0 0, .bool false, .slice none 0 0, .bool false, .slice none 0 0] 73
      refine hK.out _ _ ⟨(HP.out.next K29.1).rngB, (HQ.out.next K29.1).rngB⟩ (fun H29 => ?_)
      clear hK Kf H0 K00
      try simp only [Act.put, List.setIfInBounds_toArray, List.set_cons_zero, List.set_cons_succ]
      generalize W0.heap.size = g29 at K29  ⊢
      generalize W0.alloc (.cells #[.bool false, .slice none 0 0, .bool false, .slice none 0 0, .bool false, .slice none 0 0, .bool false, .slice none 0 0, .bool false, .slice none 0 0, .bool false, .slice none 0 0, .bool false, .slice none 0 0, .bool false, .slice none 0 0] 73) = W29 at K29 H29 ⊢
      refine wpAnyH_ready (rs := [1, 5]) (by kernel_rfl) (by simp) ?_
      refine AllReadyH.cons (o := ?o30) ?ho30 (fun Kf hK => ?st30) ?mo30
      case ho30 =>
        simp only [List.getElem?_toArray, List.getElem?_cons_succ, List.getElem?_cons_zero]
        rfl
      case st30 =>
        go_simp
        refine (four_of_any sa Aa na ca za Ba ma da sb Ab nb cb zb Bb mb db sc Ac nc cc zc Bc mc dc sd Ad nd cd zd Bd md dd _).mono ?_
        rintro e30 W30 ⟨rfl, hb30⟩
        have K30 := K29.next hb30
        refine hK.out _ _ ⟨(HP.out.next K30.1).rngB, (HQ.out.next K30.1).rngB⟩ (fun H30 => ?_)
        clear hK Kf H29 K29 hb30
        try simp only [Act.put, List.setIfInBounds_toArray, List.set_cons_zero, List.set_cons_succ]
        refine wpAnyH_ready (rs := [3, 5]) (by kernel_rfl) (by simp) ?_
        refine AllReadyH.cons (o := ?o31) ?ho31 (fun Kf hK => ?st31) ?mo31
        case ho31 =>
          simp only [List.getElem?_toArray, List.getElem?_cons_succ, List.getElem?_cons_zero]
          rfl
        case st31 =>
          go_simp
          refine (four_of_any se Ae ne ce ze Be me de sf Af nf cf zf Bf mf df sg Ag ng cg zg Bg mg dg sh Ah nh ch zh Bh mh dh _).mono ?_
          rintro e31 W31 ⟨rfl, hb31⟩
          have K31 := K30.next hb31
          refine hK.out _ _ ⟨(HP.out.next K31.1).rngB, (HQ.out.next K31.1).rngB⟩ (fun H31 => ?_)
          clear hK Kf H30 K30 hb31
          try simp only [Act.put, List.setIfInBounds_toArray, List.set_cons_zero, List.set_cons_succ]
          refine wpAnyH_ready (rs := [5]) (by kernel_rfl) (by simp) ?_
          refine AllReadyH.cons (o := ?o32) ?ho32 (fun Kf hK => ?st32) ?mo32
          case ho32 =>
            simp only [List.getElem?_toArray, List.getElem?_cons_succ, List.getElem?_cons_zero]
            rfl
          case st32 =>
            go_simp
            have K32 := K31.var (g := W31.heap.size) rfl [.bool false, .slice none 0 0, .bool false, .slice none 0 0, .bool false, .slice none 0 0, .bool false, .slice none 0 0, .bool false, .slice none 0 0, .bool false, .slice none 0 0, .bool false, .slice none 0 0, .bool false, .slice none 0 0] 73
            have ne_g29_g32 : g29 ≠ W31.heap.size := by have := (K31.blk (g := g29) (vs := [.bool false, .slice none 0 0, .bool false, .slice none 0 0, .bool false, .slice none 0 0, .bool false, .slice none 0 0, .bool false, .slice none 0 0, .bool false, .slice none 0 0, .bool false, .slice none 0 0, .bool false, .slice none 0 0]) (List.mem_of_getElem? (i := 0) rfl)).1; omega
            have ne_g32_g29 : W31.heap.size ≠ g29 := fun h => ne_g29_g32 h.symm
            refine hK.out _ _ ⟨(HP.out.next K32.1).rngB, (HQ.out.next K32.1).rngB⟩ (fun H32 => ?_)
            clear hK Kf H31 K31
            try simp only [Act.put, List.setIfInBounds_toArray, List.set_cons_zero, List.set_cons_succ]
            generalize W31.heap.size = g32 at K32 ne_g29_g32 ne_g32_g29 ⊢
            generalize W31.alloc (.cells #[.bool false, .slice none 0 0, .bool false, .slice none 0 0, .bool false, .slice none 0 0, .bool false, .slice none 0 0, .bool false, .slice none 0 0, .bool false, .slice none 0 0, .bool false, .slice none 0 0, .bool false, .slice none 0 0] 73) = W32 at K32 H32 ⊢
            refine wpAnyH_ready (rs := [6]) (by kernel_rfl) (by simp) ?_
            refine AllReadyH.cons (o := ?o33) ?ho33 (fun Kf hK => ?st33) ?mo33
            case ho33 =>
              simp only [List.getElem?_toArray, List.getElem?_cons_succ, List.getElem?_cons_zero]
              rfl
            case st33 =>
              have Q33 : Mm w (((g29, [.bool false, .slice none 0 0, .bool false, .slice none 0 0, .bool false, .slice none 0 0, .bool false, .slice none 0 0, .bool false, .slice none 0 0, .bool false, .slice none 0 0, .bool false, .slice none 0 0, .bool false, .slice none 0 0]) : Nat × List Value) :: [(g32, [.bool false, .slice none 0 0, .bool false, .slice none 0 0, .bool false, .slice none 0 0, .bool false, .slice none 0 0, .bool false, .slice none 0 0, .bool false, .slice none 0 0, .bool false, .slice none 0 0, .bool false, .slice none 0 0])]) [] W32 := K32.pick (L' := ((g29, [.bool false, .slice none 0 0, .bool false, .slice none 0 0, .bool false, .slice none 0 0, .bool false, .slice none 0 0, .bool false, .slice none 0 0, .bool false, .slice none 0 0, .bool false, .slice none 0 0, .bool false, .slice none 0 0]) : Nat × List Value) :: [(g32, [.bool false, .slice none 0 0, .bool false, .slice none 0 0, .bool false, .slice none 0 0, .bool false, .slice none 0 0, .bool false, .slice none 0 0, .bool false, .slice none 0 0, .bool false, .slice none 0 0, .bool false, .slice none 0 0])]) (l' := []) (all_cons (List.mem_of_getElem? (i := 1) rfl) (all_cons (List.mem_of_getElem? (i := 0) rfl) all_nil)) all_nil
              have K33 : Mm w [(g29, [.bool sa, .slice Aa na ca, .bool za, .slice Ba ma da, .bool sb, .slice Ab nb cb, .bool zb, .slice Bb mb db, .bool sc, .slice Ac nc cc, .bool zc, .slice Bc mc dc, .bool sd, .slice Ad nd cd, .bool zd, .slice Bd md dd]), (g32, [.bool false, .slice none 0 0, .bool false, .slice none 0 0, .bool false, .slice none 0 0, .bool false, .slice none 0 0, .bool false, .slice none 0 0, .bool false, .slice none 0 0, .bool false, .slice none 0 0, .bool false, .slice none 0 0])] [] (W32.setCells g29 0 [.bool sa, .slice Aa na ca, .bool za, .slice Ba ma da, .bool sb, .slice Ab nb cb, .bool zb, .slice Bb mb db, .bool sc, .slice Ac nc cc, .bool zc, .slice Bc mc dc, .bool sd, .slice Ad nd cd, .bool zd, .slice Bd md dd]) := Mm.set16B Q33 (all_cons ne_g29_g32 all_nil)
              have th33 : World.there W32 g29 0 16 := (Q33.blk (g := g29) (vs := [.bool false, .slice none 0 0, .bool false, .slice none 0 0, .bool false, .slice none 0 0, .bool false, .slice none 0 0, .bool false, .slice none 0 0, .bool false, .slice none 0 0, .bool false, .slice none 0 0, .bool false, .slice none 0 0]) List.mem_cons_self).thereB
              refine step_store16 ?hw33 73 ?x33 ?y33 ?hop33 g29 ?hx33 [.bool sa, .slice Aa na ca, .bool za, .slice Ba ma da, .bool sb, .slice Ab nb cb, .bool zb, .slice Bb mb db, .bool sc, .slice Ac nc cc, .bool zc, .slice Bc mc dc, .bool sd, .slice Ad nd cd, .bool zd, .slice Bd md dd] ?hy33 th33 ?hl33 size_foB ?h133 ?hk33
              case hop33 => rfl
              case hw33 => rfl
              case hx33 => rfl
              case hy33 => rfl
              case hl33 => rfl
              case h133 => rfl
              generalize W32.setCells g29 0 [.bool sa, .slice Aa na ca, .bool za, .slice Ba ma da, .bool sb, .slice Ab nb cb, .bool zb, .slice Bb mb db, .bool sc, .slice Ac nc cc, .bool zc, .slice Bc mc dc, .bool sd, .slice Ad nd cd, .bool zd, .slice Bd md dd] = W33 at K33 ⊢
              refine hK.out _ _ ⟨(HP.out.next K33.1).rngB, (HQ.out.next K33.1).rngB⟩ (fun H33 => ?_)
              clear hK Kf H32 K32 Q33 th33
              try simp only [Act.put]
              refine wpAnyH_ready (rs := [7]) (by kernel_rfl) (by simp) ?_
              refine AllReadyH.cons (o := ?o34) ?ho34 (fun Kf hK => ?st34) ?mo34
              case ho34 =>
                simp only [List.getElem?_toArray, List.getElem?_cons_succ, List.getElem?_cons_zero]
                rfl
              case st34 =>
                have Q34 : Mm w (((g32, [.bool false, .slice none 0 0, .bool false, .slice none 0 0, .bool false, .slice none 0 0, .bool false, .slice none 0 0, .bool false, .slice none 0 0, .bool false, .slice none 0 0, .bool false, .slice none 0 0, .bool false, .slice none 0 0]) : Nat × List Value) :: [(g29, [.bool sa, .slice Aa na ca, .bool za, .slice Ba ma da, .bool sb, .slice Ab nb cb, .bool zb, .slice Bb mb db, .bool sc, .slice Ac nc cc, .bool zc, .slice Bc mc dc, .bool sd, .slice Ad nd cd, .bool zd, .slice Bd md dd])]) [] W33 := K33.pick (L' := ((g32, [.bool false, .slice none 0 0, .bool false, .slice none 0 0, .bool false, .slice none 0 0, .bool false, .slice none 0 0, .bool false, .slice none 0 0, .bool false, .slice none 0 0, .bool false, .slice none 0 0, .bool false, .slice none 0 0]) : Nat × List Value) :: [(g29, [.bool sa, .slice Aa na ca, .bool za, .slice Ba ma da, .bool sb, .slice Ab nb cb, .bool zb, .slice Bb mb db, .bool sc, .slice Ac nc cc, .bool zc, .slice Bc mc dc, .bool sd, .slice Ad nd cd, .bool zd, .slice Bd md dd])]) (l' := []) (all_cons (List.mem_of_getElem? (i := 1) rfl) (all_cons (List.mem_of_getElem? (i := 0) rfl) all_nil)) all_nil
                have K34 : Mm w [(g32, [.bool se, .slice Ae ne ce, .bool ze, .slice Be me de, .bool sf, .slice Af nf cf, .bool zf, .slice Bf mf df, .bool sg, .slice Ag ng cg, .bool zg, .slice Bg mg dg, .bool sh, .slice Ah nh ch, .bool zh, .slice Bh mh dh]), (g29, [.bool sa, .slice Aa na ca, .bool za, .slice Ba ma da, .bool sb, .slice Ab nb cb, .bool zb, .slice Bb mb db, .bool sc, .slice Ac nc cc, .bool zc, .slice Bc mc dc, .bool sd, .slice Ad nd cd, .bool zd, .slice Bd md dd])] [] (W33.setCells g32 0 [.bool se, .slice Ae ne ce, .bool ze, .slice Be me de, .bool sf, .slice Af nf cf, .bool zf, .slice Bf mf df, .bool sg, .slice Ag ng cg, .bool zg, .slice Bg mg dg, .bool sh, .slice Ah nh ch, .bool zh, .slice Bh mh dh]) := Mm.set16B Q34 (all_cons ne_g32_g29 all_nil)
                have th34 : World.there W33 g32 0 16 := (Q34.blk (g := g32) (vs := [.bool false, .slice none 0 0, .bool false, .slice none 0 0, .bool false, .slice none 0 0, .bool false, .slice none 0 0, .bool false, .slice none 0 0, .bool false, .slice none 0 0, .bool false, .slice none 0 0, .bool false, .slice none 0 0]) List.mem_cons_self).thereB
                refine step_store16 ?hw34 73 ?x34 ?y34 ?hop34 g32 ?hx34 [.bool se, .slice Ae ne ce, .bool ze, .slice Be me de, .bool sf, .slice Af nf cf, .bool zf, .slice Bf mf df, .bool sg, .slice Ag ng cg, .bool zg, .slice Bg mg dg, .bool sh, .slice Ah nh ch, .bool zh, .slice Bh mh dh] ?hy34 th34 ?hl34 size_foB ?h134 ?hk34
                case hop34 => rfl
                case hw34 => rfl
                case hx34 => rfl
                case hy34 => rfl
                case hl34 => rfl
                case h134 => rfl
                generalize W33.setCells g32 0 [.bool se, .slice Ae ne ce, .bool ze, .slice Be me de, .bool sf, .slice Af nf cf, .bool zf, .slice Bf mf df, .bool sg, .slice Ag ng cg, .bool zg, .slice Bg mg dg, .bool sh, .slice Ah nh ch, .bool zh, .slice Bh mh dh] = W34 at K34 ⊢
                refine hK.out _ _ ⟨(HP.out.next K34.1).rngB, (HQ.out.next K34.1).rngB⟩ (fun H34 => ?_)
                clear hK Kf H33 K33 Q34 th34
                try simp only [Act.put]
                refine wpAnyH_done (by kernel_rfl) ?_ _
                (try refine NoPanic.normal ?_)
                go_wp2_with fail
                go_meet
                exact ⟨g29, g32, rfl, rfl, ne_g29_g32, K34.pick (L' := [(g29, [.bool sa, .slice Aa na ca, .bool za, .slice Ba ma da, .bool sb, .slice Ab nb cb, .bool zb, .slice Bb mb db, .bool sc, .slice Ac nc cc, .bool zc, .slice Bc mc dc, .bool sd, .slice Ad nd cd, .bool zd, .slice Bd md dd]), (g32, [.bool se, .slice Ae ne ce, .bool ze, .slice Be me de, .bool sf, .slice Af nf cf, .bool zf, .slice Bf mf df, .bool sg, .slice Ag ng cg, .bool zg, .slice Bg mg dg, .bool sh, .slice Ah nh ch, .bool zh, .slice Bh mh dh])]) (l' := []) (all_cons (List.mem_of_getElem? (i := 1) rfl) (all_cons (List.mem_of_getElem? (i := 0) rfl) all_nil)) all_nil⟩
              exact AllReadyH.nil
            exact AllReadyH.nil
          exact AllReadyH.nil
        refine AllReadyH.cons (o := ?o35) ?ho35 (fun Kf hK => ?st35) ?mo35
        case ho35 =>
          simp only [List.getElem?_toArray, List.getElem?_cons_succ, List.getElem?_cons_zero]
          rfl
        case st35 =>
          go_simp
          have K35 := K30.var (g := W30.heap.size) rfl [.bool false, .slice none 0 0, .bool false, .slice none 0 0, .bool false, .slice none 0 0, .bool false, .slice none 0 0, .bool false, .slice none 0 0, .bool false, .slice none 0 0, .bool false, .slice none 0 0, .bool false, .slice none 0 0] 73
          have ne_g29_g35 : g29 ≠ W30.heap.size := by have := (K30.blk (g := g29) (vs := [.bool false, .slice none 0 0, .bool false, .slice none 0 0, .bool false, .slice none 0 0, .bool false, .slice none 0 0, .bool false, .slice none 0 0, .bool false, .slice none 0 0, .bool false, .slice none 0 0, .bool false, .slice none 0 0]) (List.mem_of_getElem? (i := 0) rfl)).1; omega
          have ne_g35_g29 : W30.heap.size ≠ g29 := fun h => ne_g29_g35 h.symm
          refine hK.out _ _ ⟨(HP.out.next K35.1).rngB, (HQ.out.next K35.1).rngB⟩ (fun H35 => ?_)
          clear hK Kf H30 K30
          try simp only [Act.put, List.setIfInBounds_toArray, List.set_cons_zero, List.set_cons_succ]
          generalize W30.heap.size = g35 at K35 ne_g29_g35 ne_g35_g29 ⊢
          generalize W30.alloc (.cells #[.bool false, .slice none 0 0, .bool false, .slice none 0 0, .bool false, .slice none 0 0, .bool false, .slice none 0 0, .bool false, .slice none 0 0, .bool false, .slice none 0 0, .bool false, .slice none 0 0, .bool false, .slice none 0 0] 73) = W35 at K35 H35 ⊢
          refine wpAnyH_ready (rs := [3]) (by kernel_rfl) (by simp) ?_
          refine AllReadyH.cons (o := ?o36) ?ho36 (fun Kf hK => ?st36) ?mo36
          case ho36 =>
            simp only [List.getElem?_toArray, List.getElem?_cons_succ, List.getElem?_cons_zero]
            rfl
          case st36 =>
            go_simp
            refine (four_of_any se Ae ne ce ze Be me de sf Af nf cf zf Bf mf df sg Ag ng cg zg Bg mg dg sh Ah nh ch zh Bh mh dh _).mono ?_
            rintro e36 W36 ⟨rfl, hb36⟩
            have K36 := K35.next hb36
            refine hK.out _ _ ⟨(HP.out.next K36.1).rngB, (HQ.out.next K36.1).rngB⟩ (fun H36 => ?_)
            clear hK Kf H35 K35 hb36
            try simp only [Act.put, List.setIfInBounds_toArray, List.set_cons_zero, List.set_cons_succ]
            refine wpAnyH_ready (rs := [6]) (by kernel_rfl) (by simp) ?_
            refine AllReadyH.cons (o := ?o37) ?ho37 (fun Kf hK => ?st37) ?mo37
            case ho37 =>
              simp only [List.getElem?_toArray, List.getElem?_cons_succ, List.getElem?_cons_zero]
              rfl
            case st37 =>
              have Q37 : Mm w (((g29, [.bool false, .slice none 0 0, .bool false, .slice none 0 0, .bool false, .slice none 0 0, .bool false, .slice none 0 0, .bool false, .slice none 0 0, .bool false, .slice none 0 0, .bool false, .slice none 0 0, .bool false, .slice none 0 0]) : Nat × List Value) :: [(g35, [.bool false, .slice none 0 0, .bool false, .slice none 0 0, .bool false, .slice none 0 0, .bool false, .slice none 0 0, .bool false, .slice none 0 0, .bool false, .slice none 0 0, .bool false, .slice none 0 0, .bool false, .slice none 0 0])]) [] W36 := K36.pick (L' := ((g29, [.bool false, .slice none 0 0, .bool false, .slice none 0 0, .bool false, .slice none 0 0, .bool false, .slice none 0 0, .bool false, .slice none 0 0, .bool false, .slice none 0 0, .bool false, .slice none 0 0, .bool false, .slice none 0 0]) : Nat × List Value) :: [(g35, [.bool false, .slice none 0 0, .bool false, .slice none 0 0, .bool false, .slice none 0 0, .bool false, .slice none 0 0, .bool false, .slice none 0 0, .bool false, .slice none 0 0, .bool false, .slice none 0 0, .bool false, .slice none 0 0])]) (l' := []) (all_cons (List.mem_of_getElem? (i := 1) rfl) (all_cons (List.mem_of_getElem? (i := 0) rfl) all_nil)) all_nil
              have K37 : Mm w [(g29, [.bool sa, .slice Aa na ca, .bool za, .slice Ba ma da, .bool sb, .slice Ab nb cb, .bool zb, .slice Bb mb db, .bool sc, .slice Ac nc cc, .bool zc, .slice Bc mc dc, .bool sd, .slice Ad nd cd, .bool zd, .slice Bd md dd]), (g35, [.bool false, .slice none 0 0, .bool false, .slice none 0 0, .bool false, .slice none 0 0, .bool false, .slice none 0 0, .bool false, .slice none 0 0, .bool false, .slice none 0 0, .bool false, .slice none 0 0, .bool false, .slice none 0 0])] [] (W36.setCells g29 0 [.bool sa, .slice Aa na ca, .bool za, .slice Ba ma da, .bool sb, .slice Ab nb cb, .bool zb, .slice Bb mb db, .bool sc, .slice Ac nc cc, .bool zc, .slice Bc mc dc, .bool sd, .slice Ad nd cd, .bool zd, .slice Bd md dd]) := Mm.set16B Q37 (all_cons ne_g29_g35 all_nil)
              have th37 : World.there W36 g29 0 16 := (Q37.blk (g := g29) (vs := [.bool false, .slice none 0 0, .bool false, .slice none 0 0, .bool false, .slice none 0 0, .bool false, .slice none 0 0, .bool false, .slice none 0 0, .bool false, .slice none 0 0, .bool false, .slice none 0 0, .bool false, .slice none 0 0]) List.mem_cons_self).thereB
              refine step_store16 ?hw37 73 ?x37 ?y37 ?hop37 g29 ?hx37 [.bool sa, .slice Aa na ca, .bool za, .slice Ba ma da, .bool sb, .slice Ab nb cb, .bool zb, .slice Bb mb db, .bool sc, .slice Ac nc cc, .bool zc, .slice Bc mc dc, .bool sd, .slice Ad nd cd, .bool zd, .slice Bd md dd] ?hy37 th37 ?hl37 size_foB ?h137 ?hk37
              case hop37 => rfl
              case hw37 => rfl
              case hx37 => rfl
              case hy37 => rfl
              case hl37 => rfl
              case h137 => rfl
              generalize W36.setCells g29 0 [.bool sa, .slice Aa na ca, .bool za, .slice Ba ma da, .bool sb, .slice Ab nb cb, .bool zb, .slice Bb mb db, .bool sc, .slice Ac nc cc, .bool zc, .slice Bc mc dc, .bool sd, .slice Ad nd cd, .bool zd, .slice Bd md dd] = W37 at K37 ⊢
              refine hK.out _ _ ⟨(HP.out.next K37.1).rngB, (HQ.out.next K37.1).rngB⟩ (fun H37 => ?_)
              clear hK Kf H36 K36 Q37 th37
              try simp only [Act.put]
              refine wpAnyH_ready (rs := [7]) (by kernel_rfl) (by simp) ?_
              refine AllReadyH.cons (o := ?o38) ?ho38 (fun Kf hK => ?st38) ?mo38
              case ho38 =>
                simp only [List.getElem?_toArray, List.getElem?_cons_succ, List.getElem?_cons_zero]
                rfl
              case st38 =>
                have Q38 : Mm w (((g35, [.bool false, .slice none 0 0, .bool false, .slice none 0 0, .bool false, .slice none 0 0, .bool false, .slice none 0 0, .bool false, .slice none 0 0, .bool false, .slice none 0 0, .bool false, .slice none 0 0, .bool false, .slice none 0 0]) : Nat × List Value) :: [(g29, [.bool sa, .slice Aa na ca, .bool za, .slice Ba ma da, .bool sb, .slice Ab nb cb, .bool zb, .slice Bb mb db, .bool sc, .slice Ac nc cc, .bool zc, .slice Bc mc dc, .bool sd, .slice Ad nd cd, .bool zd, .slice Bd md dd])]) [] W37 := K37.pick (L' := ((g35, [.bool false, .slice none 0 0, .bool false, .slice none 0 0, .bool false, .slice none 0 0, .bool false, .slice none 0 0, .bool false, .slice none 0 0, .bool false, .slice none 0 0, .bool false, .slice none 0 0, .bool false, .slice none 0 0]) : Nat × List Value) :: [(g29, [.bool sa, .slice Aa na ca, .bool za, .slice Ba ma da, .bool sb, .slice Ab nb cb, .bool zb, .slice Bb mb db, .bool sc, .slice Ac nc cc, .bool zc, .slice Bc mc dc, .bool sd, .slice Ad nd cd, .bool zd, .slice Bd md dd])]) (l' := []) (all_cons (List.mem_of_getElem? (i := 1) rfl) (all_cons (List.mem_of_getElem? (i := 0) rfl) all_nil)) all_nil
                have K38 : Mm w [(g35, [.bool se, .slice Ae ne ce, .bool ze, .slice Be me de, .bool sf, .slice Af nf cf, .bool zf, .slice Bf mf df, .bool sg, .slice Ag ng cg, .bool zg, .slice Bg mg dg, .bool sh, .slice Ah nh ch, .bool zh, .slice Bh mh dh]), (g29, [.bool sa, .slice Aa na ca, .bool za, .slice Ba ma da, .bool sb, .slice Ab nb cb, .bool zb, .slice Bb mb db, .bool sc, .slice Ac nc cc, .bool zc, .slice Bc mc dc, .bool sd, .slice Ad nd cd, .bool zd, .slice Bd md dd])] [] (W37.setCells g35 0 [.bool se, .slice Ae ne ce, .bool ze, .slice Be me de, .bool sf, .slice Af nf cf, .bool zf, .slice Bf mf df, .bool sg, .slice Ag ng cg, .bool zg, .slice Bg mg dg, .bool sh, .slice Ah nh ch, .bool zh, .slice Bh mh dh]) := Mm.set16B Q38 (all_cons ne_g35_g29 all_nil)
                have th38 : World.there W37 g35 0 16 := (Q38.blk (g := g35) (vs := [.bool false, .slice none 0 0, .bool false, .slice none 0 0, .bool false, .slice none 0 0, .bool false, .slice none 0 0, .bool false, .slice none 0 0, .bool false, .slice none 0 0, .bool false, .slice none 0 0, .bool false, .slice none 0 0]) List.mem_cons_self).thereB
                refine step_store16 ?hw38 73 ?x38 ?y38 ?hop38 g35 ?hx38 [.bool se, .slice Ae ne ce, .bool ze, .slice Be me de, .bool sf, .slice Af nf cf, .bool zf, .slice Bf mf df, .bool sg, .slice Ag ng cg, .bool zg, .slice Bg mg dg, .bool sh, .slice Ah nh ch, .bool zh, .slice Bh mh dh] ?hy38 th38 ?hl38 size_foB ?h138 ?hk38
                case hop38 => rfl
                case hw38 => rfl
                case hx38 => rfl
                case hy38 => rfl
                case hl38 => rfl
                case h138 => rfl
                generalize W37.setCells g35 0 [.bool se, .slice Ae ne ce, .bool ze, .slice Be me de, .bool sf, .slice Af nf cf, .bool zf, .slice Bf mf df, .bool sg, .slice Ag ng cg, .bool zg, .slice Bg mg dg, .bool sh, .slice Ah nh ch, .bool zh, .slice Bh mh dh] = W38 at K38 ⊢
                refine hK.out _ _ ⟨(HP.out.next K38.1).rngB, (HQ.out.next K38.1).rngB⟩ (fun H38 => ?_)
                clear hK Kf H37 K37 Q38 th38
                try simp only [Act.put]
                refine wpAnyH_done (by kernel_rfl) ?_ _
                (try refine NoPanic.normal ?_)
                go_wp2_with fail
                go_meet
                exact ⟨g29, g35, rfl, rfl, ne_g29_g35, K38.pick (L' := [(g29, [.bool sa, .slice Aa na ca, .bool za, .slice Ba ma da, .bool sb, .slice Ab nb cb, .bool zb, .slice Bb mb db, .bool sc, .slice Ac nc cc, .bool zc, .slice Bc mc dc, .bool sd, .slice Ad nd cd, .bool zd, .slice Bd md dd]), (g35, [.bool se, .slice Ae ne ce, .bool ze, .slice Be me de, .bool sf, .slice Af nf cf, .bool zf, .slice Bf mf df, .bool sg, .slice Ag ng cg, .bool zg, .slice Bg mg dg, .bool sh, .slice Ah nh ch, .bool zh, .slice Bh mh dh])]) (l' := []) (all_cons (List.mem_of_getElem? (i := 1) rfl) (all_cons (List.mem_of_getElem? (i := 0) rfl) all_nil)) all_nil⟩
              exact AllReadyH.nil
            exact AllReadyH.nil
          exact AllReadyH.nil
        exact AllReadyH.nil
      refine AllReadyH.cons (o := ?o39) ?ho39 (fun Kf hK => ?st39) ?mo39
      case ho39 =>
        simp only [List.getElem?_toArray, List.getElem?_cons_succ, List.getElem?_cons_zero]
        rfl
      case st39 =>
        go_simp
        have K39 := K29.var (g := W29.heap.size) rfl [.bool false, .slice none 0 0, .bool false, .slice none 0 0, .bool false, .slice none 0 0, .bool false, .slice none 0 0, .bool false, .slice none 0 0, .bool false, .slice none 0 0, .bool false, .slice none 0 0, .bool false, .slice none 0 0] 73
        have ne_g29_g39 : g29 ≠ W29.heap.size := by have := (K29.blk (g := g29) (vs := [.bool false, .slice none 0 0, .bool false, .slice none 0 0, .bool false, .slice none 0 0, .bool false, .slice none 0 0, .bool false, .slice none 0 0, .bool false, .slice none 0 0, .bool false, .slice none 0 0, .bool false, .slice none 0 0]) (List.mem_of_getElem? (i := 0) rfl)).1; omega
        have ne_g39_g29 : W29.heap.size ≠ g29 := fun h => ne_g29_g39 h.symm
        refine hK.out _ _ ⟨(HP.out.next K39.1).rngB, (HQ.out.next K39.1).rngB⟩ (fun H39 => ?_)
        clear hK Kf H29 K29
        try simp only [Act.put, List.setIfInBounds_toArray, List.set_cons_zero, List.set_cons_succ]
        generalize W29.heap.size = g39 at K39 ne_g29_g39 ne_g39_g29 ⊢
        generalize W29.alloc (.cells #[.bool false, .slice none 0 0, .bool false, .slice none 0 0, .bool false, .slice none 0 0, .bool false, .slice none 0 0, .bool false, .slice none 0 0, .bool false, .slice none 0 0, .bool false, .slice none 0 0, .bool false, .slice none 0 0] 73) = W39 at K39 H39 ⊢
        refine wpAnyH_ready (rs := [1]) (by kernel_rfl) (by simp) ?_
        refine AllReadyH.cons (o := ?o40) ?ho40 (fun Kf hK => ?st40) ?mo40
        case ho40 =>
          simp only [List.getElem?_toArray, List.getElem?_cons_succ, List.getElem?_cons_zero]
          rfl
        case st40 =>
          go_simp
          refine (four_of_any sa Aa na ca za Ba ma da sb Ab nb cb zb Bb mb db sc Ac nc cc zc Bc mc dc sd Ad nd cd zd Bd md dd _).mono ?_
          rintro e40 W40 ⟨rfl, hb40⟩
          have K40 := K39.next hb40
          refine hK.out _ _ ⟨(HP.out.next K40.1).rngB, (HQ.out.next K40.1).rngB⟩ (fun H40 => ?_)
          clear hK Kf H39 K39 hb40
          try simp only [Act.put, List.setIfInBounds_toArray, List.set_cons_zero, List.set_cons_succ]
          refine wpAnyH_ready (rs := [3]) (by kernel_rfl) (by simp) ?_
          refine AllReadyH.cons (o := ?o41) ?ho41 (fun Kf hK => ?st41) ?mo41
          case ho41 =>
            simp only [List.getElem?_toArray, List.getElem?_cons_succ, List.getElem?_cons_zero]
            rfl
          case st41 =>
            go_simp
            refine (four_of_any se Ae ne ce ze Be me de sf Af nf cf zf Bf mf df sg Ag ng cg zg Bg mg dg sh Ah nh ch zh Bh mh dh _).mono ?_
            rintro e41 W41 ⟨rfl, hb41⟩
            have K41 := K40.next hb41
            refine hK.out _ _ ⟨(HP.out.next K41.1).rngB, (HQ.out.next K41.1).rngB⟩ (fun H41 => ?_)
            clear hK Kf H40 K40 hb41
            try simp only [Act.put, List.setIfInBounds_toArray, List.set_cons_zero, List.set_cons_succ]
            refine wpAnyH_ready (rs := [6]) (by kernel_rfl) (by simp) ?_
            refine AllReadyH.cons (o := ?o42) ?ho42 (fun Kf hK => ?st42) ?mo42
            case ho42 =>
              simp only [List.getElem?_toArray, List.getElem?_cons_succ, List.getElem?_cons_zero]
              rfl
            case st42 =>
              have Q42 : Mm w (((g29, [.bool false, .slice none 0 0, .bool false, .slice none 0 0, .bool false, .slice none 0 0, .bool false, .slice none 0 0, .bool false, .slice none 0 0, .bool false, .slice none 0 0, .bool false, .slice none 0 0, .bool false, .slice none 0 0]) : Nat × List Value) :: [(g39, [.bool false, .slice none 0 0, .bool false, .slice none 0 0, .bool false, .slice none 0 0, .bool false, .slice none 0 0, .bool false, .slice none 0 0, .bool false, .slice none 0 0, .bool false, .slice none 0 0, .bool false, .slice none 0 0])]) [] W41 := K41.pick (L' := ((g29, [.bool false, .slice none 0 0, .bool false, .slice none 0 0, .bool false, .slice none 0 0, .bool false, .slice none 0 0, .bool false, .slice none 0 0, .bool false, .slice none 0 0, .bool false, .slice none 0 0, .bool false, .slice none 0 0]) : Nat × List Value) :: [(g39, [.bool false, .slice none 0 0, .bool false, .slice none 0 0, .bool false, .slice none 0 0, .bool false, .slice none 0 0, .bool false, .slice none 0 0, .bool false, .slice none 0 0, .bool false, .slice none 0 0, .bool false, .slice none 0 0])]) (l' := []) (all_cons (List.mem_of_getElem? (i := 1) rfl) (all_cons (List.mem_of_getElem? (i := 0) rfl) all_nil)) all_nil
              have K42 : Mm w [(g29, [.bool sa, .slice Aa na ca, .bool za, .slice Ba ma da, .bool sb, .slice Ab nb cb, .bool zb, .slice Bb mb db, .bool sc, .slice Ac nc cc, .bool zc, .slice Bc mc dc, .bool sd, .slice Ad nd cd, .bool zd, .slice Bd md dd]), (g39, [.bool false, .slice none 0 0, .bool false, .slice none 0 0, .bool false, .slice none 0 0, .bool false, .slice none 0 0, .bool false, .slice none 0 0, .bool false, .slice none 0 0, .bool false, .slice none 0 0, .bool false, .slice none 0 0])] [] (W41.setCells g29 0 [.bool sa, .slice Aa na ca, .bool za, .slice Ba ma da, .bool sb, .slice Ab nb cb, .bool zb, .slice Bb mb db, .bool sc, .slice Ac nc cc, .bool zc, .slice Bc mc dc, .bool sd, .slice Ad nd cd, .bool zd, .slice Bd md dd]) := Mm.set16B Q42 (all_cons ne_g29_g39 all_nil)
              have th42 : World.there W41 g29 0 16 := (Q42.blk (g := g29) (vs := [.bool false, .slice none 0 0, .bool false, .slice none 0 0, .bool false, .slice none 0 0, .bool false, .slice none 0 0, .bool false, .slice none 0 0, .bool false, .slice none 0 0, .bool false, .slice none 0 0, .bool false, .slice none 0 0]) List.mem_cons_self).thereB
              refine step_store16 ?hw42 73 ?x42 ?y42 ?hop42 g29 ?hx42 [.bool sa, .slice Aa na ca, .bool za, .slice Ba ma da, .bool sb, .slice Ab nb cb, .bool zb, .slice Bb mb db, .bool sc, .slice Ac nc cc, .bool zc, .slice Bc mc dc, .bool sd, .slice Ad nd cd, .bool zd, .slice Bd md dd] ?hy42 th42 ?hl42 size_foB ?h142 ?hk42
              case hop42 => rfl
              case hw42 => rfl
              case hx42 => rfl
              case hy42 => rfl
              case hl42 => rfl
              case h142 => rfl
              generalize W41.setCells g29 0 [.bool sa, .slice Aa na ca, .bool za, .slice Ba ma da, .bool sb, .slice Ab nb cb, .bool zb, .slice Bb mb db, .bool sc, .slice Ac nc cc, .bool zc, .slice Bc mc dc, .bool sd, .slice Ad nd cd, .bool zd, .slice Bd md dd] = W42 at K42 ⊢
              refine hK.out _ _ ⟨(HP.out.next K42.1).rngB, (HQ.out.next K42.1).rngB⟩ (fun H42 => ?_)
              clear hK Kf H41 K41 Q42 th42
              try simp only [Act.put]
              refine wpAnyH_ready (rs := [7]) (by kernel_rfl) (by simp) ?_
              refine AllReadyH.cons (o := ?o43) ?ho43 (fun Kf hK => ?st43) ?mo43
              case ho43 =>
                simp only [List.getElem?_toArray, List.getElem?_cons_succ, List.getElem?_cons_zero]
                rfl
              case st43 =>
                have Q43 : Mm w (((g39, [.bool false, .slice none 0 0, .bool false, .slice none 0 0, .bool false, .slice none 0 0, .bool false, .slice none 0 0, .bool false, .slice none 0 0, .bool false, .slice none 0 0, .bool false, .slice none 0 0, .bool false, .slice none 0 0]) : Nat × List Value) :: [(g29, [.bool sa, .slice Aa na ca, .bool za, .slice Ba ma da, .bool sb, .slice Ab nb cb, .bool zb, .slice Bb mb db, .bool sc, .slice Ac nc cc, .bool zc, .slice Bc mc dc, .bool sd, .slice Ad nd cd, .bool zd, .slice Bd md dd])]) [] W42 := K42.pick (L' := ((g39, [.bool false, .slice none 0 0, .bool false, .slice none 0 0, .bool false, .slice none 0 0, .bool false, .slice none 0 0, .bool false, .slice none 0 0, .bool false, .slice none 0 0, .bool false, .slice none 0 0, .bool false, .slice none 0 0]) : Nat × List Value) :: [(g29, [.bool sa, .slice Aa na ca, .bool za, .slice Ba ma da, .bool sb, .slice Ab nb cb, .bool zb, .slice Bb mb db, .bool sc, .slice Ac nc cc, .bool zc, .slice Bc mc dc, .bool sd, .slice Ad nd cd, .bool zd, .slice Bd md dd])]) (l' := []) (all_cons (List.mem_of_getElem? (i := 1) rfl) (all_cons (List.mem_of_getElem? (i := 0) rfl) all_nil)) all_nil
                have K43 : Mm w [(g39, [.bool se, .slice Ae ne ce, .bool ze, .slice Be me de, .bool sf, .slice Af nf cf, .bool zf, .slice Bf mf df, .bool sg, .slice Ag ng cg, .bool zg, .slice Bg mg dg, .bool sh, .slice Ah nh ch, .bool zh, .slice Bh mh dh]), (g29, [.bool sa, .slice Aa na ca, .bool za, .slice Ba ma da, .bool sb, .slice Ab nb cb, .bool zb, .slice Bb mb db, .bool sc, .slice Ac nc cc, .bool zc, .slice Bc mc dc, .bool sd, .slice Ad nd cd, .bool zd, .slice Bd md dd])] [] (W42.setCells g39 0 [.bool se, .slice Ae ne ce, .bool ze, .slice Be me de, .bool sf, .slice Af nf cf, .bool zf, .slice Bf mf df, .bool sg, .slice Ag ng cg, .bool zg, .slice Bg mg dg, .bool sh, .slice Ah nh ch, .bool zh, .slice Bh mh dh]) := Mm.set16B Q43 (all_cons ne_g39_g29 all_nil)
                have th43 : World.there W42 g39 0 16 := (Q43.blk (g := g39) (vs := [.bool false, .slice none 0 0, .bool false, .slice none 0 0, .bool false, .slice none 0 0, .bool false, .slice none 0 0, .bool false, .slice none 0 0, .bool false, .slice none 0 0, .bool false, .slice none 0 0, .bool false, .slice none 0 0]) List.mem_cons_self).thereB
                refine step_store16 ?hw43 73 ?x43 ?y43 ?hop43 g39 ?hx43 [.bool se, .slice Ae ne ce, .bool ze, .slice Be me de, .bool sf, .slice Af nf cf, .bool zf, .slice Bf mf df, .bool sg, .slice Ag ng cg, .bool zg, .slice Bg mg dg, .bool sh, .slice Ah nh ch, .bool zh, .slice Bh mh dh] ?hy43 th43 ?hl43 size_foB ?h143 ?hk43
                case hop43 => rfl
                case hw43 => rfl
                case hx43 => rfl
                case hy43 => rfl
                case hl43 => rfl
                case h143 => rfl
                generalize W42.setCells g39 0 [.bool se, .slice Ae ne ce, .bool ze, .slice Be me de, .bool sf, .slice Af nf cf, .bool zf, .slice Bf mf df, .bool sg, .slice Ag ng cg, .bool zg, .slice Bg mg dg, .bool sh, .slice Ah nh ch, .bool zh, .slice Bh mh dh] = W43 at K43 ⊢
                refine hK.out _ _ ⟨(HP.out.next K43.1).rngB, (HQ.out.next K43.1).rngB⟩ (fun H43 => ?_)
                clear hK Kf H42 K42 Q43 th43
                try simp only [Act.put]
                refine wpAnyH_done (by kernel_rfl) ?_ _
                (try refine NoPanic.normal ?_)
                go_wp2_with fail
                go_meet
                exact ⟨g29, g39, rfl, rfl, ne_g29_g39, K43.pick (L' := [(g29, [.bool sa, .slice Aa na ca, .bool za, .slice Ba ma da, .bool sb, .slice Ab nb cb, .bool zb, .slice Bb mb db, .bool sc, .slice Ac nc cc, .bool zc, .slice Bc mc dc, .bool sd, .slice Ad nd cd, .bool zd, .slice Bd md dd]), (g39, [.bool se, .slice Ae ne ce, .bool ze, .slice Be me de, .bool sf, .slice Af nf cf, .bool zf, .slice Bf mf df, .bool sg, .slice Ag ng cg, .bool zg, .slice Bg mg dg, .bool sh, .slice Ah nh ch, .bool zh, .slice Bh mh dh])]) (l' := []) (all_cons (List.mem_of_getElem? (i := 1) rfl) (all_cons (List.mem_of_getElem? (i := 0) rfl) all_nil)) all_nil⟩
              exact AllReadyH.nil
            exact AllReadyH.nil
          exact AllReadyH.nil
        exact AllReadyH.nil
      exact AllReadyH.nil
    refine AllReadyH.cons (o := ?o44) ?ho44 (fun Kf hK => ?st44) ?mo44
    case ho44 =>
      simp only [List.getElem?_toArray, List.getElem?_cons_succ, List.getElem?_cons_zero]
      rfl
    case st44 =>
      go_simp
      have K44 := K00.var (g := W0.heap.size) rfl [.bool false, .slice none 0 0, .bool false, .slice none 0 0, .bool false, .slice none 0 0, .bool false, .slice none 0 0, .bool false, .slice none 0 0, .bool false, .slice none 0 0, .bool false, .slice none 0 0, .bool false, .slice none 0 0] 73
      refine hK.out _ _ ⟨(HP.out.next K44.1).rngB, (HQ.out.next K44.1).rngB⟩ (fun H44 => ?_)
      clear hK Kf H0 K00
      try simp only [Act.put, List.setIfInBounds_toArray, List.set_cons_zero, List.set_cons_succ]
      generalize W0.heap.size = g44 at K44  ⊢
      generalize W0.alloc (.cells #[.bool false, .slice none 0 0, .bool false, .slice none 0 0, .bool false, .slice none 0 0, .bool false, .slice none 0 0, .bool false, .slice none 0 0, .bool false, .slice none 0 0, .bool false, .slice none 0 0, .bool false, .slice none 0 0] 73) = W44 at K44 H44 ⊢
      refine wpAnyH_ready (rs := [1, 4]) (by kernel_rfl) (by simp) ?_
      refine AllReadyH.cons (o := ?o45) ?ho45 (fun Kf hK => ?st45) ?mo45
      case ho45 =>
        simp only [List.getElem?_toArray, List.getElem?_cons_succ, List.getElem?_cons_zero]
        rfl
      case st45 =>
        go_simp
        refine (four_of_any sa Aa na ca za Ba ma da sb Ab nb cb zb Bb mb db sc Ac nc cc zc Bc mc dc sd Ad nd cd zd Bd md dd _).mono ?_
        rintro e45 W45 ⟨rfl, hb45⟩
        have K45 := K44.next hb45
        refine hK.out _ _ ⟨(HP.out.next K45.1).rngB, (HQ.out.next K45.1).rngB⟩ (fun H45 => ?_)
        clear hK Kf H44 K44 hb45
        try simp only [Act.put, List.setIfInBounds_toArray, List.set_cons_zero, List.set_cons_succ]
        refine wpAnyH_ready (rs := [3, 4]) (by kernel_rfl) (by simp) ?_
        refine AllReadyH.cons (o := ?o46) ?ho46 (fun Kf hK => ?st46) ?mo46
        case ho46 =>
          simp only [List.getElem?_toArray, List.getElem?_cons_succ, List.getElem?_cons_zero]
          rfl
        case st46 =>
          go_simp
          refine (four_of_any se Ae ne ce ze Be me de sf Af nf cf zf Bf mf df sg Ag ng cg zg Bg mg dg sh Ah nh ch zh Bh mh dh _).mono ?_
          rintro e46 W46 ⟨rfl, hb46⟩
          have K46 := K45.next hb46
          refine hK.out _ _ ⟨(HP.out.next K46.1).rngB, (HQ.out.next K46.1).rngB⟩ (fun H46 => ?_)
          clear hK Kf H45 K45 hb46
          try simp only [Act.put, List.setIfInBounds_toArray, List.set_cons_zero, List.set_cons_succ]
          refine wpAnyH_ready (rs := [4]) (by kernel_rfl) (by simp) ?_
          refine AllReadyH.cons (o := ?o47) ?ho47 (fun Kf hK => ?st47) ?mo47
          case ho47 =>
            simp only [List.getElem?_toArray, List.getElem?_cons_succ, List.getElem?_cons_zero]
            rfl
          case st47 =>
            go_simp
            have K47 := K46.var (g := W46.heap.size) rfl [.bool false, .slice none 0 0, .bool false, .slice none 0 0, .bool false, .slice none 0 0, .bool false, .slice none 0 0, .bool false, .slice none 0 0, .bool false, .slice none 0 0, .bool false, .slice none 0 0, .bool false, .slice none 0 0] 73
            have ne_g44_g47 : g44 ≠ W46.heap.size := by have := (K46.blk (g := g44) (vs := [.bool false, .slice none 0 0, .bool false, .slice none 0 0, .bool false, .slice none 0 0, .bool false, .slice none 0 0, .bool false, .slice none 0 0, .bool false, .slice none 0 0, .bool false, .slice none 0 0, .bool false, .slice none 0 0]) (List.mem_of_getElem? (i := 0) rfl)).1; omega
            have ne_g47_g44 : W46.heap.size ≠ g44 := fun h => ne_g44_g47 h.symm
            refine hK.out _ _ ⟨(HP.out.next K47.1).rngB, (HQ.out.next K47.1).rngB⟩ (fun H47 => ?_)
            clear hK Kf H46 K46
            try simp only [Act.put, List.setIfInBounds_toArray, List.set_cons_zero, List.set_cons_succ]
            generalize W46.heap.size = g47 at K47 ne_g44_g47 ne_g47_g44 ⊢
            generalize W46.alloc (.cells #[.bool false, .slice none 0 0, .bool false, .slice none 0 0, .bool false, .slice none 0 0, .bool false, .slice none 0 0, .bool false, .slice none 0 0, .bool false, .slice none 0 0, .bool false, .slice none 0 0, .bool false, .slice none 0 0] 73) = W47 at K47 H47 ⊢
            refine wpAnyH_ready (rs := [6]) (by kernel_rfl) (by simp) ?_
            refine AllReadyH.cons (o := ?o48) ?ho48 (fun Kf hK => ?st48) ?mo48
            case ho48 =>
              simp only [List.getElem?_toArray, List.getElem?_cons_succ, List.getElem?_cons_zero]
              rfl
            case st48 =>
              have Q48 : Mm w (((g47, [.bool false, .slice none 0 0, .bool false, .slice none 0 0, .bool false, .slice none 0 0, .bool false, .slice none 0 0, .bool false, .slice none 0 0, .bool false, .slice none 0 0, .bool false, .slice none 0 0, .bool false, .slice none 0 0]) : Nat × List Value) :: [(g44, [.bool false, .slice none 0 0, .bool false, .slice none 0 0, .bool false, .slice none 0 0, .bool false, .slice none 0 0, .bool false, .slice none 0 0, .bool false, .slice none 0 0, .bool false, .slice none 0 0, .bool false, .slice none 0 0])]) [] W47 := K47.pick (L' := ((g47, [.bool false, .slice none 0 0, .bool false, .slice none 0 0, .bool false, .slice none 0 0, .bool false, .slice none 0 0, .bool false, .slice none 0 0, .bool false, .slice none 0 0, .bool false, .slice none 0 0, .bool false, .slice none 0 0]) : Nat × List Value) :: [(g44, [.bool false, .slice none 0 0, .bool false, .slice none 0 0, .bool false, .slice none 0 0, .bool false, .slice none 0 0, .bool false, .slice none 0 0, .bool false, .slice none 0 0, .bool false, .slice none 0 0, .bool false, .slice none 0 0])]) (l' := []) (all_cons (List.mem_of_getElem? (i := 0) rfl) (all_cons (List.mem_of_getElem? (i := 1) rfl) all_nil)) all_nil
              have K48 : Mm w [(g47, [.bool sa, .slice Aa na ca, .bool za, .slice Ba ma da, .bool sb, .slice Ab nb cb, .bool zb, .slice Bb mb db, .bool sc, .slice Ac nc cc, .bool zc, .slice Bc mc dc, .bool sd, .slice Ad nd cd, .bool zd, .slice Bd md dd]), (g44, [.bool false, .slice none 0 0, .bool false, .slice none 0 0, .bool false, .slice none 0 0, .bool false, .slice none 0 0, .bool false, .slice none 0 0, .bool false, .slice none 0 0, .bool false, .slice none 0 0, .bool false, .slice none 0 0])] [] (W47.setCells g47 0 [.bool sa, .slice Aa na ca, .bool za, .slice Ba ma da, .bool sb, .slice Ab nb cb, .bool zb, .slice Bb mb db, .bool sc, .slice Ac nc cc, .bool zc, .slice Bc mc dc, .bool sd, .slice Ad nd cd, .bool zd, .slice Bd md dd]) := Mm.set16B Q48 (all_cons ne_g47_g44 all_nil)
              have th48 : World.there W47 g47 0 16 := (Q48.blk (g := g47) (vs := [.bool false, .slice none 0 0, .bool false, .slice none 0 0, .bool false, .slice none 0 0, .bool false, .slice none 0 0, .bool false, .slice none 0 0, .bool false, .slice none 0 0, .bool false, .slice none 0 0, .bool false, .slice none 0 0]) List.mem_cons_self).thereB
              refine step_store16 ?hw48 73 ?x48 ?y48 ?hop48 g47 ?hx48 [.bool sa, .slice Aa na ca, .bool za, .slice Ba ma da, .bool sb, .slice Ab nb cb, .bool zb, .slice Bb mb db, .bool sc, .slice Ac nc cc, .bool zc, .slice Bc mc dc, .bool sd, .slice Ad nd cd, .bool zd, .slice Bd md dd] ?hy48 th48 ?hl48 size_foB ?h148 ?hk48
              case hop48 => rfl
              case hw48 => rfl
              case hx48 => rfl
              case hy48 => rfl
              case hl48 => rfl
              case h148 => rfl
              generalize W47.setCells g47 0 [.bool sa, .slice Aa na ca, .bool za, .slice Ba ma da, .bool sb, .slice Ab nb cb, .bool zb, .slice Bb mb db, .bool sc, .slice Ac nc cc, .bool zc, .slice Bc mc dc, .bool sd, .slice Ad nd cd, .bool zd, .slice Bd md dd] = W48 at K48 ⊢
              refine hK.out _ _ ⟨(HP.out.next K48.1).rngB, (HQ.out.next K48.1).rngB⟩ (fun H48 => ?_)
              clear hK Kf H47 K47 Q48 th48
              try simp only [Act.put]
              refine wpAnyH_ready (rs := [7]) (by kernel_rfl) (by simp) ?_
              refine AllReadyH.cons (o := ?o49) ?ho49 (fun Kf hK => ?st49) ?mo49
              case ho49 =>
                simp only [List.getElem?_toArray, List.getElem?_cons_succ, List.getElem?_cons_zero]
                rfl
              case st49 =>
                have Q49 : Mm w (((g44, [.bool false, .slice none 0 0, .bool false, .slice none 0 0, .bool false, .slice none 0 0, .bool false, .slice none 0 0, .bool false, .slice none 0 0, .bool false, .slice none 0 0, .bool false, .slice none 0 0, .bool false, .slice none 0 0]) : Nat × List Value) :: [(g47, [.bool sa, .slice Aa na ca, .bool za, .slice Ba ma da, .bool sb, .slice Ab nb cb, .bool zb, .slice Bb mb db, .bool sc, .slice Ac nc cc, .bool zc, .slice Bc mc dc, .bool sd, .slice Ad nd cd, .bool zd, .slice Bd md dd])]) [] W48 := K48.pick (L' := ((g44, [.bool false, .slice none 0 0, .bool false, .slice none 0 0, .bool false, .slice none 0 0, .bool false, .slice none 0 0, .bool false, .slice none 0 0, .bool false, .slice none 0 0, .bool false, .slice none 0 0, .bool false, .slice none 0 0]) : Nat × List Value) :: [(g47, [.bool sa, .slice Aa na ca, .bool za, .slice Ba ma da, .bool sb, .slice Ab nb cb, .bool zb, .slice Bb mb db, .bool sc, .slice Ac nc cc, .bool zc, .slice Bc mc dc, .bool sd, .slice Ad nd cd, .bool zd, .slice Bd md dd])]) (l' := []) (all_cons (List.mem_of_getElem? (i := 1) rfl) (all_cons (List.mem_of_getElem? (i := 0) rfl) all_nil)) all_nil
                have K49 : Mm w [(g44, [.bool se, .slice Ae ne ce, .bool ze, .slice Be me de, .bool sf, .slice Af nf cf, .bool zf, .slice Bf mf df, .bool sg, .slice Ag ng cg, .bool zg, .slice Bg mg dg, .bool sh, .slice Ah nh ch, .bool zh, .slice Bh mh dh]), (g47, [.bool sa, .slice Aa na ca, .bool za, .slice Ba ma da, .bool sb, .slice Ab nb cb, .bool zb, .slice Bb mb db, .bool sc, .slice Ac nc cc, .bool zc, .slice Bc mc dc, .bool sd, .slice Ad nd cd, .bool zd, .slice Bd md dd])] [] (W48.setCells g44 0 [.bool se, .slice Ae ne ce, .bool ze, .slice Be me de, .bool sf, .slice Af nf cf, .bool zf, .slice Bf mf df, .bool sg, .slice Ag ng cg, .bool zg, .slice Bg mg dg, .bool sh, .slice Ah nh ch, .bool zh, .slice Bh mh dh]) := Mm.set16B Q49 (all_cons ne_g44_g47 all_nil)
                have th49 : World.there W48 g44 0 16 := (Q49.blk (g := g44) (vs := [.bool false, .slice none 0 0, .bool false, .slice none 0 0, .bool false, .slice none 0 0, .bool false, .slice none 0 0, .bool false, .slice none 0 0, .bool false, .slice none 0 0, .bool false, .slice none 0 0, .bool false, .slice none 0 0]) List.mem_cons_self).thereB
                refine step_store16 ?hw49 73 ?x49 ?y49 ?hop49 g44 ?hx49 [.bool se, .slice Ae ne ce, .bool ze, .slice Be me de, .bool sf, .slice Af nf cf, .bool zf, .slice Bf mf df, .bool sg, .slice Ag ng cg, .bool zg, .slice Bg mg dg, .bool sh, .slice Ah nh ch, .bool zh, .slice Bh mh dh] ?hy49 th49 ?hl49 size_foB ?h149 ?hk49
                case hop49 => rfl
                case hw49 => rfl
                case hx49 => rfl
                case hy49 => rfl
                case hl49 => rfl
                case h149 => rfl
                generalize W48.setCells g44 0 [.bool se, .slice Ae ne ce, .bool ze, .slice Be me de, .bool sf, .slice Af nf cf, .bool zf, .slice Bf mf df, .bool sg, .slice Ag ng cg, .bool zg, .slice Bg mg dg, .bool sh, .slice Ah nh ch, .bool zh, .slice Bh mh dh] = W49 at K49 ⊢
                refine hK.out _ _ ⟨(HP.out.next K49.1).rngB, (HQ.out.next K49.1).rngB⟩ (fun H49 => ?_)
                clear hK Kf H48 K48 Q49 th49
                try simp only [Act.put]
                refine wpAnyH_done (by kernel_rfl) ?_ _
                (try refine NoPanic.normal ?_)
                go_wp2_with fail
                go_meet
                exact ⟨g47, g44, rfl, rfl, ne_g47_g44, K49.pick (L' := [(g47, [.bool sa, .slice Aa na ca, .bool za, .slice Ba ma da, .bool sb, .slice Ab nb cb, .bool zb, .slice Bb mb db, .bool sc, .slice Ac nc cc, .bool zc, .slice Bc mc dc, .bool sd, .slice Ad nd cd, .bool zd, .slice Bd md dd]), (g44, [.bool se, .slice Ae ne ce, .bool ze, .slice Be me de, .bool sf, .slice Af nf cf, .bool zf, .slice Bf mf df, .bool sg, .slice Ag ng cg, .bool zg, .slice Bg mg dg, .bool sh, .slice Ah nh ch, .bool zh, .slice Bh mh dh])]) (l' := []) (all_cons (List.mem_of_getElem? (i := 1) rfl) (all_cons (List.mem_of_getElem? (i := 0) rfl) all_nil)) all_nil⟩
              exact AllReadyH.nil
            exact AllReadyH.nil
          exact AllReadyH.nil
        refine AllReadyH.cons (o := ?o50) ?ho50 (fun Kf hK => ?st50) ?mo50
        case ho50 =>
          simp only [List.getElem?_toArray, List.getElem?_cons_succ, List.getElem?_cons_zero]
          rfl
        case st50 =>
          go_simp
          have K50 := K45.var (g := W45.heap.size) rfl [.bool false, .slice none 0 0, .bool false, .slice none 0 0, .bool false, .slice none 0 0, .bool false, .slice none 0 0, .bool false, .slice none 0 0, .bool false, .slice none 0 0, .bool false, .slice none 0 0, .bool false, .slice none 0 0] 73
          have ne_g44_g50 : g44 ≠ W45.heap.size := by have := (K45.blk (g := g44) (vs := [.bool false, .slice none 0 0, .bool false, .slice none 0 0, .bool false, .slice none 0 0, .bool false, .slice none 0 0, .bool false, .slice none 0 0, .bool false, .slice none 0 0, .bool false, .slice none 0 0, .bool false, .slice none 0 0]) (List.mem_of_getElem? (i := 0) rfl)).1; omega
          have ne_g50_g44 : W45.heap.size ≠ g44 := fun h => ne_g44_g50 h.symm
          refine hK.out _ _ ⟨(HP.out.next K50.1).rngB, (HQ.out.next K50.1).rngB⟩ (fun H50 => ?_)
          clear hK Kf H45 K45
          try simp only [Act.put, List.setIfInBounds_toArray, List.set_cons_zero, List.set_cons_succ]
          generalize W45.heap.size = g50 at K50 ne_g44_g50 ne_g50_g44 ⊢
          generalize W45.alloc (.cells #[.bool false, .slice none 0 0, .bool false, .slice none 0 0, .bool false, .slice none 0 0, .bool false, .slice none 0 0, .bool false, .slice none 0 0, .bool false, .slice none 0 0, .bool false, .slice none 0 0, .bool false, .slice none 0 0] 73) = W50 at K50 H50 ⊢
          refine wpAnyH_ready (rs := [3]) (by kernel_rfl) (by simp) ?_
          refine AllReadyH.cons (o := ?o51) ?ho51 (fun Kf hK => ?st51) ?mo51
          case ho51 =>
            simp only [List.getElem?_toArray, List.getElem?_cons_succ, List.getElem?_cons_zero]
            rfl
          case st51 =>
            go_simp
            refine (four_of_any se Ae ne ce ze Be me de sf Af nf cf zf Bf mf df sg Ag ng cg zg Bg mg dg sh Ah nh ch zh Bh mh dh _).mono ?_
            rintro e51 W51 ⟨rfl, hb51⟩
            have K51 := K50.next hb51
            refine hK.out _ _ ⟨(HP.out.next K51.1).rngB, (HQ.out.next K51.1).rngB⟩ (fun H51 => ?_)
            clear hK Kf H50 K50 hb51
            try simp only [Act.put, List.setIfInBounds_toArray, List.set_cons_zero, List.set_cons_succ]
            refine wpAnyH_ready (rs := [6]) (by kernel_rfl) (by simp) ?_
            refine AllReadyH.cons (o := ?o52) ?ho52 (fun Kf hK => ?st52) ?mo52
            case ho52 =>
              simp only [List.getElem?_toArray, List.getElem?_cons_succ, List.getElem?_cons_zero]
              rfl
            case st52 =>
              have Q52 : Mm w (((g50, [.bool false, .slice none 0 0, .bool false, .slice none 0 0, .bool false, .slice none 0 0, .bool false, .slice none 0 0, .bool false, .slice none 0 0, .bool false, .slice none 0 0, .bool false, .slice none 0 0, .bool false, .slice none 0 0]) : Nat × List Value) :: [(g44, [.bool false, .slice none 0 0, .bool false, .slice none 0 0, .bool false, .slice none 0 0, .bool false, .slice none 0 0, .bool false, .slice none 0 0, .bool false, .slice none 0 0, .bool false, .slice none 0 0, .bool false, .slice none 0 0])]) [] W51 := K51.pick (L' := ((g50, [.bool false, .slice none 0 0, .bool false, .slice none 0 0, .bool false, .slice none 0 0, .bool false, .slice none 0 0, .bool false, .slice none 0 0, .bool false, .slice none 0 0, .bool false, .slice none 0 0, .bool false, .slice none 0 0]) : Nat × List Value) :: [(g44, [.bool false, .slice none 0 0, .bool false, .slice none 0 0, .bool false, .slice none 0 0, .bool false, .slice none 0 0, .bool false, .slice none 0 0, .bool false, .slice none 0 0, .bool false, .slice none 0 0, .bool false, .slice none 0 0])]) (l' := []) (all_cons (List.mem_of_getElem? (i := 0) rfl) (all_cons (List.mem_of_getElem? (i := 1) rfl) all_nil)) all_nil
              have K52 : Mm w [(g50, [.bool sa, .slice Aa na ca, .bool za, .slice Ba ma da, .bool sb, .slice Ab nb cb, .bool zb, .slice Bb mb db, .bool sc, .slice Ac nc cc, .bool zc, .slice Bc mc dc, .bool sd, .slice Ad nd cd, .bool zd, .slice Bd md dd]), (g44, [.bool false, .slice none 0 0, .bool false, .slice none 0 0, .bool false, .slice none 0 0, .bool false, .slice none 0 0, .bool false, .slice none 0 0, .bool false, .slice none 0 0, .bool false, .slice none 0 0, .bool false, .slice none 0 0])] [] (W51.setCells g50 0 [.bool sa, .slice Aa na ca, .bool za, .slice Ba ma da, .bool sb, .slice Ab nb cb, .bool zb, .slice Bb mb db, .bool sc, .slice Ac nc cc, .bool zc, .slice Bc mc dc, .bool sd, .slice Ad nd cd, .bool zd, .slice Bd md dd]) := Mm.set16B Q52 (all_cons ne_g50_g44 all_nil)
              have th52 : World.there W51 g50 0 16 := (Q52.blk (g := g50) (vs := [.bool false, .slice none 0 0, .bool false, .slice none 0 0, .bool false, .slice none 0 0, .bool false, .slice none 0 0, .bool false, .slice none 0 0, .bool false, .slice none 0 0, .bool false, .slice none 0 0, .bool false, .slice none 0 0]) List.mem_cons_self).thereB
              refine step_store16 ?hw52 73 ?x52 ?y52 ?hop52 g50 ?hx52 [.bool sa, .slice Aa na ca, .bool za, .slice Ba ma da, .bool sb, .slice Ab nb cb, .bool zb, .slice Bb mb db, .bool sc, .slice Ac nc cc, .bool zc, .slice Bc mc dc, .bool sd, .slice Ad nd cd, .bool zd, .slice Bd md dd] ?hy52 th52 ?hl52 size_foB ?h152 ?hk52
              case hop52 => rfl
              case hw52 => rfl
              case hx52 => rfl
              case hy52 => rfl
              case hl52 => rfl
              case h152 => rfl
              generalize W51.setCells g50 0 [.bool sa, .slice Aa na ca, .bool za, .slice Ba ma da, .bool sb, .slice Ab nb cb, .bool zb, .slice Bb mb db, .bool sc, .slice Ac nc cc, .bool zc, .slice Bc mc dc, .bool sd, .slice Ad nd cd, .bool zd, .slice Bd md dd] = W52 at K52 ⊢
              refine hK.out _ _ ⟨(HP.out.next K52.1).rngB, (HQ.out.next K52.1).rngB⟩ (fun H52 => ?_)
              clear hK Kf H51 K51 Q52 th52
              try simp only [Act.put]
              refine wpAnyH_ready (rs := [7]) (by kernel_rfl) (by simp) ?_
              refine AllReadyH.cons (o := ?o53) ?ho53 (fun Kf hK => ?st53) ?mo53
              case ho53 =>
                simp only [List.getElem?_toArray, List.getElem?_cons_succ, List.getElem?_cons_zero]
                rfl
              case st53 =>
                have Q53 : Mm w (((g44, [.bool false, .slice none 0 0, .bool false, .slice none 0 0, .bool false, .slice none 0 0, .bool false, .slice none 0 0, .bool false, .slice none 0 0, .bool false, .slice none 0 0, .bool false, .slice none 0 0, .bool false, .slice none 0 0]) : Nat × List Value) :: [(g50, [.bool sa, .slice Aa na ca, .bool za, .slice Ba ma da, .bool sb, .slice Ab nb cb, .bool zb, .slice Bb mb db, .bool sc, .slice Ac nc cc, .bool zc, .slice Bc mc dc, .bool sd, .slice Ad nd cd, .bool zd, .slice Bd md dd])]) [] W52 := K52.pick (L' := ((g44, [.bool false, .slice none 0 0, .bool false, .slice none 0 0, .bool false, .slice none 0 0, .bool false, .slice none 0 0, .bool false, .slice none 0 0, .bool false, .slice none 0 0, .bool false, .slice none 0 0, .bool false, .slice none 0 0]) : Nat × List Value) :: [(g50, [.bool sa, .slice Aa na ca, .bool za, .slice Ba ma da, .bool sb, .slice Ab nb cb, .bool zb, .slice Bb mb db, .bool sc, .slice Ac nc cc, .bool zc, .slice Bc mc dc, .bool sd, .slice Ad nd cd, .bool zd, .slice Bd md dd])]) (l' := []) (all_cons (List.mem_of_getElem? (i := 1) rfl) (all_cons (List.mem_of_getElem? (i := 0) rfl) all_nil)) all_nil
                have K53 : Mm w [(g44, [.bool se, .slice Ae ne ce, .bool ze, .slice Be me de, .bool sf, .slice Af nf cf, .bool zf, .slice Bf mf df, .bool sg, .slice Ag ng cg, .bool zg, .slice Bg mg dg, .bool sh, .slice Ah nh ch, .bool zh, .slice Bh mh dh]), (g50, [.bool sa, .slice Aa na ca, .bool za, .slice Ba ma da, .bool sb, .slice Ab nb cb, .bool zb, .slice Bb mb db, .bool sc, .slice Ac nc cc, .bool zc, .slice Bc mc dc, .bool sd, .slice Ad nd cd, .bool zd, .slice Bd md dd])] [] (W52.setCells g44 0 [.bool se, .slice Ae ne ce, .bool ze, .slice Be me de, .bool sf, .slice Af nf cf, .bool zf, .slice Bf mf df, .bool sg, .slice Ag ng cg, .bool zg, .slice Bg mg dg, .bool sh, .slice Ah nh ch, .bool zh, .slice Bh mh dh]) := Mm.set16B Q53 (all_cons ne_g44_g50 all_nil)
                have th53 : World.there W52 g44 0 16 := (Q53.blk (g := g44) (vs := [.bool false, .slice none 0 0, .bool false, .slice none 0 0, .bool false, .slice none 0 0, .bool false, .slice none 0 0, .bool false, .slice none 0 0, .bool false, .slice none 0 0, .bool false, .slice none 0 0, .bool false, .slice none 0 0]) List.mem_cons_self).thereB
                refine step_store16 ?hw53 73 ?x53 ?y53 ?hop53 g44 ?hx53 [.bool se, .slice Ae ne ce, .bool ze, .slice Be me de, .bool sf, .slice Af nf cf, .bool zf, .slice Bf mf df, .bool sg, .slice Ag ng cg, .bool zg, .slice Bg mg dg, .bool sh, .slice Ah nh ch, .bool zh, .slice Bh mh dh] ?hy53 th53 ?hl53 size_foB ?h153 ?hk53
                case hop53 => rfl
                case hw53 => rfl
                case hx53 => rfl
                case hy53 => rfl
                case hl53 => rfl
                case h153 => rfl
                generalize W52.setCells g44 0 [.bool se, .slice Ae ne ce, .bool ze, .slice Be me de, .bool sf, .slice Af nf cf, .bool zf, .slice Bf mf df, .bool sg, .slice Ag ng cg, .bool zg, .slice Bg mg dg, .bool sh, .slice Ah nh ch, .bool zh, .slice Bh mh dh] = W53 at K53 ⊢
                refine hK.out _ _ ⟨(HP.out.next K53.1).rngB, (HQ.out.next K53.1).rngB⟩ (fun H53 => ?_)
                clear hK Kf H52 K52 Q53 th53
                try simp only [Act.put]
                refine wpAnyH_done (by kernel_rfl) ?_ _
                (try refine NoPanic.normal ?_)
                go_wp2_with fail
                go_meet
                exact ⟨g50, g44, rfl, rfl, ne_g50_g44, K53.pick (L' := [(g50, [.bool sa, .slice Aa na ca, .bool za, .slice Ba ma da, .bool sb, .slice Ab nb cb, .bool zb, .slice Bb mb db, .bool sc, .slice Ac nc cc, .bool zc, .slice Bc mc dc, .bool sd, .slice Ad nd cd, .bool zd, .slice Bd md dd]), (g44, [.bool se, .slice Ae ne ce, .bool ze, .slice Be me de, .bool sf, .slice Af nf cf, .bool zf, .slice Bf mf df, .bool sg, .slice Ag ng cg, .bool zg, .slice Bg mg dg, .bool sh, .slice Ah nh ch, .bool zh, .slice Bh mh dh])]) (l' := []) (all_cons (List.mem_of_getElem? (i := 1) rfl) (all_cons (List.mem_of_getElem? (i := 0) rfl) all_nil)) all_nil⟩
              exact AllReadyH.nil
            exact AllReadyH.nil
          exact AllReadyH.nil
        exact AllReadyH.nil
      refine AllReadyH.cons (o := ?o54) ?ho54 (fun Kf hK => ?st54) ?mo54
      case ho54 =>
        simp only [List.getElem?_toArray, List.getElem?_cons_succ, List.getElem?_cons_zero]
        rfl
      case st54 =>
        go_simp
        have K54 := K44.var (g := W44.heap.size) rfl [.bool false, .slice none 0 0, .bool false, .slice none 0 0, .bool false, .slice none 0 0, .bool false, .slice none 0 0, .bool false, .slice none 0 0, .bool false, .slice none 0 0, .bool false, .slice none 0 0, .bool false, .slice none 0 0] 73
        have ne_g44_g54 : g44 ≠ W44.heap.size := by have := (K44.blk (g := g44) (vs := [.bool false, .slice none 0 0, .bool false, .slice none 0 0, .bool false, .slice none 0 0, .bool false, .slice none 0 0, .bool false, .slice none 0 0, .bool false, .slice none 0 0, .bool false, .slice none 0 0, .bool false, .slice none 0 0]) (List.mem_of_getElem? (i := 0) rfl)).1; omega
        have ne_g54_g44 : W44.heap.size ≠ g44 := fun h => ne_g44_g54 h.symm
        refine hK.out _ _ ⟨(HP.out.next K54.1).rngB, (HQ.out.next K54.1).rngB⟩ (fun H54 => ?_)
        clear hK Kf H44 K44
        try simp only [Act.put, List.setIfInBounds_toArray, List.set_cons_zero, List.set_cons_succ]
        generalize W44.heap.size = g54 at K54 ne_g44_g54 ne_g54_g44 ⊢
        generalize W44.alloc (.cells #[.bool false, .slice none 0 0, .bool false, .slice none 0 0, .bool false, .slice none 0 0, .bool false, .slice none 0 0, .bool false, .slice none 0 0, .bool false, .slice none 0 0, .bool false, .slice none 0 0, .bool false, .slice none 0 0] 73) = W54 at K54 H54 ⊢
        refine wpAnyH_ready (rs := [1]) (by kernel_rfl) (by simp) ?_
        refine AllReadyH.cons (o := ?o55) ?ho55 (fun Kf hK => ?st55) ?mo55
        case ho55 =>
          simp only [List.getElem?_toArray, List.getElem?_cons_succ, List.getElem?_cons_zero]
          rfl
        case st55 =>
          go_simp
          refine (four_of_any sa Aa na ca za Ba ma da sb Ab nb cb zb Bb mb db sc Ac nc cc zc Bc mc dc sd Ad nd cd zd Bd md dd _).mono ?_
          rintro e55 W55 ⟨rfl, hb55⟩
          have K55 := K54.next hb55
          refine hK.out _ _ ⟨(HP.out.next K55.1).rngB, (HQ.out.next K55.1).rngB⟩ (fun H55 => ?_)
          clear hK Kf H54 K54 hb55
          try simp only [Act.put, List.setIfInBounds_toArray, List.set_cons_zero, List.set_cons_succ]
          refine wpAnyH_ready (rs := [3]) (by kernel_rfl) (by simp) ?_
          refine AllReadyH.cons (o := ?o56) ?ho56 (fun Kf hK => ?st56) ?mo56
          case ho56 =>
            simp only [List.getElem?_toArray, List.getElem?_cons_succ, List.getElem?_cons_zero]
            rfl
          case st56 =>
            go_simp
            refine (four_of_any se Ae ne ce ze Be me de sf Af nf cf zf Bf mf df sg Ag ng cg zg Bg mg dg sh Ah nh ch zh Bh mh dh _).mono ?_
            rintro e56 W56 ⟨rfl, hb56⟩
            have K56 := K55.next hb56
            refine hK.out _ _ ⟨(HP.out.next K56.1).rngB, (HQ.out.next K56.1).rngB⟩ (fun H56 => ?_)
            clear hK Kf H55 K55 hb56
            try simp only [Act.put, List.setIfInBounds_toArray, List.set_cons_zero, List.set_cons_succ]
            refine wpAnyH_ready (rs := [6]) (by kernel_rfl) (by simp) ?_
            refine AllReadyH.cons (o := ?o57) ?ho57 (fun Kf hK => ?st57) ?mo57
            case ho57 =>
              simp only [List.getElem?_toArray, List.getElem?_cons_succ, List.getElem?_cons_zero]
              rfl
            case st57 =>
              have Q57 : Mm w (((g54, [.bool false, .slice none 0 0, .bool false, .slice none 0 0, .bool false, .slice none 0 0, .bool false, .slice none 0 0, .bool false, .slice none 0 0, .bool false, .slice none 0 0, .bool false, .slice none 0 0, .bool false, .slice none 0 0]) : Nat × List Value) :: [(g44, [.bool false, .slice none 0 0, .bool false, .slice none 0 0, .bool false, .slice none 0 0, .bool false, .slice none 0 0, .bool false, .slice none 0 0, .bool false, .slice none 0 0, .bool false, .slice none 0 0, .bool false, .slice none 0 0])]) [] W56 := K56.pick (L' := ((g54, [.bool false, .slice none 0 0, .bool false, .slice none 0 0, .bool false, .slice none 0 0, .bool false, .slice none 0 0, .bool false, .slice none 0 0, .bool false, .slice none 0 0, .bool false, .slice none 0 0, .bool false, .slice none 0 0]) : Nat × List Value) :: [(g44, [.bool false, .slice none 0 0, .bool false, .slice none 0 0, .bool false, .slice none 0 0, .bool false, .slice none 0 0, .bool false, .slice none 0 0, .bool false, .slice none 0 0, .bool false, .slice none 0 0, .bool false, .slice none 0 0])]) (l' := []) (all_cons (List.mem_of_getElem? (i := 0) rfl) (all_cons (List.mem_of_getElem? (i := 1) rfl) all_nil)) all_nil
              have K57 : Mm w [(g54, [.bool sa, .slice Aa na ca, .bool za, .slice Ba ma da, .bool sb, .slice Ab nb cb, .bool zb, .slice Bb mb db, .bool sc, .slice Ac nc cc, .bool zc, .slice Bc mc dc, .bool sd, .slice Ad nd cd, .bool zd, .slice Bd md dd]), (g44, [.bool false, .slice none 0 0, .bool false, .slice none 0 0, .bool false, .slice none 0 0, .bool false, .slice none 0 0, .bool false, .slice none 0 0, .bool false, .slice none 0 0, .bool false, .slice none 0 0, .bool false, .slice none 0 0])] [] (W56.setCells g54 0 [.bool sa, .slice Aa na ca, .bool za, .slice Ba ma da, .bool sb, .slice Ab nb cb, .bool zb, .slice Bb mb db, .bool sc, .slice Ac nc cc, .bool zc, .slice Bc mc dc, .bool sd, .slice Ad nd cd, .bool zd, .slice Bd md dd]) := Mm.set16B Q57 (all_cons ne_g54_g44 all_nil)
              have th57 : World.there W56 g54 0 16 := (Q57.blk (g := g54) (vs := [.bool false, .slice none 0 0, .bool false, .slice none 0 0, .bool false, .slice none 0 0, .bool false, .slice none 0 0, .bool false, .slice none 0 0, .bool false, .slice none 0 0, .bool false, .slice none 0 0, .bool false, .slice none 0 0]) List.mem_cons_self).thereB
              refine step_store16 ?hw57 73 ?x57 ?y57 ?hop57 g54 ?hx57 [.bool sa, .slice Aa na ca, .bool za, .slice Ba ma da, .bool sb, .slice Ab nb cb, .bool zb, .slice Bb mb db, .bool sc, .slice Ac nc cc, .bool zc, .slice Bc mc dc, .bool sd, .slice Ad nd cd, .bool zd, .slice Bd md dd] ?hy57 th57 ?hl57 size_foB ?h157 ?hk57
              case hop57 => rfl
              case hw57 => rfl
              case hx57 => rfl
              case hy57 => rfl
              case hl57 => rfl
              case h157 => rfl
              generalize W56.setCells g54 0 [.bool sa, .slice Aa na ca, .bool za, .slice Ba ma da, .bool sb, .slice Ab nb cb, .bool zb, .slice Bb mb db, .bool sc, .slice Ac nc cc, .bool zc, .slice Bc mc dc, .bool sd, .slice Ad nd cd, .bool zd, .slice Bd md dd] = W57 at K57 ⊢
              refine hK.out _ _ ⟨(HP.out.next K57.1).rngB, (HQ.out.next K57.1).rngB⟩ (fun H57 => ?_)
              clear hK Kf H56 K56 Q57 th57
              try simp only [Act.put]
              refine wpAnyH_ready (rs := [7]) (by kernel_rfl) (by simp) ?_
              refine AllReadyH.cons (o := ?o58) ?ho58 (fun Kf hK => ?st58) ?mo58
              case ho58 =>
                simp only [List.getElem?_toArray, List.getElem?_cons_succ, List.getElem?_cons_zero]
                rfl
              case st58 =>
                have Q58 : Mm w (((g44, [.bool false, .slice none 0 0, .bool false, .slice none 0 0, .bool false, .slice none 0 0, .bool false, .slice none 0 0, .bool false, .slice none 0 0, .bool false, .slice none 0 0, .bool false, .slice none 0 0, .bool false, .slice none 0 0]) : Nat × List Value) :: [(g54, [.bool sa, .slice Aa na ca, .bool za, .slice Ba ma da, .bool sb, .slice Ab nb cb, .bool zb, .slice Bb mb db, .bool sc, .slice Ac nc cc, .bool zc, .slice Bc mc dc, .bool sd, .slice Ad nd cd, .bool zd, .slice Bd md dd])]) [] W57 := K57.pick (L' := ((g44, [.bool false, .slice none 0 0, .bool false, .slice none 0 0, .bool false, .slice none 0 0, .bool false, .slice none 0 0, .bool false, .slice none 0 0, .bool false, .slice none 0 0, .bool false, .slice none 0 0, .bool false, .slice none 0 0]) : Nat × List Value) :: [(g54, [.bool sa, .slice Aa na ca, .bool za, .slice Ba ma da, .bool sb, .slice Ab nb cb, .bool zb, .slice Bb mb db, .bool sc, .slice Ac nc cc, .bool zc, .slice Bc mc dc, .bool sd, .slice Ad nd cd, .bool zd, .slice Bd md dd])]) (l' := []) (all_cons (List.mem_of_getElem? (i := 1) rfl) (all_cons (List.mem_of_getElem? (i := 0) rfl) all_nil)) all_nil
                have K58 : Mm w [(g44, [.bool se, .slice Ae ne ce, .bool ze, .slice Be me de, .bool sf, .slice Af nf cf, .bool zf, .slice Bf mf df, .bool sg, .slice Ag ng cg, .bool zg, .slice Bg mg dg, .bool sh, .slice Ah nh ch, .bool zh, .slice Bh mh dh]), (g54, [.bool sa, .slice Aa na ca, .bool za, .slice Ba ma da, .bool sb, .slice Ab nb cb, .bool zb, .slice Bb mb db, .bool sc, .slice Ac nc cc, .bool zc, .slice Bc mc dc, .bool sd, .slice Ad nd cd, .bool zd, .slice Bd md dd])] [] (W57.setCells g44 0 [.bool se, .slice Ae ne ce, .bool ze, .slice Be me de, .bool sf, .slice Af nf cf, .bool zf, .slice Bf mf df, .bool sg, .slice Ag ng cg, .bool zg, .slice Bg mg dg, .bool sh, .slice Ah nh ch, .bool zh, .slice Bh mh dh]) := Mm.set16B Q58 (all_cons ne_g44_g54 all_nil)
                have th58 : World.there W57 g44 0 16 := (Q58.blk (g := g44) (vs := [.bool false, .slice none 0 0, .bool false, .slice none 0 0, .bool false, .slice none 0 0, .bool false, .slice none 0 0, .bool false, .slice none 0 0, .bool false, .slice none 0 0, .bool false, .slice none 0 0, .bool false, .slice none 0 0]) List.mem_cons_self).thereB
                refine step_store16 ?hw58 73 ?x58 ?y58 ?hop58 g44 ?hx58 [.bool se, .slice Ae ne ce, .bool ze, .slice Be me de, .bool sf, .slice Af nf cf, .bool zf, .slice Bf mf df, .bool sg, .slice Ag ng cg, .bool zg, .slice Bg mg dg, .bool sh, .slice Ah nh ch, .bool zh, .slice Bh mh dh] ?hy58 th58 ?hl58 size_foB ?h158 ?hk58
                case hop58 => rfl
                case hw58 => rfl
                case hx58 => rfl
                case hy58 => rfl
                case hl58 => rfl
                case h158 => rfl
                generalize W57.setCells g44 0 [.bool se, .slice Ae ne ce, .bool ze, .slice Be me de, .bool sf, .slice Af nf cf, .bool zf, .slice Bf mf df, .bool sg, .slice Ag ng cg, .bool zg, .slice Bg mg dg, .bool sh, .slice Ah nh ch, .bool zh, .slice Bh mh dh] = W58 at K58 ⊢
                refine hK.out _ _ ⟨(HP.out.next K58.1).rngB, (HQ.out.next K58.1).rngB⟩ (fun H58 => ?_)
                clear hK Kf H57 K57 Q58 th58
                try simp only [Act.put]
                refine wpAnyH_done (by kernel_rfl) ?_ _
                (try refine NoPanic.normal ?_)
                go_wp2_with fail
                go_meet
                exact ⟨g54, g44, rfl, rfl, ne_g54_g44, K58.pick (L' := [(g54, [.bool sa, .slice Aa na ca, .bool za, .slice Ba ma da, .bool sb, .slice Ab nb cb, .bool zb, .slice Bb mb db, .bool sc, .slice Ac nc cc, .bool zc, .slice Bc mc dc, .bool sd, .slice Ad nd cd, .bool zd, .slice Bd md dd]), (g44, [.bool se, .slice Ae ne ce, .bool ze, .slice Be me de, .bool sf, .slice Af nf cf, .bool zf, .slice Bf mf df, .bool sg, .slice Ag ng cg, .bool zg, .slice Bg mg dg, .bool sh, .slice Ah nh ch, .bool zh, .slice Bh mh dh])]) (l' := []) (all_cons (List.mem_of_getElem? (i := 1) rfl) (all_cons (List.mem_of_getElem? (i := 0) rfl) all_nil)) all_nil⟩
              exact AllReadyH.nil
            exact AllReadyH.nil
          exact AllReadyH.nil
        exact AllReadyH.nil
      exact AllReadyH.nil
    exact AllReadyH.nil
  case rest =>
    obtain ⟨g3, g4, rfl, rfl, hg34, KC⟩ := hcut
    clear K0
    rename World => wc
    have h34 : ¬ g3 = g4 := hg34
    have h43 : ¬ g4 = g3 := fun h => hg34 h.symm
    go_wp2_with fail
    go_loopw [5, 13] (fun av i wr => ∃ k : Nat, k ≤ 4 ∧ i = .int .i64 (k : Int) ∧ Mrow w [(g3, [.bool sa, .slice Aa na ca, .bool za, .slice Ba ma da, .bool sb, .slice Ab nb cb, .bool zb, .slice Bb mb db, .bool sc, .slice Ac nc cc, .bool zc, .slice Bc mc dc, .bool sd, .slice Ad nd cd, .bool zd, .slice Bd md dd]), (g4, [.bool se, .slice Ae ne ce, .bool ze, .slice Be me de, .bool sf, .slice Af nf cf, .bool zf, .slice Bf mf df, .bool sg, .slice Ag ng cg, .bool zg, .slice Bg mg dg, .bool sh, .slice Ah nh ch, .bool zh, .slice Bh mh dh])] wc.heap.size av k (rowV (xa * xe + xb * xg) (xa * xf + xb * xh) (xc * xe + xd * xg) (xc * xf + xd * xh)) wr) (fun _ i _ => 4 - (intOf i).toNat)
    case atStart => exact ⟨0, Nat.zero_le _, rfl, Mrow.start KC _⟩
    case round =>
      obtain ⟨k, hk, rfl, KR⟩ := hrel
      clear KC
      match k, hk with
      | 0, _ =>
        obtain ⟨rp0, rp1, rp2, rp3, rp4, rp5, rp6, rp7, rp8, rp9, rp10, rp11, rp12, rp13, rp14, rp15⟩ := (KR.1.blk (g := g3) (vs := [.bool sa, .slice Aa na ca, .bool za, .slice Ba ma da, .bool sb, .slice Ab nb cb, .bool zb, .slice Bb mb db, .bool sc, .slice Ac nc cc, .bool zc, .slice Bc mc dc, .bool sd, .slice Ad nd cd, .bool zd, .slice Bd md dd]) (List.mem_of_getElem? (i := 0) rfl)).c16; obtain ⟨rq0, rq1, rq2, rq3, rq4, rq5, rq6, rq7, rq8, rq9, rq10, rq11, rq12, rq13, rq14, rq15⟩ := (KR.1.blk (g := g4) (vs := [.bool se, .slice Ae ne ce, .bool ze, .slice Be me de, .bool sf, .slice Af nf cf, .bool zf, .slice Bf mf df, .bool sg, .slice Ag ng cg, .bool zg, .slice Bg mg dg, .bool sh, .slice Ah nh ch, .bool zh, .slice Bh mh dh]) (List.mem_of_getElem? (i := 1) rfl)).c16
        have hw0 : IntKind.i64.wrap (0 + 1) = 1 := (by decide); have hw1 : IntKind.i64.wrap 1 = 1 := (by decide); have hw2 : IntKind.i64.wrap (0 + 2) = 2 := (by decide); have hw3 : IntKind.i64.wrap 2 = 2 := (by decide)
        go_upto_region 7 with (fail)
        go_region_held3 (fun w' => w'.cell? ⟨g3, 0, none⟩ = some (.bool sa) ∧ w'.cell? ⟨g3, 1, none⟩ = some (.slice Aa na ca) ∧ w'.cell? ⟨g3, 2, none⟩ = some (.bool za) ∧ w'.cell? ⟨g3, 3, none⟩ = some (.slice Ba ma da) ∧ w'.cell? ⟨g3, 4, none⟩ = some (.bool sb) ∧ w'.cell? ⟨g3, 5, none⟩ = some (.slice Ab nb cb) ∧ w'.cell? ⟨g3, 6, none⟩ = some (.bool zb) ∧ w'.cell? ⟨g3, 7, none⟩ = some (.slice Bb mb db) ∧ w'.cell? ⟨g4, 0, none⟩ = some (.bool se) ∧ w'.cell? ⟨g4, 1, none⟩ = some (.slice Ae ne ce) ∧ w'.cell? ⟨g4, 2, none⟩ = some (.bool ze) ∧ w'.cell? ⟨g4, 3, none⟩ = some (.slice Be me de) ∧ w'.cell? ⟨g4, 8, none⟩ = some (.bool sg) ∧ w'.cell? ⟨g4, 9, none⟩ = some (.slice Ag ng cg) ∧ w'.cell? ⟨g4, 10, none⟩ = some (.bool zg) ∧ w'.cell? ⟨g4, 11, none⟩ = some (.slice Bg mg dg))
          (go_keep)
          (first
            | (go_at_call 33; apply Calls.withMr (w0 := w); (case K => (repeat (first | (with_reducible exact KR) | (with_reducible apply Mrow.drewN) | (with_reducible apply Mrow.drew)))); intro KX; (refine (ray_pair_any sa za Aa Ba na ca ma da xa se ze Ae Be ne ce me de xe sb zb Ab Bb nb cb mb db xb sg zg Ag Bg ng cg mg dg xg 500 _ (Oa.out.next KX.1.1).ints.1 (Oa.out.next KX.1.1).ints.2.1 (Ya.out) (Oe.out.next KX.1.1).ints.1 (Oe.out.next KX.1.1).ints.2.1 (Ye.out) (Ob.out.next KX.1.1).ints.1 (Ob.out.next KX.1.1).ints.2.1 (Yb.out) (Og.out.next KX.1.1).ints.1 (Og.out.next KX.1.1).ints.2.1 (Yg.out) (by decide)).mono ?_); rintro e1 w1 ⟨sr1, Ar1, nr1, cr1, zr1, Br1, mr1, dr1, rfl, I1, J1, hb1⟩; have K1 := KX.next hb1; have E1 : FrE.at_ w1 ((sr1, Ar1, nr1, cr1), (zr1, Br1, mr1, dr1), (xa * xe + xb * xg)) := ⟨I1, J1⟩; clear KX hb1; obtain ⟨tp0, tp1, tp2, tp3, tp4, tp5, tp6, tp7, tp8, tp9, tp10, tp11, tp12, tp13, tp14, tp15⟩ := (K1.1.blk (g := g3) (vs := [.bool sa, .slice Aa na ca, .bool za, .slice Ba ma da, .bool sb, .slice Ab nb cb, .bool zb, .slice Bb mb db, .bool sc, .slice Ac nc cc, .bool zc, .slice Bc mc dc, .bool sd, .slice Ad nd cd, .bool zd, .slice Bd md dd]) (List.mem_of_getElem? (i := 0) rfl)).c16; obtain ⟨tq0, tq1, tq2, tq3, tq4, tq5, tq6, tq7, tq8, tq9, tq10, tq11, tq12, tq13, tq14, tq15⟩ := (K1.1.blk (g := g4) (vs := [.bool se, .slice Ae ne ce, .bool ze, .slice Be me de, .bool sf, .slice Af nf cf, .bool zf, .slice Bf mf df, .bool sg, .slice Ag ng cg, .bool zg, .slice Bg mg dg, .bool sh, .slice Ah nh ch, .bool zh, .slice Bh mh dh]) (List.mem_of_getElem? (i := 1) rfl)).c16)
            | (refine step_row (by rfl) _ _ (by rfl) ((sr1, Ar1, nr1, cr1), (zr1, Br1, mr1, dr1), (xa * xe + xb * xg)) w1.heap.size 1 (K1.next ((Below.refl _ _).alloc (Nat.le_refl _) _)) (vs_new w1 _ _) (at_alloc E1 _) rfl (by decide) (by rfl) (by rfl) ?_; intro g6 cap6 w6 K6; obtain ⟨yp0, yp1, yp2, yp3, yp4, yp5, yp6, yp7, yp8, yp9, yp10, yp11, yp12, yp13, yp14, yp15⟩ := (K6.1.blk (g := g3) (vs := [.bool sa, .slice Aa na ca, .bool za, .slice Ba ma da, .bool sb, .slice Ab nb cb, .bool zb, .slice Bb mb db, .bool sc, .slice Ac nc cc, .bool zc, .slice Bc mc dc, .bool sd, .slice Ad nd cd, .bool zd, .slice Bd md dd]) (List.mem_of_getElem? (i := 0) rfl)).c16; obtain ⟨yq0, yq1, yq2, yq3, yq4, yq5, yq6, yq7, yq8, yq9, yq10, yq11, yq12, yq13, yq14, yq15⟩ := (K6.1.blk (g := g4) (vs := [.bool se, .slice Ae ne ce, .bool ze, .slice Be me de, .bool sf, .slice Af nf cf, .bool zf, .slice Bf mf df, .bool sg, .slice Ag ng cg, .bool zg, .slice Bg mg dg, .bool sh, .slice Ah nh ch, .bool zh, .slice Bh mh dh]) (List.mem_of_getElem? (i := 1) rfl)).c16)
            | fail)
        all_goals go_wp2_with fail
        go_roundw
        case rel => exact ⟨1, by decide, rfl, K6⟩
        case measure => simp [intOf]
      | 1, _ =>
        obtain ⟨rp0, rp1, rp2, rp3, rp4, rp5, rp6, rp7, rp8, rp9, rp10, rp11, rp12, rp13, rp14, rp15⟩ := (KR.1.blk (g := g3) (vs := [.bool sa, .slice Aa na ca, .bool za, .slice Ba ma da, .bool sb, .slice Ab nb cb, .bool zb, .slice Bb mb db, .bool sc, .slice Ac nc cc, .bool zc, .slice Bc mc dc, .bool sd, .slice Ad nd cd, .bool zd, .slice Bd md dd]) (List.mem_of_getElem? (i := 0) rfl)).c16; obtain ⟨rq0, rq1, rq2, rq3, rq4, rq5, rq6, rq7, rq8, rq9, rq10, rq11, rq12, rq13, rq14, rq15⟩ := (KR.1.blk (g := g4) (vs := [.bool se, .slice Ae ne ce, .bool ze, .slice Be me de, .bool sf, .slice Af nf cf, .bool zf, .slice Bf mf df, .bool sg, .slice Ag ng cg, .bool zg, .slice Bg mg dg, .bool sh, .slice Ah nh ch, .bool zh, .slice Bh mh dh]) (List.mem_of_getElem? (i := 1) rfl)).c16
        have hw0 : IntKind.i64.wrap (0 + 1) = 1 := (by decide); have hw1 : IntKind.i64.wrap 1 = 1 := (by decide); have hw2 : IntKind.i64.wrap (1 + 2) = 3 := (by decide); have hw3 : IntKind.i64.wrap 3 = 3 := (by decide)
        go_upto_region 7 with (fail)
        go_region_held3 (fun w' => w'.cell? ⟨g3, 0, none⟩ = some (.bool sa) ∧ w'.cell? ⟨g3, 1, none⟩ = some (.slice Aa na ca) ∧ w'.cell? ⟨g3, 2, none⟩ = some (.bool za) ∧ w'.cell? ⟨g3, 3, none⟩ = some (.slice Ba ma da) ∧ w'.cell? ⟨g3, 4, none⟩ = some (.bool sb) ∧ w'.cell? ⟨g3, 5, none⟩ = some (.slice Ab nb cb) ∧ w'.cell? ⟨g3, 6, none⟩ = some (.bool zb) ∧ w'.cell? ⟨g3, 7, none⟩ = some (.slice Bb mb db) ∧ w'.cell? ⟨g4, 4, none⟩ = some (.bool sf) ∧ w'.cell? ⟨g4, 5, none⟩ = some (.slice Af nf cf) ∧ w'.cell? ⟨g4, 6, none⟩ = some (.bool zf) ∧ w'.cell? ⟨g4, 7, none⟩ = some (.slice Bf mf df) ∧ w'.cell? ⟨g4, 12, none⟩ = some (.bool sh) ∧ w'.cell? ⟨g4, 13, none⟩ = some (.slice Ah nh ch) ∧ w'.cell? ⟨g4, 14, none⟩ = some (.bool zh) ∧ w'.cell? ⟨g4, 15, none⟩ = some (.slice Bh mh dh))
          (go_keep)
          (first
            | (go_at_call 33; apply Calls.withMr (w0 := w); (case K => (repeat (first | (with_reducible exact KR) | (with_reducible apply Mrow.drewN) | (with_reducible apply Mrow.drew)))); intro KX; (refine (ray_pair_any sa za Aa Ba na ca ma da xa sf zf Af Bf nf cf mf df xf sb zb Ab Bb nb cb mb db xb sh zh Ah Bh nh ch mh dh xh 500 _ (Oa.out.next KX.1.1).ints.1 (Oa.out.next KX.1.1).ints.2.1 (Ya.out) (Of.out.next KX.1.1).ints.1 (Of.out.next KX.1.1).ints.2.1 (Yf.out) (Ob.out.next KX.1.1).ints.1 (Ob.out.next KX.1.1).ints.2.1 (Yb.out) (Oh.out.next KX.1.1).ints.1 (Oh.out.next KX.1.1).ints.2.1 (Yh.out) (by decide)).mono ?_); rintro e1 w1 ⟨sr1, Ar1, nr1, cr1, zr1, Br1, mr1, dr1, rfl, I1, J1, hb1⟩; have K1 := KX.next hb1; have E1 : FrE.at_ w1 ((sr1, Ar1, nr1, cr1), (zr1, Br1, mr1, dr1), (xa * xf + xb * xh)) := ⟨I1, J1⟩; clear KX hb1; obtain ⟨tp0, tp1, tp2, tp3, tp4, tp5, tp6, tp7, tp8, tp9, tp10, tp11, tp12, tp13, tp14, tp15⟩ := (K1.1.blk (g := g3) (vs := [.bool sa, .slice Aa na ca, .bool za, .slice Ba ma da, .bool sb, .slice Ab nb cb, .bool zb, .slice Bb mb db, .bool sc, .slice Ac nc cc, .bool zc, .slice Bc mc dc, .bool sd, .slice Ad nd cd, .bool zd, .slice Bd md dd]) (List.mem_of_getElem? (i := 0) rfl)).c16; obtain ⟨tq0, tq1, tq2, tq3, tq4, tq5, tq6, tq7, tq8, tq9, tq10, tq11, tq12, tq13, tq14, tq15⟩ := (K1.1.blk (g := g4) (vs := [.bool se, .slice Ae ne ce, .bool ze, .slice Be me de, .bool sf, .slice Af nf cf, .bool zf, .slice Bf mf df, .bool sg, .slice Ag ng cg, .bool zg, .slice Bg mg dg, .bool sh, .slice Ah nh ch, .bool zh, .slice Bh mh dh]) (List.mem_of_getElem? (i := 1) rfl)).c16)
            | (refine step_row (by rfl) _ _ (by rfl) ((sr1, Ar1, nr1, cr1), (zr1, Br1, mr1, dr1), (xa * xf + xb * xh)) w1.heap.size 1 (K1.next ((Below.refl _ _).alloc (Nat.le_refl _) _)) (vs_new w1 _ _) (at_alloc E1 _) rfl (by decide) (by rfl) (by rfl) ?_; intro g6 cap6 w6 K6; obtain ⟨yp0, yp1, yp2, yp3, yp4, yp5, yp6, yp7, yp8, yp9, yp10, yp11, yp12, yp13, yp14, yp15⟩ := (K6.1.blk (g := g3) (vs := [.bool sa, .slice Aa na ca, .bool za, .slice Ba ma da, .bool sb, .slice Ab nb cb, .bool zb, .slice Bb mb db, .bool sc, .slice Ac nc cc, .bool zc, .slice Bc mc dc, .bool sd, .slice Ad nd cd, .bool zd, .slice Bd md dd]) (List.mem_of_getElem? (i := 0) rfl)).c16; obtain ⟨yq0, yq1, yq2, yq3, yq4, yq5, yq6, yq7, yq8, yq9, yq10, yq11, yq12, yq13, yq14, yq15⟩ := (K6.1.blk (g := g4) (vs := [.bool se, .slice Ae ne ce, .bool ze, .slice Be me de, .bool sf, .slice Af nf cf, .bool zf, .slice Bf mf df, .bool sg, .slice Ag ng cg, .bool zg, .slice Bg mg dg, .bool sh, .slice Ah nh ch, .bool zh, .slice Bh mh dh]) (List.mem_of_getElem? (i := 1) rfl)).c16)
            | fail)
        all_goals go_wp2_with fail
        go_roundw
        case rel => exact ⟨2, by decide, rfl, K6⟩
        case measure => simp [intOf]
      | 2, _ =>
        obtain ⟨rp0, rp1, rp2, rp3, rp4, rp5, rp6, rp7, rp8, rp9, rp10, rp11, rp12, rp13, rp14, rp15⟩ := (KR.1.blk (g := g3) (vs := [.bool sa, .slice Aa na ca, .bool za, .slice Ba ma da, .bool sb, .slice Ab nb cb, .bool zb, .slice Bb mb db, .bool sc, .slice Ac nc cc, .bool zc, .slice Bc mc dc, .bool sd, .slice Ad nd cd, .bool zd, .slice Bd md dd]) (List.mem_of_getElem? (i := 0) rfl)).c16; obtain ⟨rq0, rq1, rq2, rq3, rq4, rq5, rq6, rq7, rq8, rq9, rq10, rq11, rq12, rq13, rq14, rq15⟩ := (KR.1.blk (g := g4) (vs := [.bool se, .slice Ae ne ce, .bool ze, .slice Be me de, .bool sf, .slice Af nf cf, .bool zf, .slice Bf mf df, .bool sg, .slice Ag ng cg, .bool zg, .slice Bg mg dg, .bool sh, .slice Ah nh ch, .bool zh, .slice Bh mh dh]) (List.mem_of_getElem? (i := 1) rfl)).c16
        have hw0 : IntKind.i64.wrap (2 + 1) = 3 := (by decide); have hw1 : IntKind.i64.wrap 3 = 3 := (by decide); have hw2 : IntKind.i64.wrap (0 + 2) = 2 := (by decide); have hw3 : IntKind.i64.wrap 2 = 2 := (by decide)
        go_upto_region 7 with (fail)
        go_region_held3 (fun w' => w'.cell? ⟨g3, 8, none⟩ = some (.bool sc) ∧ w'.cell? ⟨g3, 9, none⟩ = some (.slice Ac nc cc) ∧ w'.cell? ⟨g3, 10, none⟩ = some (.bool zc) ∧ w'.cell? ⟨g3, 11, none⟩ = some (.slice Bc mc dc) ∧ w'.cell? ⟨g3, 12, none⟩ = some (.bool sd) ∧ w'.cell? ⟨g3, 13, none⟩ = some (.slice Ad nd cd) ∧ w'.cell? ⟨g3, 14, none⟩ = some (.bool zd) ∧ w'.cell? ⟨g3, 15, none⟩ = some (.slice Bd md dd) ∧ w'.cell? ⟨g4, 0, none⟩ = some (.bool se) ∧ w'.cell? ⟨g4, 1, none⟩ = some (.slice Ae ne ce) ∧ w'.cell? ⟨g4, 2, none⟩ = some (.bool ze) ∧ w'.cell? ⟨g4, 3, none⟩ = some (.slice Be me de) ∧ w'.cell? ⟨g4, 8, none⟩ = some (.bool sg) ∧ w'.cell? ⟨g4, 9, none⟩ = some (.slice Ag ng cg) ∧ w'.cell? ⟨g4, 10, none⟩ = some (.bool zg) ∧ w'.cell? ⟨g4, 11, none⟩ = some (.slice Bg mg dg))
          (go_keep)
          (first
            | (go_at_call 33; apply Calls.withMr (w0 := w); (case K => (repeat (first | (with_reducible exact KR) | (with_reducible apply Mrow.drewN) | (with_reducible apply Mrow.drew)))); intro KX; (refine (ray_pair_any sc zc Ac Bc nc cc mc dc xc se ze Ae Be ne ce me de xe sd zd Ad Bd nd cd md dd xd sg zg Ag Bg ng cg mg dg xg 500 _ (Oc.out.next KX.1.1).ints.1 (Oc.out.next KX.1.1).ints.2.1 (Yc.out) (Oe.out.next KX.1.1).ints.1 (Oe.out.next KX.1.1).ints.2.1 (Ye.out) (Od.out.next KX.1.1).ints.1 (Od.out.next KX.1.1).ints.2.1 (Yd.out) (Og.out.next KX.1.1).ints.1 (Og.out.next KX.1.1).ints.2.1 (Yg.out) (by decide)).mono ?_); rintro e1 w1 ⟨sr1, Ar1, nr1, cr1, zr1, Br1, mr1, dr1, rfl, I1, J1, hb1⟩; have K1 := KX.next hb1; have E1 : FrE.at_ w1 ((sr1, Ar1, nr1, cr1), (zr1, Br1, mr1, dr1), (xc * xe + xd * xg)) := ⟨I1, J1⟩; clear KX hb1; obtain ⟨tp0, tp1, tp2, tp3, tp4, tp5, tp6, tp7, tp8, tp9, tp10, tp11, tp12, tp13, tp14, tp15⟩ := (K1.1.blk (g := g3) (vs := [.bool sa, .slice Aa na ca, .bool za, .slice Ba ma da, .bool sb, .slice Ab nb cb, .bool zb, .slice Bb mb db, .bool sc, .slice Ac nc cc, .bool zc, .slice Bc mc dc, .bool sd, .slice Ad nd cd, .bool zd, .slice Bd md dd]) (List.mem_of_getElem? (i := 0) rfl)).c16; obtain ⟨tq0, tq1, tq2, tq3, tq4, tq5, tq6, tq7, tq8, tq9, tq10, tq11, tq12, tq13, tq14, tq15⟩ := (K1.1.blk (g := g4) (vs := [.bool se, .slice Ae ne ce, .bool ze, .slice Be me de, .bool sf, .slice Af nf cf, .bool zf, .slice Bf mf df, .bool sg, .slice Ag ng cg, .bool zg, .slice Bg mg dg, .bool sh, .slice Ah nh ch, .bool zh, .slice Bh mh dh]) (List.mem_of_getElem? (i := 1) rfl)).c16)
            | (refine step_row (by rfl) _ _ (by rfl) ((sr1, Ar1, nr1, cr1), (zr1, Br1, mr1, dr1), (xc * xe + xd * xg)) w1.heap.size 1 (K1.next ((Below.refl _ _).alloc (Nat.le_refl _) _)) (vs_new w1 _ _) (at_alloc E1 _) rfl (by decide) (by rfl) (by rfl) ?_; intro g6 cap6 w6 K6; obtain ⟨yp0, yp1, yp2, yp3, yp4, yp5, yp6, yp7, yp8, yp9, yp10, yp11, yp12, yp13, yp14, yp15⟩ := (K6.1.blk (g := g3) (vs := [.bool sa, .slice Aa na ca, .bool za, .slice Ba ma da, .bool sb, .slice Ab nb cb, .bool zb, .slice Bb mb db, .bool sc, .slice Ac nc cc, .bool zc, .slice Bc mc dc, .bool sd, .slice Ad nd cd, .bool zd, .slice Bd md dd]) (List.mem_of_getElem? (i := 0) rfl)).c16; obtain ⟨yq0, yq1, yq2, yq3, yq4, yq5, yq6, yq7, yq8, yq9, yq10, yq11, yq12, yq13, yq14, yq15⟩ := (K6.1.blk (g := g4) (vs := [.bool se, .slice Ae ne ce, .bool ze, .slice Be me de, .bool sf, .slice Af nf cf, .bool zf, .slice Bf mf df, .bool sg, .slice Ag ng cg, .bool zg, .slice Bg mg dg, .bool sh, .slice Ah nh ch, .bool zh, .slice Bh mh dh]) (List.mem_of_getElem? (i := 1) rfl)).c16)
            | fail)
        all_goals go_wp2_with fail
        go_roundw
        case rel => exact ⟨3, by decide, rfl, K6⟩
        case measure => simp [intOf]
      | 3, _ =>
        obtain ⟨rp0, rp1, rp2, rp3, rp4, rp5, rp6, rp7, rp8, rp9, rp10, rp11, rp12, rp13, rp14, rp15⟩ := (KR.1.blk (g := g3) (vs := [.bool sa, .slice Aa na ca, .bool za, .slice Ba ma da, .bool sb, .slice Ab nb cb, .bool zb, .slice Bb mb db, .bool sc, .slice Ac nc cc, .bool zc, .slice Bc mc dc, .bool sd, .slice Ad nd cd, .bool zd, .slice Bd md dd]) (List.mem_of_getElem? (i := 0) rfl)).c16; obtain ⟨rq0, rq1, rq2, rq3, rq4, rq5, rq6, rq7, rq8, rq9, rq10, rq11, rq12, rq13, rq14, rq15⟩ := (KR.1.blk (g := g4) (vs := [.bool se, .slice Ae ne ce, .bool ze, .slice Be me de, .bool sf, .slice Af nf cf, .bool zf, .slice Bf mf df, .bool sg, .slice Ag ng cg, .bool zg, .slice Bg mg dg, .bool sh, .slice Ah nh ch, .bool zh, .slice Bh mh dh]) (List.mem_of_getElem? (i := 1) rfl)).c16
        have hw0 : IntKind.i64.wrap (2 + 1) = 3 := (by decide); have hw1 : IntKind.i64.wrap 3 = 3 := (by decide); have hw2 : IntKind.i64.wrap (1 + 2) = 3 := (by decide); have hw3 : IntKind.i64.wrap 3 = 3 := (by decide)
        go_upto_region 7 with (fail)
        go_region_held3 (fun w' => w'.cell? ⟨g3, 8, none⟩ = some (.bool sc) ∧ w'.cell? ⟨g3, 9, none⟩ = some (.slice Ac nc cc) ∧ w'.cell? ⟨g3, 10, none⟩ = some (.bool zc) ∧ w'.cell? ⟨g3, 11, none⟩ = some (.slice Bc mc dc) ∧ w'.cell? ⟨g3, 12, none⟩ = some (.bool sd) ∧ w'.cell? ⟨g3, 13, none⟩ = some (.slice Ad nd cd) ∧ w'.cell? ⟨g3, 14, none⟩ = some (.bool zd) ∧ w'.cell? ⟨g3, 15, none⟩ = some (.slice Bd md dd) ∧ w'.cell? ⟨g4, 4, none⟩ = some (.bool sf) ∧ w'.cell? ⟨g4, 5, none⟩ = some (.slice Af nf cf) ∧ w'.cell? ⟨g4, 6, none⟩ = some (.bool zf) ∧ w'.cell? ⟨g4, 7, none⟩ = some (.slice Bf mf df) ∧ w'.cell? ⟨g4, 12, none⟩ = some (.bool sh) ∧ w'.cell? ⟨g4, 13, none⟩ = some (.slice Ah nh ch) ∧ w'.cell? ⟨g4, 14, none⟩ = some (.bool zh) ∧ w'.cell? ⟨g4, 15, none⟩ = some (.slice Bh mh dh))
          (go_keep)
          (first
            | (go_at_call 33; apply Calls.withMr (w0 := w); (case K => (repeat (first | (with_reducible exact KR) | (with_reducible apply Mrow.drewN) | (with_reducible apply Mrow.drew)))); intro KX; (refine (ray_pair_any sc zc Ac Bc nc cc mc dc xc sf zf Af Bf nf cf mf df xf sd zd Ad Bd nd cd md dd xd sh zh Ah Bh nh ch mh dh xh 500 _ (Oc.out.next KX.1.1).ints.1 (Oc.out.next KX.1.1).ints.2.1 (Yc.out) (Of.out.next KX.1.1).ints.1 (Of.out.next KX.1.1).ints.2.1 (Yf.out) (Od.out.next KX.1.1).ints.1 (Od.out.next KX.1.1).ints.2.1 (Yd.out) (Oh.out.next KX.1.1).ints.1 (Oh.out.next KX.1.1).ints.2.1 (Yh.out) (by decide)).mono ?_); rintro e1 w1 ⟨sr1, Ar1, nr1, cr1, zr1, Br1, mr1, dr1, rfl, I1, J1, hb1⟩; have K1 := KX.next hb1; have E1 : FrE.at_ w1 ((sr1, Ar1, nr1, cr1), (zr1, Br1, mr1, dr1), (xc * xf + xd * xh)) := ⟨I1, J1⟩; clear KX hb1; obtain ⟨tp0, tp1, tp2, tp3, tp4, tp5, tp6, tp7, tp8, tp9, tp10, tp11, tp12, tp13, tp14, tp15⟩ := (K1.1.blk (g := g3) (vs := [.bool sa, .slice Aa na ca, .bool za, .slice Ba ma da, .bool sb, .slice Ab nb cb, .bool zb, .slice Bb mb db, .bool sc, .slice Ac nc cc, .bool zc, .slice Bc mc dc, .bool sd, .slice Ad nd cd, .bool zd, .slice Bd md dd]) (List.mem_of_getElem? (i := 0) rfl)).c16; obtain ⟨tq0, tq1, tq2, tq3, tq4, tq5, tq6, tq7, tq8, tq9, tq10, tq11, tq12, tq13, tq14, tq15⟩ := (K1.1.blk (g := g4) (vs := [.bool se, .slice Ae ne ce, .bool ze, .slice Be me de, .bool sf, .slice Af nf cf, .bool zf, .slice Bf mf df, .bool sg, .slice Ag ng cg, .bool zg, .slice Bg mg dg, .bool sh, .slice Ah nh ch, .bool zh, .slice Bh mh dh]) (List.mem_of_getElem? (i := 1) rfl)).c16)
            | (refine step_row (by rfl) _ _ (by rfl) ((sr1, Ar1, nr1, cr1), (zr1, Br1, mr1, dr1), (xc * xf + xd * xh)) w1.heap.size 1 (K1.next ((Below.refl _ _).alloc (Nat.le_refl _) _)) (vs_new w1 _ _) (at_alloc E1 _) rfl (by decide) (by rfl) (by rfl) ?_; intro g6 cap6 w6 K6; obtain ⟨yp0, yp1, yp2, yp3, yp4, yp5, yp6, yp7, yp8, yp9, yp10, yp11, yp12, yp13, yp14, yp15⟩ := (K6.1.blk (g := g3) (vs := [.bool sa, .slice Aa na ca, .bool za, .slice Ba ma da, .bool sb, .slice Ab nb cb, .bool zb, .slice Bb mb db, .bool sc, .slice Ac nc cc, .bool zc, .slice Bc mc dc, .bool sd, .slice Ad nd cd, .bool zd, .slice Bd md dd]) (List.mem_of_getElem? (i := 0) rfl)).c16; obtain ⟨yq0, yq1, yq2, yq3, yq4, yq5, yq6, yq7, yq8, yq9, yq10, yq11, yq12, yq13, yq14, yq15⟩ := (K6.1.blk (g := g4) (vs := [.bool se, .slice Ae ne ce, .bool ze, .slice Be me de, .bool sf, .slice Af nf cf, .bool zf, .slice Bf mf df, .bool sg, .slice Ag ng cg, .bool zg, .slice Bg mg dg, .bool sh, .slice Ah nh ch, .bool zh, .slice Bh mh dh]) (List.mem_of_getElem? (i := 1) rfl)).c16)
            | fail)
        all_goals go_wp2_with fail
        go_roundw
        case rel => exact ⟨4, by decide, rfl, K6⟩
        case measure => simp [intOf]
      | 4, _ =>
        obtain ⟨g, cap, rfl, HR⟩ := retL4_of KR.2.2 SR0.out SR1.out SR2.out SR3.out KR.1.1
        have HR2 := Lib.hid HR
        clear HR KR
        go_wp2_with fail
        go_ret
        exact HR2.out

set_option maxRecDepth 100000 in
set_option maxHeartbeats 6400000 in
theorem ray_mul_ok (sa : Bool) (Aa : Option Addr) (na ca : Nat) (la : List Nat) (za : Bool) (Ba : Option Addr) (ma da : Nat) (ka : List Nat) (xa : Rat) (sb : Bool) (Ab : Option Addr) (nb cb : Nat) (lb : List Nat) (zb : Bool) (Bb : Option Addr) (mb db : Nat) (kb : List Nat) (xb : Rat) (sc : Bool) (Ac : Option Addr) (nc cc : Nat) (lc : List Nat) (zc : Bool) (Bc : Option Addr) (mc dc : Nat) (kc : List Nat) (xc : Rat) (sd : Bool) (Ad : Option Addr) (nd cd : Nat) (ld : List Nat) (zd : Bool) (Bd : Option Addr) (md dd : Nat) (kd : List Nat) (xd : Rat) (se : Bool) (Ae : Option Addr) (ne ce : Nat) (le : List Nat) (ze : Bool) (Be : Option Addr) (me de : Nat) (ke : List Nat) (xe : Rat) (sf : Bool) (Af : Option Addr) (nf cf : Nat) (lf : List Nat) (zf : Bool) (Bf : Option Addr) (mf df : Nat) (kf : List Nat) (xf : Rat) (sg : Bool) (Ag : Option Addr) (ng cg : Nat) (lg : List Nat) (zg : Bool) (Bg : Option Addr) (mg dg : Nat) (kg : List Nat) (xg : Rat) (sh : Bool) (Ah : Option Addr) (nh ch : Nat) (lh : List Nat) (zh : Bool) (Bh : Option Addr) (mh dh : Nat) (kh : List Nat) (xh : Rat) (w : World) (oa : OkF w ((sa, Aa, na, ca, la), (za, Ba, ma, da, ka)) xa) (ya : Sz xa 500) (ob : OkF w ((sb, Ab, nb, cb, lb), (zb, Bb, mb, db, kb)) xb) (yb : Sz xb 500) (oc : OkF w ((sc, Ac, nc, cc, lc), (zc, Bc, mc, dc, kc)) xc) (yc : Sz xc 500) (od : OkF w ((sd, Ad, nd, cd, ld), (zd, Bd, md, dd, kd)) xd) (yd : Sz xd 500) (oe : OkF w ((se, Ae, ne, ce, le), (ze, Be, me, de, ke)) xe) (ye : Sz xe 500) (of : OkF w ((sf, Af, nf, cf, lf), (zf, Bf, mf, df, kf)) xf) (yf : Sz xf 500) (og : OkF w ((sg, Ag, ng, cg, lg), (zg, Bg, mg, dg, kg)) xg) (yg : Sz xg 500) (oh : OkF w ((sh, Ah, nh, ch, lh), (zh, Bh, mh, dh, kh)) xh) (yh : Sz xh 500) (hd1 : xa * xd - xb * xc = 1) (hd2 : xe * xh - xf * xg = 1) :
    Calls Try.prog 8 #[.agg #[.bool sa, .slice Aa na ca, .bool za, .slice Ba ma da, .bool sb, .slice Ab nb cb, .bool zb, .slice Bb mb db, .bool sc, .slice Ac nc cc, .bool zc, .slice Bc mc dc, .bool sd, .slice Ad nd cd, .bool zd, .slice Bd md dd], .agg #[.bool se, .slice Ae ne ce, .bool ze, .slice Be me de, .bool sf, .slice Af nf cf, .bool zf, .slice Bf mf df, .bool sg, .slice Ag ng cg, .bool zg, .slice Bg mg dg, .bool sh, .slice Ah nh ch, .bool zh, .slice Bh mh dh]] w (RetMo w (xa * xe + xb * xg) (xa * xf + xb * xh) (xc * xe + xd * xg) (xc * xf + xd * xh)) := by
  have K0 := ((((Mm.nil w).var (g := w.heap.size) rfl [.bool sa, .slice Aa na ca, .bool za, .slice Ba ma da, .bool sb, .slice Ab nb cb, .bool zb, .slice Bb mb db, .bool sc, .slice Ac nc cc, .bool zc, .slice Bc mc dc, .bool sd, .slice Ad nd cd, .bool zd, .slice Bd md dd] 28).var (g := w.heap.size + 1) (by simp) [.bool se, .slice Ae ne ce, .bool ze, .slice Be me de, .bool sf, .slice Af nf cf, .bool zf, .slice Bf mf df, .bool sg, .slice Ag ng cg, .bool zg, .slice Bg mg dg, .bool sh, .slice Ah nh ch, .bool zh, .slice Bh mh dh] 28).var (g := w.heap.size + 1 + 1) (by simp) [.bool false, .slice none 0 0, .bool false, .slice none 0 0, .bool false, .slice none 0 0, .bool false, .slice none 0 0, .bool false, .slice none 0 0, .bool false, .slice none 0 0, .bool false, .slice none 0 0, .bool false, .slice none 0 0] 28).var (g := w.heap.size + 1 + 1 + 1) (by simp) [.int .i64 0] 68
  have D1 := Lib.hid hd1
  have D2 := Lib.hid hd2
  replace oa := oa.next K0.1
  replace ob := ob.next K0.1
  replace oc := oc.next K0.1
  replace od := od.next K0.1
  replace oe := oe.next K0.1
  replace of := of.next K0.1
  replace og := og.next K0.1
  replace oh := oh.next K0.1
  have Ya := Lib.hid ya
  have Yb := Lib.hid yb
  have Yc := Lib.hid yc
  have Yd := Lib.hid yd
  have Ye := Lib.hid ye
  have Yf := Lib.hid yf
  have Yg := Lib.hid yg
  have Yh := Lib.hid yh
  clear hd1 hd2 ya yb yc yd ye yf yg yh
  have g01 : ¬ w.heap.size = w.heap.size + 1 := by omega
  have g02 : ¬ w.heap.size = w.heap.size + 1 + 1 := by omega
  have g03 : ¬ w.heap.size = w.heap.size + 1 + 1 + 1 := by omega
  have g10 : ¬ w.heap.size + 1 = w.heap.size := by omega
  have g12 : ¬ w.heap.size + 1 = w.heap.size + 1 + 1 := by omega
  have g13 : ¬ w.heap.size + 1 = w.heap.size + 1 + 1 + 1 := by omega
  have g20 : ¬ w.heap.size + 1 + 1 = w.heap.size := by omega
  have g21 : ¬ w.heap.size + 1 + 1 = w.heap.size + 1 := by omega
  have g23 : ¬ w.heap.size + 1 + 1 = w.heap.size + 1 + 1 + 1 := by omega
  have g30 : ¬ w.heap.size + 1 + 1 + 1 = w.heap.size := by omega
  have g31 : ¬ w.heap.size + 1 + 1 + 1 = w.heap.size + 1 := by omega
  have g32 : ¬ w.heap.size + 1 + 1 + 1 = w.heap.size + 1 + 1 := by omega
  go_enter Try.func8, Try.ntmps8
  go_upto_region 2 with (fail)
  generalize (((w.alloc (.cells #[.bool sa, .slice Aa na ca, .bool za, .slice Ba ma da, .bool sb, .slice Ab nb cb, .bool zb, .slice Bb mb db, .bool sc, .slice Ac nc cc, .bool zc, .slice Bc mc dc, .bool sd, .slice Ad nd cd, .bool zd, .slice Bd md dd] 28)).alloc (.cells #[.bool se, .slice Ae ne ce, .bool ze, .slice Be me de, .bool sf, .slice Af nf cf, .bool zf, .slice Bf mf df, .bool sg, .slice Ag ng cg, .bool zg, .slice Bg mg dg, .bool sh, .slice Ah nh ch, .bool zh, .slice Bh mh dh] 28)).alloc (.cells #[.bool false, .slice none 0 0, .bool false, .slice none 0 0, .bool false, .slice none 0 0, .bool false, .slice none 0 0, .bool false, .slice none 0 0, .bool false, .slice none 0 0, .bool false, .slice none 0 0, .bool false, .slice none 0 0] 28)).alloc (.cells #[.int .i64 0] 68) = w0 at K0 oa ob oc od oe of og oh ⊢
  obtain ⟨p0, p1, p2, p3, p4, p5, p6, p7, p8, p9, p10, p11, p12, p13, p14, p15⟩ := (K0.blk (g := w.heap.size) (vs := [.bool sa, .slice Aa na ca, .bool za, .slice Ba ma da, .bool sb, .slice Ab nb cb, .bool zb, .slice Bb mb db, .bool sc, .slice Ac nc cc, .bool zc, .slice Bc mc dc, .bool sd, .slice Ad nd cd, .bool zd, .slice Bd md dd]) (by simp)).c16
  have B0 := K0.blk (g := w.heap.size + 1 + 1 + 1) (vs := [.int .i64 0]) (by simp)
  go_wp2_with fail
  refine (keeper_matrix_ok (w.heap.size + 1 + 1 + 1) sa Aa na ca la za Ba ma da ka xa sb Ab nb cb lb zb Bb mb db kb xb sc Ac nc cc lc zc Bc mc dc kc xc sd Ad nd cd ld zd Bd md dd kd xd _ oa ob oc od D1.out B0.1 (B0.2 0 _ rfl).1 (B0.2 0 _ rfl).2).mono ?_
  rintro e1 w1 ⟨rfl, hb⟩
  have K1 := K0.next hb
  replace oa := oa.next hb
  replace ob := ob.next hb
  replace oc := oc.next hb
  replace od := od.next hb
  replace oe := oe.next hb
  replace of := of.next hb
  replace og := og.next hb
  replace oh := oh.next hb
  clear K0 hb B0 p0 p1 p2 p3 p4 p5 p6 p7 p8 p9 p10 p11 p12 p13 p14 p15
  have B1 := K1.blk (g := w.heap.size + 1 + 1 + 1) (vs := [.int .i64 0]) (by simp)
  obtain ⟨p0, p1, p2, p3, p4, p5, p6, p7, p8, p9, p10, p11, p12, p13, p14, p15⟩ := (K1.blk (g := w.heap.size + 1) (vs := [.bool se, .slice Ae ne ce, .bool ze, .slice Be me de, .bool sf, .slice Af nf cf, .bool zf, .slice Bf mf df, .bool sg, .slice Ag ng cg, .bool zg, .slice Bg mg dg, .bool sh, .slice Ah nh ch, .bool zh, .slice Bh mh dh]) (by simp)).c16
  go_wp2_with fail
  refine (keeper_matrix_ok (w.heap.size + 1 + 1 + 1) se Ae ne ce le ze Be me de ke xe sf Af nf cf lf zf Bf mf df kf xf sg Ag ng cg lg zg Bg mg dg kg xg sh Ah nh ch lh zh Bh mh dh kh xh _ oe of og oh D2.out B1.1 (B1.2 0 _ rfl).1 (B1.2 0 _ rfl).2).mono ?_
  rintro e2 w2 ⟨rfl, hb⟩
  have K2 := K1.next hb
  replace oa := oa.next hb
  replace ob := ob.next hb
  replace oc := oc.next hb
  replace od := od.next hb
  replace oe := oe.next hb
  replace of := of.next hb
  replace og := og.next hb
  replace oh := oh.next hb
  clear K1 hb B1 p0 p1 p2 p3 p4 p5 p6 p7 p8 p9 p10 p11 p12 p13 p14 p15
  have B1 := K2.blk (g := w.heap.size + 1 + 1 + 1) (vs := [.int .i64 0]) (by simp)
  have B2 := K2.blk (g := w.heap.size) (vs := [.bool sa, .slice Aa na ca, .bool za, .slice Ba ma da, .bool sb, .slice Ab nb cb, .bool zb, .slice Bb mb db, .bool sc, .slice Ac nc cc, .bool zc, .slice Bc mc dc, .bool sd, .slice Ad nd cd, .bool zd, .slice Bd md dd]) (by simp)
  have B3 := K2.blk (g := w.heap.size + 1) (vs := [.bool se, .slice Ae ne ce, .bool ze, .slice Be me de, .bool sf, .slice Af nf cf, .bool zf, .slice Bf mf df, .bool sg, .slice Ag ng cg, .bool zg, .slice Bg mg dg, .bool sh, .slice Ah nh ch, .bool zh, .slice Bh mh dh]) (by simp)
  go_wp2_with fail
  refine (keeper_asMatrix_mul (w.heap.size + 1 + 1 + 1) (.pointer (some ⟨w.heap.size, 0, none⟩)) (.pointer (some ⟨w.heap.size + 1, 0, none⟩)) (xa * xe + xb * xg) (xa * xf + xb * xh) (xc * xe + xd * xg) (xc * xf + xd * xh) _ B1.1 (B1.2 0 _ rfl).1 (B1.2 0 _ rfl).2 (fun W hb => ray_mul1_ok (w.heap.size) (w.heap.size + 1) sa Aa na ca la za Ba ma da ka xa sb Ab nb cb lb zb Bb mb db kb xb sc Ac nc cc lc zc Bc mc dc kc xc sd Ad nd cd ld zd Bd md dd kd xd se Ae ne ce le ze Be me de ke xe sf Af nf cf lf zf Bf mf df kf xf sg Ag ng cg lg zg Bg mg dg kg xg sh Ah nh ch lh zh Bh mh dh kh xh W (oa.next hb) Ya.out (ob.next hb) Yb.out (oc.next hb) Yc.out (od.next hb) Yd.out (oe.next hb) Ye.out (of.next hb) Yf.out (og.next hb) Yg.out (oh.next hb) Yh.out (B2.next hb) (B3.next hb))).mono ?_
  clear B1 B2 B3
  rintro e3 w3 ⟨sr1, Ar1, nr1, cr1, lr1, zr1, Br1, mr1, dr1, kr1, sr2, Ar2, nr2, cr2, lr2, zr2, Br2, mr2, dr2, kr2, sr3, Ar3, nr3, cr3, lr3, zr3, Br3, mr3, dr3, kr3, sr4, Ar4, nr4, cr4, lr4, zr4, Br4, mr4, dr4, kr4, rfl, or1, or2, or3, or4, hb⟩
  have K3 := K2.next hb
  clear K2 hb oa ob oc od oe of og oh
  obtain ⟨f0, f1, f2, f3, f4, f5, f6, f7, f8, f9, f10, f11, f12, f13, f14, f15⟩ := (K3.blk (g := w.heap.size + 1 + 1) (vs := [.bool false, .slice none 0 0, .bool false, .slice none 0 0, .bool false, .slice none 0 0, .bool false, .slice none 0 0, .bool false, .slice none 0 0, .bool false, .slice none 0 0, .bool false, .slice none 0 0, .bool false, .slice none 0 0]) (by simp)).c16
  obtain ⟨ff0, ff1, ff2, ff3, ff4, ff5, ff6, ff7, ff8, ff9, ff10, ff11, ff12, ff13, ff14, ff15, _⟩ := (K3.blk (g := w.heap.size + 1 + 1) (vs := [.bool false, .slice none 0 0, .bool false, .slice none 0 0, .bool false, .slice none 0 0, .bool false, .slice none 0 0, .bool false, .slice none 0 0, .bool false, .slice none 0 0, .bool false, .slice none 0 0, .bool false, .slice none 0 0]) (by simp)).f16
  go_wp2_with fail
  have K9 := (((((((((K3.int or1.ints.1).int or1.ints.2.1).int or2.ints.1).int or2.ints.2.1).int or3.ints.1).int or3.ints.2.1).int or4.ints.1).int or4.ints.2.1).pick (L' := [(w.heap.size + 1 + 1, [.bool false, .slice none 0 0, .bool false, .slice none 0 0, .bool false, .slice none 0 0, .bool false, .slice none 0 0, .bool false, .slice none 0 0, .bool false, .slice none 0 0, .bool false, .slice none 0 0, .bool false, .slice none 0 0])]) (l' := [(sr1, Ar1, nr1, cr1, (xa * xe + xb * xg).num), (zr1, Br1, mr1, dr1, ((xa * xe + xb * xg).den : Int)), (sr2, Ar2, nr2, cr2, (xa * xf + xb * xh).num), (zr2, Br2, mr2, dr2, ((xa * xf + xb * xh).den : Int)), (sr3, Ar3, nr3, cr3, (xc * xe + xd * xg).num), (zr3, Br3, mr3, dr3, ((xc * xe + xd * xg).den : Int)), (sr4, Ar4, nr4, cr4, (xc * xf + xd * xh).num), (zr4, Br4, mr4, dr4, ((xc * xf + xd * xh).den : Int))]) (by simp) (by simp)).set16 (by simp) sr1 Ar1 nr1 cr1 zr1 Br1 mr1 dr1 sr2 Ar2 nr2 cr2 zr2 Br2 mr2 dr2 sr3 Ar3 nr3 cr3 zr3 Br3 mr3 dr3 sr4 Ar4 nr4 cr4 zr4 Br4 mr4 dr4
  obtain ⟨l9r1, k9r1, o9r1⟩ := okF_of (r := (xa * xe + xb * xg)) (K9.at_ (neg := sr1) (A := Ar1) (n := nr1) (c := cr1) (z := ((xa * xe + xb * xg) : Rat).num) (by repeat (first | exact List.mem_cons_self | apply List.mem_cons_of_mem))) (K9.at_ (neg := zr1) (A := Br1) (n := mr1) (c := dr1) (z := ((((xa * xe + xb * xg) : Rat).den : Nat) : Int)) (by repeat (first | exact List.mem_cons_self | apply List.mem_cons_of_mem))) or1.ints.2.2
  obtain ⟨l9r2, k9r2, o9r2⟩ := okF_of (r := (xa * xf + xb * xh)) (K9.at_ (neg := sr2) (A := Ar2) (n := nr2) (c := cr2) (z := ((xa * xf + xb * xh) : Rat).num) (by repeat (first | exact List.mem_cons_self | apply List.mem_cons_of_mem))) (K9.at_ (neg := zr2) (A := Br2) (n := mr2) (c := dr2) (z := ((((xa * xf + xb * xh) : Rat).den : Nat) : Int)) (by repeat (first | exact List.mem_cons_self | apply List.mem_cons_of_mem))) or2.ints.2.2
  obtain ⟨l9r3, k9r3, o9r3⟩ := okF_of (r := (xc * xe + xd * xg)) (K9.at_ (neg := sr3) (A := Ar3) (n := nr3) (c := cr3) (z := ((xc * xe + xd * xg) : Rat).num) (by repeat (first | exact List.mem_cons_self | apply List.mem_cons_of_mem))) (K9.at_ (neg := zr3) (A := Br3) (n := mr3) (c := dr3) (z := ((((xc * xe + xd * xg) : Rat).den : Nat) : Int)) (by repeat (first | exact List.mem_cons_self | apply List.mem_cons_of_mem))) or3.ints.2.2
  obtain ⟨l9r4, k9r4, o9r4⟩ := okF_of (r := (xc * xf + xd * xh)) (K9.at_ (neg := sr4) (A := Ar4) (n := nr4) (c := cr4) (z := ((xc * xf + xd * xh) : Rat).num) (by repeat (first | exact List.mem_cons_self | apply List.mem_cons_of_mem))) (K9.at_ (neg := zr4) (A := Br4) (n := mr4) (c := dr4) (z := ((((xc * xf + xd * xh) : Rat).den : Nat) : Int)) (by repeat (first | exact List.mem_cons_self | apply List.mem_cons_of_mem))) or4.ints.2.2
  exact bodyPost_ret (v := .tuple #[.agg #[.bool sr1, .slice Ar1 nr1 cr1, .bool zr1, .slice Br1 mr1 dr1, .bool sr2, .slice Ar2 nr2 cr2, .bool zr2, .slice Br2 mr2 dr2, .bool sr3, .slice Ar3 nr3 cr3, .bool zr3, .slice Br3 mr3 dr3, .bool sr4, .slice Ar4 nr4 cr4, .bool zr4, .slice Br4 mr4 dr4], .int .i64 0]) (by simp [results, Try.results8, go_sem, f0, f1, f2, f3, f4, f5, f6, f7, f8, f9, f10, f11, f12, f13, f14, f15]) rfl ⟨_, _, _, _, _, _, _, _, _, _, _, _, _, _, _, _, _, _, _, _, _, _, _, _, _, _, _, _, _, _, _, _, _, _, _, _, _, _, _, _, rfl, o9r1, o9r2, o9r3, o9r4, K9.1⟩
end Go.Proofs.Ytdmdaoginojalaa
