/-
  A walk's memory that tells what is owned, and words that stay.
  A beam that may be behind a matrix that may be (beam.Through).
  Beams: closures, the waist, refusals, in memory of their own.
  Beams: sizes and curves, in memory of their own, of any beam.
  The size and the curve of a beam that may be (beam.Size, Curve).
-/
import Derived.Test.YtgekmbfmfiikkaaGreatDoorBmA
import Derived.Test.YtgekmbfmfiikkaaGreatDoorOwT
import Derived.Test.YtgekmbfmfiikkaaGreatDoorKlW
import Derived.Test.YtgekmbfmfiikkaaGreatDoorOwN
import Derived.Test.YtgekmbfmfiikkaaGreatDoorLnB
import Derived.Test.YtgekmbfmfiikkaaGreatDoorOwH
import Derived.Test.YtgekmbfmfiikkaaGreatDoorRaN
import Derived.Test.YtgekmbfmfiikkaaGreatDoorAnD
set_option maxHeartbeats 6400000
set_option maxRecDepth 100000
namespace Go.Proofs.YtgekmbfmfiikkaaGreatDoor
open Go.RowKit
theorem Twl.store {w : World} {g n c : Nat} {l : List Nat} (h : Twl w g n c l) {p : Addr} {u : Value} (v : Value) (hp : w.cell? p = some u) (hu : ∀ x, u ≠ .int .u32 x) : Twl (w.setCell p v) g n c l := by
 refine ⟨h.1, h.2.1.store v hp hu, by simpa [World.setCell] using h.2.2.1, ?_⟩
 rw [World.cell?_setCell_other w p ⟨g, n, none⟩ v (by intro e; rw [e, h.2.2.2] at hp; injection hp with hp; exact hu _ hp.symm)]
 exact h.2.2.2
def KeptP (T : World → Prop) : Prop := (∀ w w', T w → Below w.heap.size w w' → T w') ∧ (∀ w p u v, T w → w.cell? p = some u → (∀ x, u ≠ .int .u32 x) → T (w.setCell p v))
theorem twl_kept (g n c : Nat) (l : List Nat) : KeptP (fun w => Twl w g n c l) := ⟨fun _ _ h hb => h.below hb, fun _ _ _ v h hp hu => h.store v hp hu⟩
theorem KeptP.and {T U : World → Prop} (h : KeptP T) (k : KeptP U) : KeptP (fun w => T w ∧ U w) :=
 ⟨fun w w' x hb => ⟨h.1 w w' x.1 hb, k.1 w w' x.2 hb⟩, fun w p u v x hp hu => ⟨h.2 w p u v x.1 hp hu, k.2 w p u v x.2 hp hu⟩⟩
def MoT (B : Nat) (w : World) (L : List (Nat × List Value)) (o : List OwnAt) (T : World → Prop) (wr : World) : Prop := Mo B w L [] o wr ∧ KeptP T ∧ T wr
section
variable {B : Nat} {w wr w' : World} {L L' : List (Nat × List Value)} {o o' : List OwnAt} {T U : World → Prop}
theorem MoT.next (h : MoT B w L o T wr) (hb : Below wr.heap.size wr w') : MoT B w L o T w' := ⟨h.1.next hb, h.2.1, h.2.1.1 _ _ h.2.2 hb⟩
theorem MoT.drew (h : MoT B w L o T wr) : MoT B w L o T wr.drew := h.next ⟨rfl, rfl, rfl, Nat.le_refl _, fun _ _ => rfl⟩
theorem MoT.drewN (h : MoT B w L o T wr) (n : Nat) : MoT B w L o T (wr.drewN n) := h.next (below_drewN (Below.refl _ _) n)
theorem MoT.var (h : MoT B w L o T wr) {g : Nat} (hg : wr.heap.size = g) (vs : List Value) (t : TypeId) : MoT B w ((g, vs) :: L) o T (wr.alloc (.cells vs.toArray t)) := ⟨h.1.var hg vs t, h.2.1, h.2.1.1 _ _ h.2.2 ((Below.refl _ _).alloc (Nat.le_refl _) _)⟩
theorem MoT.varz (h : MoT B w L o T wr) (vs : List Value) (t : TypeId) : MoT B w ((wr.heap.size, vs) :: L) o T (wr.alloc (.cells vs.toArray t)) := h.var rfl vs t
theorem MoT.calln (h : MoT B w L o T wr) (hb : Below wr.heap.size wr w') (hO : Owns wr.heap.size w' o') (hU : KeptP U) (u : U w') : MoT B w L (o' ++ o) (fun x => T x ∧ U x) w' := ⟨h.1.calln hb hO, h.2.1.and hU, h.2.1.1 _ _ h.2.2 hb, u⟩
theorem MoT.pick (h : MoT B w L o T wr) (hL : ∀ b ∈ L', b ∈ L) : MoT B w L' o T wr := ⟨h.1.pick hL (fun _ h => absurd h (by simp)), h.2⟩
theorem MoT.blk (h : MoT B w L o T wr) {g : Nat} {vs : List Value} (hp : (g, vs) ∈ L) : Blk wr g vs := h.1.blk hp
theorem MoT.set {g : Nat} {vs : List Value} (h : MoT B w ((g, vs) :: L) o T wr) (hne : ∀ b ∈ L, g ≠ b.1) {j : Nat} (u0 u : Value) (hj : vs[j]? = some u0) (hu : ∀ x, u0 ≠ .int .u32 x) :
  MoT B w ((g, vs.set j u) :: L) o T (wr.setCell ⟨g, j, none⟩ u) :=
 ⟨h.1.set hne u0 u hj hu, h.2.1, h.2.1.2 _ _ _ _ h.2.2 ((h.1.blk List.mem_cons_self).2 j u0 hj).1 hu⟩
end
theorem Calls.withMoT {P : Program} {f : FuncId} {args : Array Value} {W : World} {post : Ending → World → Prop} {B : Nat} {w0 : World} {L : List (Nat × List Value)} {o : List OwnAt} {T : World → Prop} (K : MoT B w0 L o T W) (h : MoT B w0 L o T W → Calls P f args W post) : Calls P f args W post := h K
theorem gOf {l : List Oper} {i : Nat} {o : Oper} (h : l[i]? = some o) : l.toArray[i]? = some o := by simpa using h
theorem load_yieldsG {P : Program} {op : Oper} {a : Act} {w : World} (ty : TypeId) (x : Operand) (ho : op.op = .load ty x) (b o : Nat) (hx : a.eval x = .pointer (some ⟨b, o, none⟩)) (cs : List Value) (d : TypeDesc) (hc : w.rangeAt b o cs)
  (hu : P.underlying ty = some d) (hd : d.isRow = true) (hi : (P.info? ty).map (·.size) = some cs.length) : (execOp a.eval op).run P w = .ok (.value (.agg cs.toArray)) w := by
 unfold execOp
 simp only [ho, hx, Instr.loadAt, Instr.sureAddr, Sem.run_bind, Sem.run_pure, Result.andThen_ok, run_loadVar_mid w b o ty cs d hc hu hd hi]
theorem step_storeG {P : Program} {ops : Array Oper} {o : Oper} {a : Act} {w : World} {K : Act → World → Prop} {Q : Exit → Act → World → Prop} {E : Prop} (n : Nat) (hw : Region.wanted o (yielded ops a.tmps) = true) (ty : TypeId) (x y : Operand) (ho : o.op = .store ty x y)
  (g : Nat) (hx : a.eval x = .pointer (some ⟨g, 0, none⟩)) (cs : List Value) (hy : a.eval y = .agg cs.toArray) (ht : w.there g 0 n) (hl : cs.length = n) (hi : (P.info? ty).map (·.size) = some n) (h1 : cs.all (·.oneCell') = true)
  (h : K (a.put o.dst undef) (w.setCells g 0 cs)) : if Region.wanted o (yielded ops a.tmps) = true then Oper.wp P o a w K Q else E := by
 rw [if_pos hw]
 exact wp_store_mid ty x y ho g 0 cs.toArray hx hy (by rw [List.size_toArray, hl]; exact ht) (by rw [List.size_toArray, hl]; exact hi) (all_oneCell_toArray (List.all_eq_true.1 h1)) h
theorem Blk.thereG {wr : World} {g n : Nat} {vs : List Value} (h : Blk wr g vs) (hn : vs.length = n) : wr.there g 0 n := fun j hj => by
 subst hn
 have := h.2 j vs[j] (List.getElem?_eq_getElem hj)
 rw [Nat.zero_add]
 exact ⟨by rw [this.1]; rfl, this.2⟩
def noLimb (v : Value) : Bool := match v with
 | .int .u32 _ => false
 | _ => true
def setLG (cur : List Value) (o : Nat) : List Value → List Value
 | [] => cur
 | v :: r => setLG (cur.set o v) (o + 1) r
theorem setLG_eq : ∀ (r : List Value) (o : Nat) (cur : List Value), o + r.length = cur.length → setLG cur o r = cur.take o ++ r
 | [], o, cur, h => by
  have : cur.take o = cur := List.take_of_length_le (by simp at h; omega)
  rw [this, List.append_nil]
  rfl
 | v :: r, o, cur, h => by
  have hlt : o < cur.length := by simp at h; omega
  rw [setLG, setLG_eq r (o + 1) (cur.set o v) (by simp at h ⊢; omega)]
  have e : (cur.set o v).take (o + 1) = cur.take o ++ [v] := by
   apply List.ext_getElem?
   intro i
   by_cases h1 : i < o
   ·rw [List.getElem?_take_of_lt (by omega), List.getElem?_set_ne (by omega), List.getElem?_append_left (by simp; omega), List.getElem?_take_of_lt h1]
   ·by_cases h2 : i = o
    ·subst h2
     rw [List.getElem?_take_of_lt (by omega), List.getElem?_set_self hlt, List.getElem?_append_right (by simp; omega)]
     simp [Nat.min_eq_left (Nat.le_of_lt hlt)]
    ·rw [List.getElem?_eq_none (by simp; omega), List.getElem?_eq_none (by simp; omega)]
  rw [e, List.append_assoc]
  rfl
theorem MoT.setB {B : Nat} {w : World} {L : List (Nat × List Value)} {ow : List OwnAt} {T : World → Prop} {g : Nat} : ∀ (r : List Value) (o : Nat) (cur : List Value) (wr : World), MoT B w ((g, cur) :: L) ow T wr → (∀ b ∈ L, g ≠ b.1) → o + r.length ≤ cur.length → (∀ j v, o ≤ j → cur[j]? = some v → noLimb v = true) → MoT B w ((g, setLG cur o r) :: L) ow T (wr.setCells g o r)
 | [], _, _, _, h, _, _, _ => h
 | v :: r, o, cur, wr, h, hne, hl, hz => by
  have hlt : o < cur.length := by simp at hl; omega
  have hu := List.getElem?_eq_getElem hlt
  have h1 := h.set hne (j := o) cur[o] v hu (fun x e => by have := hz o _ (Nat.le_refl _) hu; rw [e] at this; exact absurd this (by simp [noLimb]))
  rw [World.setCells]
  exact MoT.setB r (o + 1) (cur.set o v) _ h1 hne (by simp at hl ⊢; omega) (fun j x hj hx => hz j x (by omega) (by rw [List.getElem?_set_ne (by omega)] at hx; exact hx))
theorem MoT.setV {B : Nat} {w wr : World} {L : List (Nat × List Value)} {ow : List OwnAt} {T : World → Prop} {g n : Nat} {zs : List Value} (h : MoT B w ((g, zs) :: L) ow T wr) (hne : ∀ b ∈ L, g ≠ b.1) {V : List Value} (hl : V.length = n) (hn : zs.length = n) (hz : ∀ (j : Nat) (v : Value), zs[j]? = some v → noLimb v = true) : MoT B w ((g, V) :: L) ow T (wr.setCells g 0 V) := by
 have := MoT.setB V 0 zs wr h hne (by omega) (fun j v _ e => hz j v e)
 rwa [setLG_eq V 0 zs (by omega), List.take_zero, List.nil_append] at this
theorem MoT.zero {B : Nat} {w wr : World} {L : List (Nat × List Value)} {ow : List OwnAt} {T : World → Prop} {g n : Nat} {vs : List Value} (h : MoT B w ((g, vs) :: L) ow T wr) (hn : vs.length = n) (hz : vs.all noLimb = true) : ∃ zs : List Value, zs.length = n ∧ (∀ (j : Nat) (v : Value), zs[j]? = some v → noLimb v = true) ∧ MoT B w ((g, zs) :: L) ow T wr :=
 ⟨vs, hn, fun _ v e => List.all_eq_true.1 hz v (List.mem_of_getElem? e), h⟩
theorem MoT.fresh {B : Nat} {w wr : World} {L : List (Nat × List Value)} {ow : List OwnAt} {T : World → Prop} (h : MoT B w L ow T wr) (vs : List Value) (t : TypeId) {n : Nat} (hn : vs.length = n) (hz : vs.all noLimb = true) : ∃ W, wr.alloc (.cells vs.toArray t) = W ∧ ∃ zs : List Value, zs.length = n ∧ (∀ (j : Nat) (v : Value), zs[j]? = some v → noLimb v = true) ∧ MoT B w ((wr.heap.size, zs) :: L) ow T W :=
 ⟨_, rfl, (h.varz vs t).zero hn hz⟩
theorem KeptP.const (p : Prop) : KeptP (fun _ => p) := ⟨fun _ _ h _ => h, fun _ _ _ _ h _ _ => h⟩
theorem KeptP.ex {T : Nat → World → Prop} (h : ∀ g, KeptP (T g)) : KeptP (fun x => ∃ g, T g x) :=
 ⟨fun w w' ⟨g, t⟩ hb => ⟨g, (h g).1 w w' t hb⟩, fun w p u v ⟨g, t⟩ hp hu => ⟨g, (h g).2 w p u v t hp hu⟩⟩
def RetTwX (n : Nat) (T : List Value → List OwnAt → World → Prop) (W : World) (e : Ending) (w' : World) : Prop :=
 ∃ (V : List Value) (o : List OwnAt), e = .returned (.agg V.toArray) ∧ V.length = n ∧ V.all (·.oneCell') = true ∧ Owns W.heap.size w' o ∧ T V o w' ∧ Below W.heap.size W w'
end Go.Proofs.YtgekmbfmfiikkaaGreatDoor
namespace Go.Proofs.YtgekmbfmfiikkaaGreatDoor
open Go.RowKit
theorem beam_through_ok (sa : Bool) (Aa : Option Addr) (na ca : Nat) (la : List Nat) (za : Bool) (Ba : Option Addr) (ma da : Nat) (ka : List Nat) (xa : Rat) (sb : Bool) (Ab : Option Addr) (nb cb : Nat) (lb : List Nat) (zb : Bool) (Bb : Option Addr) (mb db : Nat) (kb : List Nat) (xb : Rat) (sc : Bool) (Ac : Option Addr) (nc cc : Nat) (lc : List Nat) (zc : Bool) (Bc : Option Addr) (mc dc : Nat) (kc : List Nat) (xc : Rat) (sd : Bool) (Ad : Option Addr) (nd cd : Nat) (ld : List Nat) (zd : Bool) (Bd : Option Addr) (md dd : Nat) (kd : List Nat) (xd : Rat) (su : Bool) (Au : Option Addr) (nu cu : Nat) (lu : List Nat) (zu : Bool) (Bu : Option Addr) (mu du : Nat) (ku : List Nat) (xu : Rat) (sv : Bool) (Av : Option Addr) (nv cv : Nat) (lv : List Nat) (zv : Bool) (Bv : Option Addr) (mv dv : Nat) (kv : List Nat) (xv : Rat) (M : Nat) (r1 r2 : Rat) (w : World) (oa : OkF w ((sa, Aa, na, ca, la), (za, Ba, ma, da, ka)) xa) (ya : Sz xa M) (ob : OkF w ((sb, Ab, nb, cb, lb), (zb, Bb, mb, db, kb)) xb) (yb : Sz xb M) (oc : OkF w ((sc, Ac, nc, cc, lc), (zc, Bc, mc, dc, kc)) xc) (yc : Sz xc M) (od : OkF w ((sd, Ad, nd, cd, ld), (zd, Bd, md, dd, kd)) xd) (yd : Sz xd M) (ou : OkF w ((su, Au, nu, cu, lu), (zu, Bu, mu, du, ku)) xu) (yu : Sz xu M) (ov : OkF w ((sv, Av, nv, cv, lv), (zv, Bv, mv, dv, kv)) xv) (yv : Sz xv M) (hM : M ≤ 9000) (hdet : xa * xd - xb * xc = 1) (hv : 0 < xv)
  (h0 : ((((xc * xu) + xd) * ((xc * xu) + xd)) + ((xc * xv) * (xc * xv))) ≠ 0) (e1 : Hid ((((((xa * xu) + xb) * ((xc * xu) + xd)) + ((xa * xv) * (xc * xv))) / ((((xc * xu) + xd) * ((xc * xu) + xd)) + ((xc * xv) * (xc * xv)))) = r1)) (e2 : Hid ((xv / ((((xc * xu) + xd) * ((xc * xu) + xd)) + ((xc * xv) * (xc * xv)))) = r2)) (s1 : Sz r1 2048) (s2 : Sz r2 2048) :
  Calls Tryz.prog 13 #[.agg #[.bool sa, .slice Aa na ca, .bool za, .slice Ba ma da, .bool sb, .slice Ab nb cb, .bool zb, .slice Bb mb db, .bool sc, .slice Ac nc cc, .bool zc, .slice Bc mc dc, .bool sd, .slice Ad nd cd, .bool zd, .slice Bd md dd], .agg #[.bool su, .slice Au nu cu, .bool zu, .slice Bu mu du, .bool sv, .slice Av nv cv, .bool zv, .slice Bv mv dv]] w (RetGk w r1 r2) := by
 refine (owb_through_yes sa Aa na ca la za Ba ma da ka xa sb Ab nb cb lb zb Bb mb db kb xb sc Ac nc cc lc zc Bc mc dc kc xc sd Ad nd cd ld zd Bd md dd kd xd su Au nu cu lu zu Bu mu du ku xu sv Av nv cv lv zv Bv mv dv kv xv M r1 r2 r1.num (r1.den : Int) r2.num (r2.den : Int) 0 w oa ya ob yb oc yc od yd ou yu ov yv hM hdet hv h0 e1 e2 (s1.mono (by decide)) (s2.mono (by decide)) (.inl ⟨⟨s1, s2⟩, rfl, rfl, rfl, rfl, rfl⟩)).mono ?_
 rintro e w' ⟨s, A, n, c, z, B, m, d, s', A', n', c', z', B', m', d', rfl, I, J, I', J', _, hb⟩
 obtain ⟨l, k, o⟩ := okF_of I J s1
 obtain ⟨l', k', o'⟩ := okF_of I' J' s2
 exact ⟨_, _, _, _, l, _, _, _, _, k, _, _, _, _, l', _, _, _, _, k', rfl, o, o', hb⟩
end Go.Proofs.YtgekmbfmfiikkaaGreatDoor
namespace Go.Proofs.YtgekmbfmfiikkaaGreatDoor
open Go.RowKit
def RetF2 (W : World) (x y v : Int) (e : Ending) (w' : World) : Prop :=
 ∃ (neg : Bool) (A : Option Addr) (n c : Nat) (neg' : Bool) (A' : Option Addr) (n' c' : Nat), e = .returned (.tuple #[.agg #[.bool neg, .slice A n c, .bool neg', .slice A' n' c'], .int .i64 v]) ∧ IsInt w' neg A n c x ∧ IsInt w' neg' A' n' c' y ∧ Owns W.heap.size w' [(A, n, c), (A', n', c')] ∧ Below W.heap.size W w'
theorem owb_size1_any (sa za : Bool) (Aa Ba : Option Addr) (na ca ma da : Nat) (xa : Rat) (sb zb : Bool) (Ab Bb : Option Addr) (nb cb mb db : Nat) (xb : Rat) (sc zc : Bool) (Ac Bc : Option Addr) (nc cc mc dc : Nat) (xc : Rat) (M : Nat) (r : Rat) (w : World) (ia : IsInt w sa Aa na ca xa.num) (ja : IsInt w za Ba ma da (xa.den : Int)) (ib : IsInt w sb Ab nb cb xb.num) (jb : IsInt w zb Bb mb db (xb.den : Int)) (ic : IsInt w sc Ac nc cc xc.num) (jc : IsInt w zc Bc mc dc (xc.den : Int)) (yc : Sz xc M) (yb : Sz xb M) (hM : M ≤ 100000) (h0 : xb ≠ 0) (hr : Hid (xc / xb = r)) :
  Calls Tryz.prog 213 #[.agg #[.bool sa, .slice Aa na ca, .bool za, .slice Ba ma da], .agg #[.bool sb, .slice Ab nb cb, .bool zb, .slice Bb mb db], .agg #[.bool sc, .slice Ac nc cc, .bool zc, .slice Bc mc dc]] w (RetFrO w r) := by
 have K0 := (((((((((((Mo.nil w).int ia).int ja).int ib).int jb).int ic).int jc).var (g := w.heap.size) rfl [.bool sa, .slice Aa na ca, .bool za, .slice Ba ma da] 26).var (g := w.heap.size + 1) (by simp) [.bool sb, .slice Ab nb cb, .bool zb, .slice Bb mb db] 26).var (g := w.heap.size + 1 + 1) (by simp) [.bool sc, .slice Ac nc cc, .bool zc, .slice Bc mc dc] 26).var (g := w.heap.size + 1 + 1 + 1) (by simp) [.bool false, .slice none 0 0, .bool false, .slice none 0 0] 26)
 have H0 := Lib.hid h0
 have P := Lib.hid yc
 have Q := Lib.hid yb
 clear ia ja ib jb ic jc h0 yc yb
 have g01 : ¬ w.heap.size = w.heap.size + 1 := by omega
 have g02 : ¬ w.heap.size = w.heap.size + 1 + 1 := by omega
 have g03 : ¬ w.heap.size = w.heap.size + 1 + 1 + 1 := by omega
 have g10 : ¬ w.heap.size + 1 = w.heap.size := by omega
 have g12 : ¬ w.heap.size + 1 = w.heap.size + 1 + 1 := by omega
 have g13 : ¬ w.heap.size + 1 = w.heap.size + 1 + 1 + 1 := by omega
 have g20 : ¬ w.heap.size + 1 + 1 = w.heap.size := by omega
 have g21 : ¬ w.heap.size + 1 + 1 = w.heap.size + 1 := by omega
 have g23 : ¬ w.heap.size + 1 + 1 = w.heap.size + 1 + 1 + 1 := by omega
 have g30 : ¬ w.heap.size + 1 + 1 + 1 = w.heap.size := by omega
 have g31 : ¬ w.heap.size + 1 + 1 + 1 = w.heap.size + 1 := by omega
 have g32 : ¬ w.heap.size + 1 + 1 + 1 = w.heap.size + 1 + 1 := by omega
 go_enter Tryz.func213, Tryz.ntmps213
 go_upto_region 1 with (fail)
 generalize (((w.alloc (.cells #[.bool sa, .slice Aa na ca, .bool za, .slice Ba ma da] 26)).alloc (.cells #[.bool sb, .slice Ab nb cb, .bool zb, .slice Bb mb db] 26)).alloc (.cells #[.bool sc, .slice Ac nc cc, .bool zc, .slice Bc mc dc] 26)).alloc (.cells #[.bool false, .slice none 0 0, .bool false, .slice none 0 0] 26) = w0 at K0 ⊢
 obtain ⟨⟨p0, p1, p2, p3⟩, _, _⟩ := (K0.blk (g := w.heap.size + 1 + 1) (by repeat constructor)).four
 obtain ⟨⟨q0, q1, q2, q3⟩, _, _⟩ := (K0.blk (g := w.heap.size + 1) (by repeat constructor)).four
 go_wp2_with fail
 refine (owr_over_any sc zc Ac Bc nc cc mc dc sb zb Ab Bb nb cb mb db xc xb r M M _ (K0.at_ (mE 1 rfl)) (K0.at_ (mE 0 rfl)) (K0.at_ (mE 3 rfl)) (K0.at_ (mE 2 rfl)) P.out Q.out (by omega) H0.out hr).mono ?_
 rintro e1 w1 ⟨sg, Ag, ng, cg, zg, Bg, mg, dg, rfl, I, J, O, hb1⟩
 have K1 := ((K0.call2 hb1 O).int J).int I
 clear K0 hb1 p0 p1 p2 p3 q0 q1 q2 q3
 obtain ⟨⟨f0, f1, f2, f3⟩, ⟨ff0, ff1, ff2, ff3⟩, _⟩ := (K1.blk (g := w.heap.size + 1 + 1 + 1) (by repeat constructor)).four
 go_wp2_with fail
 have K9 := (K1.pick (L' := [(w.heap.size + 1 + 1 + 1, [.bool false, .slice none 0 0, .bool false, .slice none 0 0])]) (l' := [(sg, Ag, ng, cg, r.num), (zg, Bg, mg, dg, (r.den : Int))]) (by simp) (by simp)).set4 (by simp) sg Ag ng cg zg Bg mg dg
 exact bodyPost_ret (v := .agg #[.bool sg, .slice Ag ng cg, .bool zg, .slice Bg mg dg]) (by simp [results, Tryz.results213, go_sem, f0, f1, f2, f3]) rfl ⟨_, _, _, _, _, _, _, _, rfl, K9.at_ (by simp), K9.at_ (by simp), K9.own2 0 1 rfl rfl (by decide), K9.1⟩
end Go.Proofs.YtgekmbfmfiikkaaGreatDoor
namespace Go.Proofs.YtgekmbfmfiikkaaGreatDoor
open Go.RowKit
theorem owb_asked_size_ok (su : Bool) (Au : Option Addr) (nu cu : Nat) (lu : List Nat) (zu : Bool) (Bu : Option Addr) (mu du : Nat) (ku : List Nat) (xu : Rat) (sv : Bool) (Av : Option Addr) (nv cv : Nat) (lv : List Nat) (zv : Bool) (Bv : Option Addr) (mv dv : Nat) (kv : List Nat) (xv : Rat) (M : Nat) (r : Rat) (w : World) (ou : OkF w ((su, Au, nu, cu, lu), (zu, Bu, mu, du, ku)) xu) (yu : Sz xu M) (ov : OkF w ((sv, Av, nv, cv, lv), (zv, Bv, mv, dv, kv)) xv) (yv : Sz xv M) (hM : M ≤ 2048) (hv : 0 < xv) (h0 : xv ≠ 0) (hr : Hid ((((xu * xu) + (xv * xv)) / xv) = r)) (hs : Sz r 2048) :
  Calls Tryz.prog 212 #[.agg #[.bool su, .slice Au nu cu, .bool zu, .slice Bu mu du, .bool sv, .slice Av nv cv, .bool zv, .slice Bv mv dv], .func (.func 213) #[] #[]] w (RetF2 w r.num (r.den : Int) 0) := by
 have K0 := ((Mo.nil w).var (g := w.heap.size) rfl [.bool su, .slice Au nu cu, .bool zu, .slice Bu mu du, .bool sv, .slice Av nv cv, .bool zv, .slice Bv mv dv] 30).var (g := w.heap.size + 1) (by simp) [.bool false, .slice none 0 0, .bool false, .slice none 0 0] 26
 have HC := Lib.hid (chkBm_ok ou ov hv)
 have H0 := Lib.hid h0
 have HS := Lib.hid hs
 have SU := Lib.hid yu
 have SV := Lib.hid yv
 have NS : Hid (Sz ((xu * xu) + (xv * xv)) (4 * M + 1)) := Lib.hid ((Sz.add (Sz.mul yu yu) (Sz.mul yv yv)).mono (by omega))
 replace ou := ou.next K0.1
 replace ov := ov.next K0.1
 have g01 : ¬ w.heap.size = w.heap.size + 1 := by omega
 have g10 : ¬ w.heap.size + 1 = w.heap.size := by omega
 clear hv h0 hs yu yv
 go_enter Tryz.func212, Tryz.ntmps212
 go_upto_region 1 with (fail)
 generalize (w.alloc (.cells #[.bool su, .slice Au nu cu, .bool zu, .slice Bu mu du, .bool sv, .slice Av nv cv, .bool zv, .slice Bv mv dv] 30)).alloc (.cells #[.bool false, .slice none 0 0, .bool false, .slice none 0 0] 26) = w0 at K0 ou ov ⊢
 obtain ⟨q0, q1, q2, q3, q4, q5, q6, q7⟩ := (K0.blk (g := w.heap.size) (by repeat constructor)).c8
 go_wp2_with fail
 refine (beam_check_any su Au nu cu lu zu Bu mu du ku sv Av nv cv lv zv Bv mv dv kv _ ou.1 ov.1).mono ?_
 rintro e4 w4 ⟨rfl, hb4⟩
 rw [HC.out]
 have K1 := K0.next hb4
 replace ou := ou.next hb4
 replace ov := ov.next hb4
 clear K0 hb4 q0 q1 q2 q3 q4 q5 q6 q7
 replace K1 := (((K1.int ov.ints.2.1).int ov.ints.1).int ou.ints.2.1).int ou.ints.1
 clear ou ov
 obtain ⟨q0, q1, q2, q3, q4, q5, q6, q7⟩ := (K1.blk (g := w.heap.size) (by repeat constructor)).c8
 have sz4 : w.heap.size + 1 < w4.heap.size := (K1.blk (g := w.heap.size + 1) (vs := [.bool false, .slice none 0 0, .bool false, .slice none 0 0]) (by simp)).1
 go_upto_region 4 with (fail)
 go_cut [7] from 15 to 22 (fun s7 wx => ∃ (g : Nat) (sr : Bool) (Ar : Option Addr) (nr cr : Nat) (zr : Bool) (Br : Option Addr) (mr dr : Nat), s7 = .pointer (some ⟨g, 0, none⟩) ∧ w.heap.size + 1 < g ∧
  Mo w.heap.size w [(g, [.bool sr, .slice Ar nr cr, .bool zr, .slice Br mr dr]), (w.heap.size + 1, [.bool false, .slice none 0 0, .bool false, .slice none 0 0])] [(sr, Ar, nr, cr, r.num), (zr, Br, mr, dr, (r.den : Int))] [(Ar, nr, cr), (Br, mr, dr)] wx)
 case first =>
  go_region_held3 (fun w' => w'.cell? ⟨w.heap.size, 0, none⟩ = some (.bool su) ∧ w'.cell? ⟨w.heap.size, 1, none⟩ = some (.slice Au nu cu) ∧ w'.cell? ⟨w.heap.size, 2, none⟩ = some (.bool zu) ∧ w'.cell? ⟨w.heap.size, 3, none⟩ = some (.slice Bu mu du) ∧ w'.cell? ⟨w.heap.size, 4, none⟩ = some (.bool sv) ∧ w'.cell? ⟨w.heap.size, 5, none⟩ = some (.slice Av nv cv) ∧ w'.cell? ⟨w.heap.size, 6, none⟩ = some (.bool zv) ∧ w'.cell? ⟨w.heap.size, 7, none⟩ = some (.slice Bv mv dv))
   (go_keep)
   (first
    | (go_at_call 213; apply Calls.withMo (w0 := w); (case K => (repeat (first | (with_reducible exact K5) | (with_reducible apply Mo.drewN) | (with_reducible apply Mo.drew) | (with_reducible apply Mo.varz)))); intro KX; (try simp only [hszA] at KX); (with_reducible refine (owb_size1_any su zu Au Bu nu cu mu du xu sv zv Av Bv nv cv mv dv xv sh zh Ah Bh nh ch mh dh ((xu * xu) + (xv * xv)) (4 * M + 1) r _ ?_ ?_ ?_ ?_ ?_ ?_ NS.out (SV.out.mono (by omega)) (by omega) H0.out hr).mono ?_; with_reducible exact KX.at_ (mE 2 rfl); with_reducible exact KX.at_ (mE 3 rfl); with_reducible exact KX.at_ (mE 4 rfl); with_reducible exact KX.at_ (mE 5 rfl); with_reducible exact KX.at_ (mE 0 rfl); with_reducible exact KX.at_ (mE 1 rfl)); rintro e6 w6 ⟨sr, Ar, nr, cr, zr, Br, mr, dr, rfl, I6, J6, O6, hb6⟩; have K6 := ((KX.call2 hb6 O6).int J6).int I6; clear KX; obtain ⟨_, _, _, _, _, _, _, _⟩ := (K6.blk (g := w.heap.size) (by repeat constructor)).c8; have sz6 : w.heap.size + 1 < w6.heap.size := (K6.blk (g := w.heap.size + 1) (vs := [.bool false, .slice none 0 0, .bool false, .slice none 0 0]) (by simp)).1; (try (have V0_6 := K6.blk (g := w4.heap.size) (vs := [.bool false, .slice none 0 0, .bool false, .slice none 0 0]) (by with_reducible (first | exact List.mem_cons_self | exact List.mem_cons_of_mem _ List.mem_cons_self)); obtain ⟨⟨_, _, _, _⟩, ⟨_, _, _, _⟩, _⟩ := V0_6.four; obtain ⟨fa0_6, fb0_6⟩ := nq (a := w.heap.size) (b := w4.heap.size) (by omega); skip)); (try (have V1_6 := K6.blk (g := w5.heap.size) (vs := [.bool false, .slice none 0 0, .bool false, .slice none 0 0]) (by with_reducible (first | exact List.mem_cons_self | exact List.mem_cons_of_mem _ List.mem_cons_self)); obtain ⟨⟨_, _, _, _⟩, ⟨_, _, _, _⟩, _⟩ := V1_6.four; obtain ⟨fa1_6, fb1_6⟩ := nq (a := w.heap.size) (b := w5.heap.size) (by omega); skip)); clear I6 J6 O6 hb6)
    | (go_at_call 163; apply Calls.withMo (w0 := w); (case K => (repeat (first | (with_reducible exact K1) | (with_reducible apply Mo.drewN) | (with_reducible apply Mo.drew) | (with_reducible apply Mo.varz)))); intro KX; (try simp only [hszA] at KX); (with_reducible refine (arg_norm_any su zu Au Bu nu cu mu du xu sv zv Av Bv nv cv mv dv xv M _ ?_ ?_ SU.out ?_ ?_ SV.out (by omega)).mono ?_; with_reducible exact KX.at_ (mE 0 rfl); with_reducible exact KX.at_ (mE 1 rfl); with_reducible exact KX.at_ (mE 2 rfl); with_reducible exact KX.at_ (mE 3 rfl)); rintro e5 w5 ⟨sh, Ah, nh, ch, zh, Bh, mh, dh, rfl, I5, J5, hb5⟩; have K5 := ((KX.next hb5).int J5).int I5; clear KX; obtain ⟨_, _, _, _, _, _, _, _⟩ := (K5.blk (g := w.heap.size) (by repeat constructor)).c8; have sz5 : w.heap.size + 1 < w5.heap.size := (K5.blk (g := w.heap.size + 1) (vs := [.bool false, .slice none 0 0, .bool false, .slice none 0 0]) (by simp)).1; (try (have V0_5 := K5.blk (g := w4.heap.size) (vs := [.bool false, .slice none 0 0, .bool false, .slice none 0 0]) (by with_reducible (first | exact List.mem_cons_self | exact List.mem_cons_of_mem _ List.mem_cons_self)); obtain ⟨⟨_, _, _, _⟩, ⟨_, _, _, _⟩, _⟩ := V0_5.four; obtain ⟨fa0_5, fb0_5⟩ := nq (a := w.heap.size) (b := w4.heap.size) (by omega); skip)); clear I5 J5 hb5)
    | fail)
  all_goals (go_wp2_with fail)
  all_goals go_meet
  all_goals (first
   | (refine ⟨w6.heap.size, sr, Ar, nr, cr, zr, Br, mr, dr, rfl, by assumption, ((K6.var (g := w6.heap.size) rfl [.bool sr, .slice Ar nr cr, .bool zr, .slice Br mr dr] 26).pick (L' := [(w6.heap.size, [.bool sr, .slice Ar nr cr, .bool zr, .slice Br mr dr]), (w.heap.size + 1, [.bool false, .slice none 0 0, .bool false, .slice none 0 0])]) (l' := [(sr, Ar, nr, cr, r.num), (zr, Br, mr, dr, (r.den : Int))]) (by simp) (by simp))⟩)
   | (refine ⟨w5.heap.size, sr, Ar, nr, cr, zr, Br, mr, dr, rfl, by assumption, ((K6.pick (L' := [(w5.heap.size, [.bool false, .slice none 0 0, .bool false, .slice none 0 0]), (w.heap.size + 1, [.bool false, .slice none 0 0, .bool false, .slice none 0 0])]) (l' := [(sr, Ar, nr, cr, r.num), (zr, Br, mr, dr, (r.den : Int))]) (by simp) (by simp)).set4 (by simp; omega) sr Ar nr cr zr Br mr dr)⟩)
   | (refine ⟨w4.heap.size, sr, Ar, nr, cr, zr, Br, mr, dr, rfl, by assumption, ((K6.pick (L' := [(w4.heap.size, [.bool false, .slice none 0 0, .bool false, .slice none 0 0]), (w.heap.size + 1, [.bool false, .slice none 0 0, .bool false, .slice none 0 0])]) (l' := [(sr, Ar, nr, cr, r.num), (zr, Br, mr, dr, (r.den : Int))]) (by simp) (by simp)).set4 (by simp; omega) sr Ar nr cr zr Br mr dr)⟩))
 case rest =>
  obtain ⟨g, sr, Ar, nr, cr, zr, Br, mr, dr, rfl, hg, KC⟩ := hcut
  clear K1 q0 q1 q2 q3 q4 q5 q6 q7 sz4
  rename World => wc
  obtain ⟨lr, kr, or⟩ := okF_of (KC.at_ (neg := sr) (A := Ar) (n := nr) (c := cr) (z := r.num) (by simp)) (KC.at_ (neg := zr) (A := Br) (n := mr) (c := dr) (z := (r.den : Int)) (by simp)) HS.out
  have nr2 := int_len or.ints.1 HS.out.1
  have mr2 := int_len or.ints.2.1 (by rw [Int.natAbs_natCast]; exact HS.out.2)
  have ga : ¬ g = w.heap.size + 1 := by omega
  have gb : ¬ w.heap.size + 1 = g := by omega
  have gc : ¬ g = w.heap.size := by omega
  have gd : ¬ w.heap.size = g := by omega
  obtain ⟨⟨c0, c1, c2, c3⟩, _, _⟩ := (KC.blk (g := g) (by repeat constructor)).four
  go_wp2_with fail
  refine (rat_answer_no wc.heap.size sr zr Ar Br nr cr mr dr _ (by simp) (by simp [go_sem]) (by simp [go_sem]) (by simp [go_sem]) (by simp [go_sem]) nr2 mr2).mono ?_
  rintro e8 w8 ⟨rfl, hb8⟩
  have KD := (KC.box (.cells #[.bool sr, .slice Ar nr cr, .bool zr, .slice Br mr dr] 26)).next hb8
  have or := (or.next (w' := wc.alloc (.cells #[.bool sr, .slice Ar nr cr, .bool zr, .slice Br mr dr] 26)) ((Below.refl _ _).alloc (Nat.le_refl _) _)).next hb8
  clear KC hb8 c0 c1 c2 c3
  obtain ⟨⟨c0, c1, c2, c3⟩, _, _⟩ := (KD.blk (g := g) (by repeat constructor)).four
  obtain ⟨⟨f0, f1, f2, f3⟩, ⟨ff0, ff1, ff2, ff3⟩, _⟩ := (KD.blk (g := w.heap.size + 1) (by repeat constructor)).four
  go_wp2_with fail
  have K9 := (KD.pick (L' := [(w.heap.size + 1, [.bool false, .slice none 0 0, .bool false, .slice none 0 0])]) (l' := [(sr, Ar, nr, cr, r.num), (zr, Br, mr, dr, (r.den : Int))]) (by simp) (by simp)).set4 (by simp) sr Ar nr cr zr Br mr dr
  exact bodyPost_ret (v := .tuple #[.agg #[.bool sr, .slice Ar nr cr, .bool zr, .slice Br mr dr], .int .i64 0]) (by simp [results, Tryz.results212, go_sem, f0, f1, f2, f3]) rfl ⟨_, _, _, _, _, _, _, _, rfl, K9.at_ (by simp), K9.at_ (by simp), K9.own2 0 1 rfl rfl (by decide), K9.1⟩
theorem owb_size_of (su : Bool) (Au : Option Addr) (nu cu : Nat) (lu : List Nat) (zu : Bool) (Bu : Option Addr) (mu du : Nat) (ku : List Nat) (sv : Bool) (Av : Option Addr) (nv cv : Nat) (lv : List Nat) (zv : Bool) (Bv : Option Addr) (mv dv : Nat) (kv : List Nat) (x y v : Int) (w : World) (au : LmE.at_ w ((su, Au, nu, cu, lu), (zu, Bu, mu, du, ku))) (av : LmE.at_ w ((sv, Av, nv, cv, lv), (zv, Bv, mv, dv, kv)))
  (hA : ∀ W, LmE.at_ W ((su, Au, nu, cu, lu), (zu, Bu, mu, du, ku)) → LmE.at_ W ((sv, Av, nv, cv, lv), (zv, Bv, mv, dv, kv)) → Calls Tryz.prog 212 #[.agg #[.bool su, .slice Au nu cu, .bool zu, .slice Bu mu du, .bool sv, .slice Av nv cv, .bool zv, .slice Bv mv dv], .func (.func 213) #[] #[]] W (RetF2 W x y v)) :
  Calls Tryz.prog 110 #[.agg #[.bool su, .slice Au nu cu, .bool zu, .slice Bu mu du, .bool sv, .slice Av nv cv, .bool zv, .slice Bv mv dv]] w (RetF2 w x y v) := by
 have K0 := ((Mo.nil w).var (g := w.heap.size) rfl [.bool su, .slice Au nu cu, .bool zu, .slice Bu mu du, .bool sv, .slice Av nv cv, .bool zv, .slice Bv mv dv] 30).var (g := w.heap.size + 1) (by simp) [.bool false, .slice none 0 0, .bool false, .slice none 0 0] 26
 replace au := LmE.at_.below au K0.1
 replace av := LmE.at_.below av K0.1
 have g01 : ¬ w.heap.size = w.heap.size + 1 := by omega
 have g10 : ¬ w.heap.size + 1 = w.heap.size := by omega
 go_enter Tryz.func110, Tryz.ntmps110
 go_upto_region 1 with (fail)
 generalize (w.alloc (.cells #[.bool su, .slice Au nu cu, .bool zu, .slice Bu mu du, .bool sv, .slice Av nv cv, .bool zv, .slice Bv mv dv] 30)).alloc (.cells #[.bool false, .slice none 0 0, .bool false, .slice none 0 0] 26) = w0 at K0 au av ⊢
 obtain ⟨q0, q1, q2, q3, q4, q5, q6, q7⟩ := (K0.blk (g := w.heap.size) (by repeat constructor)).c8
 go_wp2_with fail
 refine (hA _ au av).mono ?_
 rintro e4 w4 ⟨sr, Ar, nr, cr, zr, Br, mr, dr, rfl, I4, J4, O4, hb4⟩
 have K1 := ((K0.call2 hb4 O4).int J4).int I4
 clear K0 hb4 q0 q1 q2 q3 q4 q5 q6 q7 au av hA
 obtain ⟨⟨f0, f1, f2, f3⟩, ⟨ff0, ff1, ff2, ff3⟩, _⟩ := (K1.blk (g := w.heap.size + 1) (by repeat constructor)).four
 go_wp2_with fail
 have K9 := (K1.pick (L' := [(w.heap.size + 1, [.bool false, .slice none 0 0, .bool false, .slice none 0 0])]) (l' := [(sr, Ar, nr, cr, x), (zr, Br, mr, dr, y)]) (by simp) (by simp)).set4 (by simp) sr Ar nr cr zr Br mr dr
 exact bodyPost_ret (v := .tuple #[.agg #[.bool sr, .slice Ar nr cr, .bool zr, .slice Br mr dr], .int .i64 v]) (by simp [results, Tryz.results110, go_sem, f0, f1, f2, f3]) rfl ⟨_, _, _, _, _, _, _, _, rfl, K9.at_ (by simp), K9.at_ (by simp), K9.own2 0 1 rfl rfl (by decide), K9.1⟩
end Go.Proofs.YtgekmbfmfiikkaaGreatDoor
namespace Go.Proofs.YtgekmbfmfiikkaaGreatDoor
open Go.RowKit
theorem beam_size_ok (su : Bool) (Au : Option Addr) (nu cu : Nat) (lu : List Nat) (zu : Bool) (Bu : Option Addr) (mu du : Nat) (ku : List Nat) (xu : Rat) (sv : Bool) (Av : Option Addr) (nv cv : Nat) (lv : List Nat) (zv : Bool) (Bv : Option Addr) (mv dv : Nat) (kv : List Nat) (xv : Rat) (M : Nat) (r : Rat) (w : World) (ou : OkF w ((su, Au, nu, cu, lu), (zu, Bu, mu, du, ku)) xu) (yu : Sz xu M) (ov : OkF w ((sv, Av, nv, cv, lv), (zv, Bv, mv, dv, kv)) xv) (yv : Sz xv M) (hM : M ≤ 2048) (hv : 0 < xv) (h0 : xv ≠ 0) (hr : Hid ((((xu * xu) + (xv * xv)) / xv) = r)) (hs : Sz r 2048) :
  Calls Tryz.prog 110 #[.agg #[.bool su, .slice Au nu cu, .bool zu, .slice Bu mu du, .bool sv, .slice Av nv cv, .bool zv, .slice Bv mv dv]] w (RetFk w r) := by
 refine (owb_size_of su Au nu cu lu zu Bu mu du ku sv Av nv cv lv zv Bv mv dv kv r.num (r.den : Int) 0 w ou.1 ov.1 (fun W a b => owb_asked_size_ok su Au nu cu lu zu Bu mu du ku xu sv Av nv cv lv zv Bv mv dv kv xv M r W ⟨a, ou.2⟩ yu ⟨b, ov.2⟩ yv hM hv h0 hr hs)).mono ?_
 rintro e w' ⟨s, A, n, c, z, B, m, d, rfl, I, J, _, hb⟩
 obtain ⟨l, k, o⟩ := okF_of I J hs
 exact ⟨_, _, _, _, l, _, _, _, _, k, rfl, o, hb⟩
end Go.Proofs.YtgekmbfmfiikkaaGreatDoor
