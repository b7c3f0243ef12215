/-
  A book of lists of limbs: numbers, fractions, complex numbers, matrices are kept; apart.
-/
import Derived.Test.YtgekmbfmfiikkaaGreatDoorBmA
import Derived.Test.YtgekmbfmfiikkaaGreatDoorBmF
set_option maxHeartbeats 6400000
set_option maxRecDepth 100000
namespace Go.Proofs.YtgekmbfmfiikkaaGreatDoor
open Go.RowKit
def BkL (base : Nat) (wB w : World) (B : Nat) (o : List OwnAt) : Prop :=
 ∃ L, BkStLimb B w B L ∧ L.map (fun h => ((h.A, h.n, h.c) : OwnAt)) = o ∧ ∀ i h, L[i]? = some h → wB.ownsRow base 164 1 h.v h.n h.xs ∧ h.k = i + 1 ∧ h.n ≤ 1000000000
theorem bkL_new (base : Nat) (w : World) : BkL base w (w.alloc (.cells #[.int .i64 0, .slice none 0 0, .slice none 0 0, .slice none 0 0, .slice none 0 0, .slice none 0 0, .slice none 0 0, .slice none 0 0, .slice none 0 0, .slice none 0 0, .slice none 0 0, .slice none 0 0, .slice none 0 0, .slice none 0 0, .slice none 0 0, .slice none 0 0, .slice none 0 0] 59)) w.heap.size [] :=
 ⟨[], bkst_newLimb _ w, rfl, fun i h e => by simp at e⟩
theorem BkStLimb.next {base B : Nat} {w w' : World} {L : List Hl} (h : BkStLimb base w B L) (hb : Below w.heap.size w w') : BkStLimb base w' B L := by
 obtain ⟨V, vn, vc, h1, h2, h3, h4, h5, h6, h7, h8⟩ := h
 exact ⟨V, vn, vc, Nat.lt_of_lt_of_le h1 hb.size, (hb.cell (p := ⟨B, 0, none⟩) h1).trans h2, (hb.cell (p := ⟨B, 1, none⟩) h1).trans h3, h4, Fr.row h5 (Fr.of_below (fun _ => False) hb) (fun _ _ => id), h6, fun j => ((bcell hb).2 B j h1).trans (h7 j), fun j a b => (hb.cell (p := ⟨B, j, none⟩) h1).trans (h8 j a b)⟩
theorem BkL.next {base B : Nat} {wB w w' : World} {o : List OwnAt} (h : BkL base wB w B o) (hb : Below w.heap.size w w') : BkL base wB w' B o := by
 obtain ⟨L, h1, h2⟩ := h
 exact ⟨L, h1.next hb, h2⟩
def KpL (B : Nat) (w w' : World) : Prop := ∀ g cur t, g ≠ B → (t == 163) = false → w.heap[g]? = some (.cells cur t (0, 0)) → w'.heap[g]? = some (.cells cur t (0, 0))
theorem KpL.trans {B : Nat} {w w1 w2 : World} (h : KpL B w w1) (k : KpL B w1 w2) : KpL B w w2 := fun g cur t a b c => k g cur t a b (h g cur t a b c)
theorem KpL.of_below {B : Nat} {w w' : World} (hb : Below w.heap.size w w') : KpL B w w' := fun g _ _ _ _ c => (hb.block g (Array.getElem?_eq_some_iff.1 c).1).trans c
def RetBk (base : Nat) (wB W : World) (B : Nat) (o : List OwnAt) (e : Ending) (w' : World) : Prop := e = .returned (.tuple #[]) ∧ BkL base wB w' B o ∧ Below B W w' ∧ KpL B W w'
theorem keepLimb_bk (B base : Nat) (A : Option Addr) (n c : Nat) (o : List OwnAt) (wB w : World) (h : BkL base wB w B o) (hq : OwnR base wB (A, n, c)) (hn : n ≤ 1000000000) (hl : o.length ≤ 1000) (hB : B ≤ w.heap.size) :
  Calls Tryz.prog 232 #[.pointer (some ⟨B, 0, none⟩), .slice A n c] w (RetBk base wB w B (o ++ [(A, n, c)])) := by
 obtain ⟨L, ⟨V, vn, vc, hBl, hc, hV, hvn, hown, hVB, hfz, hNil⟩, hmap, hL⟩ := h
 obtain ⟨xs, hq⟩ := hq
 have hlen : L.length = o.length := by rw [← hmap, List.length_map]
 refine (keepLimb_any B B A V n c vn vc L.length xs L w hc hV (hfz 0) (hfz 1) hBl hvn hown hVB (by omega) (by omega) hB).mono ?_
 rintro e w' ⟨rfl, g, c', k1, k2, k3, k4, k5, k6, k7⟩
 have hS : ∀ b, b = B ∨ Value.ownBlock (.slice V vn vc) = some b → B ≤ b := fun b e => e.elim (fun e => by rw [e]; exact Nat.le_refl _) (fun e => (hown.lt b e).1)
 refine ⟨rfl, ⟨L ++ [⟨A, n, c, xs, none, 0, 0, L.length + 1⟩], ⟨some ⟨g, 0, none⟩, vn + 1, c', Nat.lt_of_lt_of_le hBl k7.size, by rw [List.length_append]; exact k1, k2, by rw [List.length_append, hvn]; rfl, k3, (fun e => k4 (by injection e)), fun j => (k6 j).trans (hfz j), fun j h1 h2 => ?_⟩, by rw [List.map_append, hmap]; rfl, fun i x hx => ?_⟩, k7.below hS hB, fun g' cur t hg ht hh => ?_⟩
 ·exact (k5 j (by have := of_decide_eq_true ((Bool.and_eq_true _ _).mp h1).1; omega) h2).trans (hNil j h1 h2)
 ·rcases Nat.lt_or_ge i L.length with hi | hi
  ·rw [List.getElem?_append_left hi] at hx
   exact hL i x hx
  ·rw [List.getElem?_append_right hi] at hx
   match hm : i - L.length, hx with
   | 0, hx =>
    injection hx with hx
    subst hx
    exact ⟨hq, by show L.length + 1 = i + 1; omega, hn⟩
   | k + 1, hx => simp at hx
 ·rw [k7.block g' (Array.getElem?_eq_some_iff.1 hh).1 (fun e => ?_)]
  ·exact hh
  ·rcases e with e | e
   ·exact hg e
   ·rcases hown.2 with ⟨e1, _⟩ | ⟨g2, c2, cur2, e1, _, hg2, _⟩
    ·rw [e1] at e; cases e
    ·rw [e1] at e
     injection e with e
     have e : g2 = g' := e
     rw [e, hh] at hg2
     injection hg2 with hg2
     injection hg2 with _ hg2 _
     rw [hg2] at ht
     simp at ht
theorem apartLimb_bk (B base : Nat) (o : List OwnAt) (wB w : World) (h : BkL base wB w B o) (h0 : 0 < o.length) (hl : o.length ≤ 1000) (hO : Owns base wB o) (hb : Below B wB w) (hB : B = wB.heap.size) (hbB : base ≤ B) :
  Calls Tryz.prog 22 #[.pointer (some ⟨B, 0, none⟩)] w fun e w' => e = .returned (.bool true) ∧ Below base w w' := by
 obtain ⟨L, hbk, hmap, hL⟩ := h
 have hlen : L.length = o.length := by rw [← hmap, List.length_map]
 have hget : ∀ (i : Nat) (x : Hl), L[i]? = some x → o[i]? = some (x.A, x.n, x.c) := fun i x hx => by rw [← hmap, List.getElem?_map, hx]; rfl
 subst hB
 have hst : BkStLimb base w wB.heap.size L := by
  obtain ⟨V, vn, vc, h1, h2, h3, h4, h5, h6⟩ := hbk
  refine ⟨V, vn, vc, h1, h2, h3, h4, ⟨h5.1, ?_⟩, h6⟩
  rcases h5.2 with hn | ⟨g, cap, cur, hv, hg, rest⟩
  ·exact .inl hn
  ·exact .inr ⟨g, cap, cur, hv, Nat.le_trans hbB hg, rest⟩
 refine apartLimb_st wB.heap.size base L w hst (by omega) (fun i x hx => ?_) (fun i j x y hij hx hy g hg => ?_) (fun i x hx => ⟨⟨?_, (hL i x hx).2.2⟩, fun e => ?_⟩) (by omega) (Nat.le_trans hbB hb.size)
 ·exact Fr.row (hL i x hx).1 (Fr.of_below (fun _ => False) hb) (fun _ _ => id)
 ·exact far_at hO.2 (hget i x hx) (hget j y hy) hij g hg
 ·have := (hL i x hx).2.1
  have : i < L.length := (List.getElem?_eq_some_iff.1 hx).1
  omega
 ·have := ((hL i x hx).1.lt _ e).2
  omega
theorem bk_int (B base : Nat) (neg : Bool) (A : Option Addr) (n c : Nat) (o : List OwnAt) (wB w : World) (h : BkL base wB w B o) (hq : OwnR base wB (A, n, c)) (hn : n ≤ 1000000000) (hl : o.length ≤ 1000) (hB : B ≤ w.heap.size) :
  Calls Tryz.prog 124 #[.pointer (some ⟨B, 0, none⟩), .agg #[.bool neg, .slice A n c]] w (RetBk base wB w B (o ++ [(A, n, c)])) := by
 have hb0 : Below w.heap.size w (w.alloc (.cells #[.bool neg, .slice A n c] 24)) := (Below.refl _ _).alloc (Nat.le_refl _) _
 have h0 := h.next hb0
 have hs0 := hb0.size
 go_enter Tryz.func124, Tryz.ntmps124
 go_wp2_with fail
 refine (keepLimb_bk B base A n c o wB _ h0 hq hn hl (by omega)).mono ?_
 rintro e1 w1 ⟨rfl, k1, k2, k3⟩
 go_wp2_with fail
 exact bodyPost_end (v := .tuple #[]) (by simp [results, Tryz.results124]) rfl ⟨rfl, k1, (hb0.mono hB).trans k2, (KpL.of_below hb0).trans k3⟩
theorem bk_frac (B base : Nat) (sa za : Bool) (Aa Ba : Option Addr) (na ca ma da : Nat) (o : List OwnAt) (wB w : World) (h : BkL base wB w B o) (h0 : OwnR base wB (Aa, na, ca) ∧ na ≤ 1000000000) (h1 : OwnR base wB (Ba, ma, da) ∧ ma ≤ 1000000000) (hl : o.length ≤ 990) (hB : B ≤ w.heap.size) :
  Calls Tryz.prog 29 #[.pointer (some ⟨B, 0, none⟩), .agg #[.bool sa, .slice Aa na ca, .bool za, .slice Ba ma da]] w (RetBk base wB w B (o ++ [(Aa, na, ca), (Ba, ma, da)])) := by
 have hBw : B < w.heap.size := by obtain ⟨L, ⟨_, _, _, h1, _⟩, _⟩ := h; exact h1
 have hb0 : Below w.heap.size w (w.alloc (.cells #[.bool sa, .slice Aa na ca, .bool za, .slice Ba ma da] 26)) := (Below.refl _ _).alloc (Nat.le_refl _) _
 have r0 : (w.alloc (.cells #[.bool sa, .slice Aa na ca, .bool za, .slice Ba ma da] 26)).heap[w.heap.size]? = some (.cells #[.bool sa, .slice Aa na ca, .bool za, .slice Ba ma da] 26 (0, 0)) := heap_alloc_new w _
 have k0 := h.next hb0
 have hs0 : w.heap.size < (w.alloc (.cells #[.bool sa, .slice Aa na ca, .bool za, .slice Ba ma da] 26)).heap.size := by simp
 have hty : (26 == 163) = false := by decide
 have hne : w.heap.size ≠ B := by omega
 have hz0 := (hb0.mono hB)
 have kp0 : KpL B w (w.alloc (.cells #[.bool sa, .slice Aa na ca, .bool za, .slice Ba ma da] 26)) := KpL.of_below hb0
 go_enter Tryz.func29, Tryz.ntmps29
 go_upto_region 1 with (fail)
 generalize w.alloc (.cells #[.bool sa, .slice Aa na ca, .bool za, .slice Ba ma da] 26) = w0 at r0 k0 hs0 hz0 kp0 ⊢
 clear hb0 h
 have l0_0 := cell_of_row w0 w.heap.size 0 #[.bool sa, .slice Aa na ca, .bool za, .slice Ba ma da] 26 (0, 0) r0
 have l0_1 := cell_of_row w0 w.heap.size 1 #[.bool sa, .slice Aa na ca, .bool za, .slice Ba ma da] 26 (0, 0) r0
 simp only [List.getElem?_toArray, List.getElem?_cons_succ, List.getElem?_cons_zero] at l0_0 l0_1
 go_wp2_with fail
 refine (bk_int B base sa Aa na ca _ wB w0 k0 h0.1 h0.2 (by omega) (by omega)).mono ?_
 rintro e1 w1 ⟨rfl, k1, z0, p0⟩
 have r1 := p0 _ _ _ hne hty r0
 have hz1 := hz0.trans z0
 have kp1 := kp0.trans p0
 have hs1 := (Array.getElem?_eq_some_iff.1 r1).1
 clear k0 z0 p0 r0 hz0 kp0 hs0 l0_0 l0_1
 have l1_0 := cell_of_row w1 w.heap.size 2 #[.bool sa, .slice Aa na ca, .bool za, .slice Ba ma da] 26 (0, 0) r1
 have l1_1 := cell_of_row w1 w.heap.size 3 #[.bool sa, .slice Aa na ca, .bool za, .slice Ba ma da] 26 (0, 0) r1
 simp only [List.getElem?_toArray, List.getElem?_cons_succ, List.getElem?_cons_zero] at l1_0 l1_1
 go_wp2_with fail
 refine (bk_int B base za Ba ma da _ wB w1 k1 h1.1 h1.2 (by simp only [List.length_append, List.length_cons, List.length_nil]; omega) (by omega)).mono ?_
 rintro e2 w2 ⟨rfl, k2, z1, p1⟩
 have r2 := p1 _ _ _ hne hty r1
 have hz2 := hz1.trans z1
 have kp2 := kp1.trans p1
 have hs2 := (Array.getElem?_eq_some_iff.1 r2).1
 clear k1 z1 p1 r1 hz1 kp1 hs1 l1_0 l1_1
 go_wp2_with fail
 exact bodyPost_end (v := .tuple #[]) (by simp [results, Tryz.results29]) rfl ⟨rfl, by simpa using k2, hz2, kp2⟩
theorem bk_gauss (B base : Nat) (sa za : Bool) (Aa Ba : Option Addr) (na ca ma da : Nat) (sb zb : Bool) (Ab Bb : Option Addr) (nb cb mb db : Nat) (o : List OwnAt) (wB w : World) (h : BkL base wB w B o) (h0 : OwnR base wB (Aa, na, ca) ∧ na ≤ 1000000000) (h1 : OwnR base wB (Ba, ma, da) ∧ ma ≤ 1000000000) (h2 : OwnR base wB (Ab, nb, cb) ∧ nb ≤ 1000000000) (h3 : OwnR base wB (Bb, mb, db) ∧ mb ≤ 1000000000) (hl : o.length ≤ 980) (hB : B ≤ w.heap.size) :
  Calls Tryz.prog 20 #[.pointer (some ⟨B, 0, none⟩), .agg #[.bool sa, .slice Aa na ca, .bool za, .slice Ba ma da, .bool sb, .slice Ab nb cb, .bool zb, .slice Bb mb db]] w (RetBk base wB w B (o ++ [(Aa, na, ca), (Ba, ma, da), (Ab, nb, cb), (Bb, mb, db)])) := by
 have hBw : B < w.heap.size := by obtain ⟨L, ⟨_, _, _, h1, _⟩, _⟩ := h; exact h1
 have hb0 : Below w.heap.size w (w.alloc (.cells #[.bool sa, .slice Aa na ca, .bool za, .slice Ba ma da, .bool sb, .slice Ab nb cb, .bool zb, .slice Bb mb db] 30)) := (Below.refl _ _).alloc (Nat.le_refl _) _
 have r0 : (w.alloc (.cells #[.bool sa, .slice Aa na ca, .bool za, .slice Ba ma da, .bool sb, .slice Ab nb cb, .bool zb, .slice Bb mb db] 30)).heap[w.heap.size]? = some (.cells #[.bool sa, .slice Aa na ca, .bool za, .slice Ba ma da, .bool sb, .slice Ab nb cb, .bool zb, .slice Bb mb db] 30 (0, 0)) := heap_alloc_new w _
 have k0 := h.next hb0
 have hs0 : w.heap.size < (w.alloc (.cells #[.bool sa, .slice Aa na ca, .bool za, .slice Ba ma da, .bool sb, .slice Ab nb cb, .bool zb, .slice Bb mb db] 30)).heap.size := by simp
 have hty : (30 == 163) = false := by decide
 have hne : w.heap.size ≠ B := by omega
 have hz0 := (hb0.mono hB)
 have kp0 : KpL B w (w.alloc (.cells #[.bool sa, .slice Aa na ca, .bool za, .slice Ba ma da, .bool sb, .slice Ab nb cb, .bool zb, .slice Bb mb db] 30)) := KpL.of_below hb0
 go_enter Tryz.func20, Tryz.ntmps20
 go_upto_region 1 with (fail)
 generalize w.alloc (.cells #[.bool sa, .slice Aa na ca, .bool za, .slice Ba ma da, .bool sb, .slice Ab nb cb, .bool zb, .slice Bb mb db] 30) = w0 at r0 k0 hs0 hz0 kp0 ⊢
 clear hb0 h
 have l0_0 := cell_of_row w0 w.heap.size 0 #[.bool sa, .slice Aa na ca, .bool za, .slice Ba ma da, .bool sb, .slice Ab nb cb, .bool zb, .slice Bb mb db] 30 (0, 0) r0
 have l0_1 := cell_of_row w0 w.heap.size 1 #[.bool sa, .slice Aa na ca, .bool za, .slice Ba ma da, .bool sb, .slice Ab nb cb, .bool zb, .slice Bb mb db] 30 (0, 0) r0
 have l0_2 := cell_of_row w0 w.heap.size 2 #[.bool sa, .slice Aa na ca, .bool za, .slice Ba ma da, .bool sb, .slice Ab nb cb, .bool zb, .slice Bb mb db] 30 (0, 0) r0
 have l0_3 := cell_of_row w0 w.heap.size 3 #[.bool sa, .slice Aa na ca, .bool za, .slice Ba ma da, .bool sb, .slice Ab nb cb, .bool zb, .slice Bb mb db] 30 (0, 0) r0
 simp only [List.getElem?_toArray, List.getElem?_cons_succ, List.getElem?_cons_zero] at l0_0 l0_1 l0_2 l0_3
 go_wp2_with fail
 refine (bk_frac B base sa za Aa Ba na ca ma da _ wB w0 k0 h0 h1 (by omega) (by omega)).mono ?_
 rintro e1 w1 ⟨rfl, k1, z0, p0⟩
 have r1 := p0 _ _ _ hne hty r0
 have hz1 := hz0.trans z0
 have kp1 := kp0.trans p0
 have hs1 := (Array.getElem?_eq_some_iff.1 r1).1
 clear k0 z0 p0 r0 hz0 kp0 hs0 l0_0 l0_1 l0_2 l0_3
 have l1_0 := cell_of_row w1 w.heap.size 4 #[.bool sa, .slice Aa na ca, .bool za, .slice Ba ma da, .bool sb, .slice Ab nb cb, .bool zb, .slice Bb mb db] 30 (0, 0) r1
 have l1_1 := cell_of_row w1 w.heap.size 5 #[.bool sa, .slice Aa na ca, .bool za, .slice Ba ma da, .bool sb, .slice Ab nb cb, .bool zb, .slice Bb mb db] 30 (0, 0) r1
 have l1_2 := cell_of_row w1 w.heap.size 6 #[.bool sa, .slice Aa na ca, .bool za, .slice Ba ma da, .bool sb, .slice Ab nb cb, .bool zb, .slice Bb mb db] 30 (0, 0) r1
 have l1_3 := cell_of_row w1 w.heap.size 7 #[.bool sa, .slice Aa na ca, .bool za, .slice Ba ma da, .bool sb, .slice Ab nb cb, .bool zb, .slice Bb mb db] 30 (0, 0) r1
 simp only [List.getElem?_toArray, List.getElem?_cons_succ, List.getElem?_cons_zero] at l1_0 l1_1 l1_2 l1_3
 go_wp2_with fail
 refine (bk_frac B base sb zb Ab Bb nb cb mb db _ wB w1 k1 h2 h3 (by simp only [List.length_append, List.length_cons, List.length_nil]; omega) (by omega)).mono ?_
 rintro e2 w2 ⟨rfl, k2, z1, p1⟩
 have r2 := p1 _ _ _ hne hty r1
 have hz2 := hz1.trans z1
 have kp2 := kp1.trans p1
 have hs2 := (Array.getElem?_eq_some_iff.1 r2).1
 clear k1 z1 p1 r1 hz1 kp1 hs1 l1_0 l1_1 l1_2 l1_3
 go_wp2_with fail
 exact bodyPost_end (v := .tuple #[]) (by simp [results, Tryz.results20]) rfl ⟨rfl, by simpa using k2, hz2, kp2⟩
theorem bk_matrix (B base : Nat) (sa za : Bool) (Aa Ba : Option Addr) (na ca ma da : Nat) (sb zb : Bool) (Ab Bb : Option Addr) (nb cb mb db : Nat) (sc zc : Bool) (Ac Bc : Option Addr) (nc cc mc dc : Nat) (sd zd : Bool) (Ad Bd : Option Addr) (nd cd md dd : Nat) (o : List OwnAt) (wB w : World) (h : BkL base wB w B o) (h0 : OwnR base wB (Aa, na, ca) ∧ na ≤ 1000000000) (h1 : OwnR base wB (Ba, ma, da) ∧ ma ≤ 1000000000) (h2 : OwnR base wB (Ab, nb, cb) ∧ nb ≤ 1000000000) (h3 : OwnR base wB (Bb, mb, db) ∧ mb ≤ 1000000000) (h4 : OwnR base wB (Ac, nc, cc) ∧ nc ≤ 1000000000) (h5 : OwnR base wB (Bc, mc, dc) ∧ mc ≤ 1000000000) (h6 : OwnR base wB (Ad, nd, cd) ∧ nd ≤ 1000000000) (h7 : OwnR base wB (Bd, md, dd) ∧ md ≤ 1000000000) (hl : o.length ≤ 900) (hB : B ≤ w.heap.size) :
  Calls Tryz.prog 21 #[.pointer (some ⟨B, 0, none⟩), .agg #[.bool sa, .slice Aa na ca, .bool za, .slice Ba ma da, .bool sb, .slice Ab nb cb, .bool zb, .slice Bb mb db, .bool sc, .slice Ac nc cc, .bool zc, .slice Bc mc dc, .bool sd, .slice Ad nd cd, .bool zd, .slice Bd md dd]] w (RetBk base wB w B (o ++ [(Aa, na, ca), (Ba, ma, da), (Ab, nb, cb), (Bb, mb, db), (Ac, nc, cc), (Bc, mc, dc), (Ad, nd, cd), (Bd, md, dd)])) := by
 have hBw : B < w.heap.size := by obtain ⟨L, ⟨_, _, _, h1, _⟩, _⟩ := h; exact h1
 have hb0 : Below w.heap.size w (w.alloc (.cells #[.bool sa, .slice Aa na ca, .bool za, .slice Ba ma da, .bool sb, .slice Ab nb cb, .bool zb, .slice Bb mb db, .bool sc, .slice Ac nc cc, .bool zc, .slice Bc mc dc, .bool sd, .slice Ad nd cd, .bool zd, .slice Bd md dd] 28)) := (Below.refl _ _).alloc (Nat.le_refl _) _
 have r0 : (w.alloc (.cells #[.bool sa, .slice Aa na ca, .bool za, .slice Ba ma da, .bool sb, .slice Ab nb cb, .bool zb, .slice Bb mb db, .bool sc, .slice Ac nc cc, .bool zc, .slice Bc mc dc, .bool sd, .slice Ad nd cd, .bool zd, .slice Bd md dd] 28)).heap[w.heap.size]? = some (.cells #[.bool sa, .slice Aa na ca, .bool za, .slice Ba ma da, .bool sb, .slice Ab nb cb, .bool zb, .slice Bb mb db, .bool sc, .slice Ac nc cc, .bool zc, .slice Bc mc dc, .bool sd, .slice Ad nd cd, .bool zd, .slice Bd md dd] 28 (0, 0)) := heap_alloc_new w _
 have k0 := h.next hb0
 have hs0 : w.heap.size < (w.alloc (.cells #[.bool sa, .slice Aa na ca, .bool za, .slice Ba ma da, .bool sb, .slice Ab nb cb, .bool zb, .slice Bb mb db, .bool sc, .slice Ac nc cc, .bool zc, .slice Bc mc dc, .bool sd, .slice Ad nd cd, .bool zd, .slice Bd md dd] 28)).heap.size := by simp
 have hty : (28 == 163) = false := by decide
 have hne : w.heap.size ≠ B := by omega
 have hz0 := (hb0.mono hB)
 have kp0 : KpL B w (w.alloc (.cells #[.bool sa, .slice Aa na ca, .bool za, .slice Ba ma da, .bool sb, .slice Ab nb cb, .bool zb, .slice Bb mb db, .bool sc, .slice Ac nc cc, .bool zc, .slice Bc mc dc, .bool sd, .slice Ad nd cd, .bool zd, .slice Bd md dd] 28)) := KpL.of_below hb0
 go_enter Tryz.func21, Tryz.ntmps21
 go_upto_region 1 with (fail)
 generalize w.alloc (.cells #[.bool sa, .slice Aa na ca, .bool za, .slice Ba ma da, .bool sb, .slice Ab nb cb, .bool zb, .slice Bb mb db, .bool sc, .slice Ac nc cc, .bool zc, .slice Bc mc dc, .bool sd, .slice Ad nd cd, .bool zd, .slice Bd md dd] 28) = w0 at r0 k0 hs0 hz0 kp0 ⊢
 clear hb0 h
 have l0_0 := cell_of_row w0 w.heap.size 0 #[.bool sa, .slice Aa na ca, .bool za, .slice Ba ma da, .bool sb, .slice Ab nb cb, .bool zb, .slice Bb mb db, .bool sc, .slice Ac nc cc, .bool zc, .slice Bc mc dc, .bool sd, .slice Ad nd cd, .bool zd, .slice Bd md dd] 28 (0, 0) r0
 have l0_1 := cell_of_row w0 w.heap.size 1 #[.bool sa, .slice Aa na ca, .bool za, .slice Ba ma da, .bool sb, .slice Ab nb cb, .bool zb, .slice Bb mb db, .bool sc, .slice Ac nc cc, .bool zc, .slice Bc mc dc, .bool sd, .slice Ad nd cd, .bool zd, .slice Bd md dd] 28 (0, 0) r0
 have l0_2 := cell_of_row w0 w.heap.size 2 #[.bool sa, .slice Aa na ca, .bool za, .slice Ba ma da, .bool sb, .slice Ab nb cb, .bool zb, .slice Bb mb db, .bool sc, .slice Ac nc cc, .bool zc, .slice Bc mc dc, .bool sd, .slice Ad nd cd, .bool zd, .slice Bd md dd] 28 (0, 0) r0
 have l0_3 := cell_of_row w0 w.heap.size 3 #[.bool sa, .slice Aa na ca, .bool za, .slice Ba ma da, .bool sb, .slice Ab nb cb, .bool zb, .slice Bb mb db, .bool sc, .slice Ac nc cc, .bool zc, .slice Bc mc dc, .bool sd, .slice Ad nd cd, .bool zd, .slice Bd md dd] 28 (0, 0) r0
 simp only [List.getElem?_toArray, List.getElem?_cons_succ, List.getElem?_cons_zero] at l0_0 l0_1 l0_2 l0_3
 go_wp2_with fail
 refine (bk_frac B base sa za Aa Ba na ca ma da _ wB w0 k0 h0 h1 (by omega) (by omega)).mono ?_
 rintro e1 w1 ⟨rfl, k1, z0, p0⟩
 have r1 := p0 _ _ _ hne hty r0
 have hz1 := hz0.trans z0
 have kp1 := kp0.trans p0
 have hs1 := (Array.getElem?_eq_some_iff.1 r1).1
 clear k0 z0 p0 r0 hz0 kp0 hs0 l0_0 l0_1 l0_2 l0_3
 have l1_0 := cell_of_row w1 w.heap.size 4 #[.bool sa, .slice Aa na ca, .bool za, .slice Ba ma da, .bool sb, .slice Ab nb cb, .bool zb, .slice Bb mb db, .bool sc, .slice Ac nc cc, .bool zc, .slice Bc mc dc, .bool sd, .slice Ad nd cd, .bool zd, .slice Bd md dd] 28 (0, 0) r1
 have l1_1 := cell_of_row w1 w.heap.size 5 #[.bool sa, .slice Aa na ca, .bool za, .slice Ba ma da, .bool sb, .slice Ab nb cb, .bool zb, .slice Bb mb db, .bool sc, .slice Ac nc cc, .bool zc, .slice Bc mc dc, .bool sd, .slice Ad nd cd, .bool zd, .slice Bd md dd] 28 (0, 0) r1
 have l1_2 := cell_of_row w1 w.heap.size 6 #[.bool sa, .slice Aa na ca, .bool za, .slice Ba ma da, .bool sb, .slice Ab nb cb, .bool zb, .slice Bb mb db, .bool sc, .slice Ac nc cc, .bool zc, .slice Bc mc dc, .bool sd, .slice Ad nd cd, .bool zd, .slice Bd md dd] 28 (0, 0) r1
 have l1_3 := cell_of_row w1 w.heap.size 7 #[.bool sa, .slice Aa na ca, .bool za, .slice Ba ma da, .bool sb, .slice Ab nb cb, .bool zb, .slice Bb mb db, .bool sc, .slice Ac nc cc, .bool zc, .slice Bc mc dc, .bool sd, .slice Ad nd cd, .bool zd, .slice Bd md dd] 28 (0, 0) r1
 simp only [List.getElem?_toArray, List.getElem?_cons_succ, List.getElem?_cons_zero] at l1_0 l1_1 l1_2 l1_3
 go_wp2_with fail
 refine (bk_frac B base sb zb Ab Bb nb cb mb db _ wB w1 k1 h2 h3 (by simp only [List.length_append, List.length_cons, List.length_nil]; omega) (by omega)).mono ?_
 rintro e2 w2 ⟨rfl, k2, z1, p1⟩
 have r2 := p1 _ _ _ hne hty r1
 have hz2 := hz1.trans z1
 have kp2 := kp1.trans p1
 have hs2 := (Array.getElem?_eq_some_iff.1 r2).1
 clear k1 z1 p1 r1 hz1 kp1 hs1 l1_0 l1_1 l1_2 l1_3
 have l2_0 := cell_of_row w2 w.heap.size 8 #[.bool sa, .slice Aa na ca, .bool za, .slice Ba ma da, .bool sb, .slice Ab nb cb, .bool zb, .slice Bb mb db, .bool sc, .slice Ac nc cc, .bool zc, .slice Bc mc dc, .bool sd, .slice Ad nd cd, .bool zd, .slice Bd md dd] 28 (0, 0) r2
 have l2_1 := cell_of_row w2 w.heap.size 9 #[.bool sa, .slice Aa na ca, .bool za, .slice Ba ma da, .bool sb, .slice Ab nb cb, .bool zb, .slice Bb mb db, .bool sc, .slice Ac nc cc, .bool zc, .slice Bc mc dc, .bool sd, .slice Ad nd cd, .bool zd, .slice Bd md dd] 28 (0, 0) r2
 have l2_2 := cell_of_row w2 w.heap.size 10 #[.bool sa, .slice Aa na ca, .bool za, .slice Ba ma da, .bool sb, .slice Ab nb cb, .bool zb, .slice Bb mb db, .bool sc, .slice Ac nc cc, .bool zc, .slice Bc mc dc, .bool sd, .slice Ad nd cd, .bool zd, .slice Bd md dd] 28 (0, 0) r2
 have l2_3 := cell_of_row w2 w.heap.size 11 #[.bool sa, .slice Aa na ca, .bool za, .slice Ba ma da, .bool sb, .slice Ab nb cb, .bool zb, .slice Bb mb db, .bool sc, .slice Ac nc cc, .bool zc, .slice Bc mc dc, .bool sd, .slice Ad nd cd, .bool zd, .slice Bd md dd] 28 (0, 0) r2
 simp only [List.getElem?_toArray, List.getElem?_cons_succ, List.getElem?_cons_zero] at l2_0 l2_1 l2_2 l2_3
 go_wp2_with fail
 refine (bk_frac B base sc zc Ac Bc nc cc mc dc _ wB w2 k2 h4 h5 (by simp only [List.length_append, List.length_cons, List.length_nil]; omega) (by omega)).mono ?_
 rintro e3 w3 ⟨rfl, k3, z2, p2⟩
 have r3 := p2 _ _ _ hne hty r2
 have hz3 := hz2.trans z2
 have kp3 := kp2.trans p2
 have hs3 := (Array.getElem?_eq_some_iff.1 r3).1
 clear k2 z2 p2 r2 hz2 kp2 hs2 l2_0 l2_1 l2_2 l2_3
 have l3_0 := cell_of_row w3 w.heap.size 12 #[.bool sa, .slice Aa na ca, .bool za, .slice Ba ma da, .bool sb, .slice Ab nb cb, .bool zb, .slice Bb mb db, .bool sc, .slice Ac nc cc, .bool zc, .slice Bc mc dc, .bool sd, .slice Ad nd cd, .bool zd, .slice Bd md dd] 28 (0, 0) r3
 have l3_1 := cell_of_row w3 w.heap.size 13 #[.bool sa, .slice Aa na ca, .bool za, .slice Ba ma da, .bool sb, .slice Ab nb cb, .bool zb, .slice Bb mb db, .bool sc, .slice Ac nc cc, .bool zc, .slice Bc mc dc, .bool sd, .slice Ad nd cd, .bool zd, .slice Bd md dd] 28 (0, 0) r3
 have l3_2 := cell_of_row w3 w.heap.size 14 #[.bool sa, .slice Aa na ca, .bool za, .slice Ba ma da, .bool sb, .slice Ab nb cb, .bool zb, .slice Bb mb db, .bool sc, .slice Ac nc cc, .bool zc, .slice Bc mc dc, .bool sd, .slice Ad nd cd, .bool zd, .slice Bd md dd] 28 (0, 0) r3
 have l3_3 := cell_of_row w3 w.heap.size 15 #[.bool sa, .slice Aa na ca, .bool za, .slice Ba ma da, .bool sb, .slice Ab nb cb, .bool zb, .slice Bb mb db, .bool sc, .slice Ac nc cc, .bool zc, .slice Bc mc dc, .bool sd, .slice Ad nd cd, .bool zd, .slice Bd md dd] 28 (0, 0) r3
 simp only [List.getElem?_toArray, List.getElem?_cons_succ, List.getElem?_cons_zero] at l3_0 l3_1 l3_2 l3_3
 go_wp2_with fail
 refine (bk_frac B base sd zd Ad Bd nd cd md dd _ wB w3 k3 h6 h7 (by simp only [List.length_append, List.length_cons, List.length_nil]; omega) (by omega)).mono ?_
 rintro e4 w4 ⟨rfl, k4, z3, p3⟩
 have r4 := p3 _ _ _ hne hty r3
 have hz4 := hz3.trans z3
 have kp4 := kp3.trans p3
 have hs4 := (Array.getElem?_eq_some_iff.1 r4).1
 clear k3 z3 p3 r3 hz3 kp3 hs3 l3_0 l3_1 l3_2 l3_3
 go_wp2_with fail
 exact bodyPost_end (v := .tuple #[]) (by simp [results, Tryz.results21]) rfl ⟨rfl, by simpa using k4, hz4, kp4⟩
end Go.Proofs.YtgekmbfmfiikkaaGreatDoor
