/-
  The twins in memory of their own: numbers, fractions, complex numbers.
-/
import Derived.Test.YtmmplomkginadaaGreatDoorExV
import Derived.Test.YtmmplomkginadaaGreatDoorOwI
import Derived.Test.YtmmplomkginadaaGreatDoorExFf
import Derived.Test.YtmmplomkginadaaGreatDoorAnD
import Derived.Test.YtmmplomkginadaaGreatDoorLst
namespace Go.Proofs.YtmmplomkginadaaGreatDoor
open Go.RowKit

theorem Mo.all {B : Nat} {w wr : World} {L : List (Nat × List Value)} {l : List IntAt} {o : List OwnAt} (h : Mo B w L l o wr) : Owns B wr o := h.2.2.2.1
theorem Mo.set8 {B : Nat} {w wr : World} {L : List (Nat × List Value)} {l : List IntAt} {o : List OwnAt} {g : Nat} {b0 b1 b2 b3 : Bool} {a0 a1 a2 a3 : Option Addr} {n0 c0 n1 c1 n2 c2 n3 c3 : Nat}
    (h : Mo B w ((g, [.bool b0, .slice a0 n0 c0, .bool b1, .slice a1 n1 c1, .bool b2, .slice a2 n2 c2, .bool b3, .slice a3 n3 c3]) :: L) l o wr) (hne : ∀ b ∈ L, g ≠ b.1)
    (s : Bool) (A : Option Addr) (n c : Nat) (z : Bool) (A' : Option Addr) (m d : Nat) (s' : Bool) (A2 : Option Addr) (n' c' : Nat) (z' : Bool) (A3 : Option Addr) (m' d' : Nat) :
    Mo B w ((g, [.bool s, .slice A n c, .bool z, .slice A' m d, .bool s', .slice A2 n' c', .bool z', .slice A3 m' d']) :: L) l o
      ((((((((wr.setCell ⟨g, 0, none⟩ (.bool s)).setCell ⟨g, 1, none⟩ (.slice A n c)).setCell ⟨g, 2, none⟩ (.bool z)).setCell ⟨g, 3, none⟩ (.slice A' m d)).setCell ⟨g, 4, none⟩ (.bool s')).setCell ⟨g, 5, none⟩ (.slice A2 n' c')).setCell ⟨g, 6, none⟩ (.bool z')).setCell ⟨g, 7, none⟩ (.slice A3 m' d')) :=
  (((((((h.set hne (.bool b0) (.bool s) rfl (by simp)).set hne (.slice a0 n0 c0) (.slice A n c) rfl (by simp)).set hne (.bool b1) (.bool z) rfl (by simp)).set hne (.slice a1 n1 c1) (.slice A' m d) rfl (by simp)).set hne (.bool b2) (.bool s') rfl (by simp)).set hne (.slice a2 n2 c2) (.slice A2 n' c') rfl (by simp)).set hne (.bool b3) (.bool z') rfl (by simp)).set hne (.slice a3 n3 c3) (.slice A3 m' d') rfl (by simp)
def RetTwiO (W : World) (neg : Bool) (n : Nat) (l : List Nat) (e : Ending) (w' : World) : Prop :=
  ∃ g c, e = .returned (.agg #[.bool neg, .slice (some ⟨g, 0, none⟩) n c]) ∧ Twl w' g n c l ∧ Owns W.heap.size w' [(some ⟨g, 0, none⟩, n, c)] ∧ Below W.heap.size W w' ∧ W.heap.size ≤ g
set_option maxRecDepth 100000 in
set_option maxHeartbeats 1600000 in
theorem owt_int_any (neg : Bool) (A : Option Addr) (n c : Nat) (l : List Nat) (w : World) (ha : Sl w A n c l) (hn : n ≤ 1000000000) :
    Calls Tryz.prog 172 #[.agg #[.bool neg, .slice A n c]] w (RetTwiO w neg n l) := by
  obtain ⟨i0, hi, hz0, hz1, hz2⟩ := info_parts info_u32
  have e1 : (((n : Nat) : Int) + 1) = ((n + 1 : Nat) : Int) := by omega
  have HE := Lib.hid e1
  clear e1
  have K0 := ((Mo.nil w).var (g := w.heap.size) rfl [.bool neg, .slice A n c] 24).var (g := w.heap.size + 1) (by simp) [.bool false, .slice none 0 0] 24
  have ha0 := ha.below K0.1
  clear ha
  go_enter Tryz.func172, Tryz.ntmps172
  go_wp2_with (at_make; (generalize (w.alloc (.cells #[.bool neg, .slice A n c] 24)).alloc (.cells #[.bool false, .slice none 0 0] 24) = w0 at K0 ha0 ⊢); refine wpList_make_own _ rfl _ _ 22 rfl w0.heap.size 169 i0 (.int .u32 0) 1 Tryz.underlying22 hi hz0 hz1 _ _ _ (n + 1) rfl rfl ?c1 ?c2 ?c3 ?c4 ?_)
  case c1 => exact HE.out
  case c2 => rw [hz2]; omega
  case c3 => unfold maxLen; omega
  case c4 => simp
  intro w1 hown1 hgrow1
  have hb1 : Below w0.heap.size w0 w1 := (Below.refl _ _).grown hgrow1 (Nat.le_refl _) (fun k hk => by cases hk)
  have ha1 := ha0.below hb1
  have K1 := K0.next hb1
  obtain ⟨qa1, qb1, qc1, qd1, qe1⟩ := (K1.blk (g := w.heap.size) (vs := [.bool neg, .slice A n c]) (by simp)).two
  have hlen : l.length = n := ha0.len
  have hok : Lm.ok l := ha0.ok
  clear hgrow1 ha0
  go_wp2_with (at_builtin; refine wpList_append_room1 _ rfl _ _ 22 rfl w0.heap.size 169 i0 Tryz.underlying22 hi hz1 w0.heap.size 0 (n + 1) [] rfl hown1 _ A n c (u32s l) rfl ha1.1 (u32s_one l) (by omega) ?_)
  intro w2 hown2 hgrow2
  have hb2 : Below w0.heap.size w0 w2 := hb1.grown hgrow2 hb1.size (fun k hk => by injection hk with hk; omega)
  go_wp2_with fail
  have K2 := K0.next hb2
  obtain ⟨qa2, qb2, qc2, qd2, qe2⟩ := (K2.blk (g := w.heap.size) (vs := [.bool neg, .slice A n c]) (by simp)).two
  have hs2 : w0.heap.size ≤ w2.heap.size := hb2.size
  have hz3 : w.heap.size + 1 < w0.heap.size := (K0.blk (g := w.heap.size + 1) (vs := [.bool false, .slice none 0 0]) (by simp)).two.2.2.2.2
  have hl0 : (0 : Int) ≤ (n : Int) := by omega
  have hl1 : (n : Int) ≤ (n : Int) + 1 := by omega
  have hl2 : (n : Int) ≤ ((n + 1 : Nat) : Int) := by omega
  have hl3 : ¬ (n : Int) < 0 := by omega
  have hl4 : ¬ (n : Int) + 1 < (n : Int) := by omega
  have hl5 : ¬ ((n + 1 : Nat) : Int) < (n : Int) := by omega
  have hl6 : ¬ n + 1 < n := by omega
  have hl7 : n ≤ n + 1 := by omega
  clear hgrow2 hown1 K1 qa1 qb1 qc1 qd1 qe1 ha1
  go_region_held3 (fun w' => w'.cell? ⟨w.heap.size, 0, none⟩ = some (.bool neg) ∧ w'.cell? ⟨w.heap.size, 1, none⟩ = some (.slice A n c))
    (go_keep)
    (first
      | (refine step_append_room1 _ (by rfl) _ _ 22 (by rfl) w0.heap.size 169 i0 Tryz.underlying22 hi hz1 w0.heap.size n (n + 1) (u32s l) (by rfl) (hown2.alloc _) _ (some ⟨w2.heap.size, 0, none⟩) 1 1 [.int .u32 7777] (by rfl) (reads_new _ _ _) (by simp [Value.oneCell']) (Nat.le_refl _) ?_; intro w3 hown3 hgrow3; have hb3 : Below w0.heap.size w0 w3 := (by first | exact (hb2.alloc hs2 _).grown hgrow3 (by simp; omega) (fun k hk => by injection hk with hk; omega) | exact (below_to_drew (hb2.alloc hs2 _)).grown hgrow3 (by simp; omega) (fun k hk => by injection hk with hk; omega) | exact (below_drewN (hb2.alloc hs2 _) _).grown hgrow3 (by simp; omega) (fun k hk => by injection hk with hk; omega)); have T3 := twl_of_own hown3 hlen hok; have K3 := K0.call1 hb3 (Owns.one (OwnR.cut (q := (some ⟨w0.heap.size, 0, none⟩, n + 1, n + 1)) (q' := (some ⟨w0.heap.size, 0, none⟩, n, n + 1)) ⟨_, hown3⟩ (.inr ⟨rfl, rfl, Nat.le_succ n⟩))); obtain ⟨qa3, qb3, qc3, qd3, qe3⟩ := (K3.blk (g := w.heap.size) (vs := [.bool neg, .slice A n c]) (by simp)).two; obtain ⟨ra3, rb3, rc3, rd3, re3⟩ := (K3.blk (g := w.heap.size + 1) (vs := [.bool false, .slice none 0 0]) (by simp)).two; clear hown3 hgrow3 hb3))
  all_goals
   go_wp2_with fail
   have KE := (K3.pick (L' := [(w.heap.size + 1, [.bool false, .slice none 0 0])]) (l' := []) (by simp) (by simp)).set2 (by simp <;> omega) neg (some ⟨w0.heap.size, 0, none⟩) n (n + 1)
   have TE := (T3.far (p := ⟨w.heap.size + 1, 0, none⟩) (.bool neg) (by simp; omega)).far (p := ⟨w.heap.size + 1, 1, none⟩) (.slice (some ⟨w0.heap.size, 0, none⟩) n (n + 1)) (by simp; omega)
   exact bodyPost_ret (v := .agg #[.bool neg, .slice (some ⟨w0.heap.size, 0, none⟩) n (n + 1)]) (by simp [results, Tryz.results172, go_sem, ra3, rb3]) rfl ⟨w0.heap.size, n + 1, rfl, TE, KE.all, KE.1, by omega⟩
def RetTwfO (W : World) (neg : Bool) (n : Nat) (l : List Nat) (neg' : Bool) (n' : Nat) (l' : List Nat) (e : Ending) (w' : World) : Prop :=
  ∃ g c g' c', e = .returned (.agg #[.bool neg, .slice (some ⟨g, 0, none⟩) n c, .bool neg', .slice (some ⟨g', 0, none⟩) n' c']) ∧ Twl w' g n c l ∧ Twl w' g' n' c' l' ∧ Owns W.heap.size w' [(some ⟨g', 0, none⟩, n', c'), (some ⟨g, 0, none⟩, n, c)] ∧ Below W.heap.size W w' ∧ W.heap.size ≤ g ∧ W.heap.size ≤ g'
set_option maxRecDepth 100000 in
set_option maxHeartbeats 1600000 in
theorem owt_frac_any (neg neg' : Bool) (A A' : Option Addr) (n c n' c' : Nat) (l l' : List Nat) (w : World) (ha : Sl w A n c l) (hb : Sl w A' n' c' l') (hn : n ≤ 1000000000) (hn' : n' ≤ 1000000000) :
    Calls Tryz.prog 55 #[.agg #[.bool neg, .slice A n c, .bool neg', .slice A' n' c']] w (RetTwfO w neg n l neg' n' l') := by
  have K0 := ((Mo.nil w).var (g := w.heap.size) rfl [.bool neg, .slice A n c, .bool neg', .slice A' n' c'] 26).var (g := w.heap.size + 1) (by simp) [.bool false, .slice none 0 0, .bool false, .slice none 0 0] 26
  have ha0 := ha.below K0.1
  have hb0 := hb.below K0.1
  clear ha hb
  go_enter Tryz.func55, Tryz.ntmps55
  go_wp2_with fail
  generalize (w.alloc (.cells #[.bool neg, .slice A n c, .bool neg', .slice A' n' c'] 26)).alloc (.cells #[.bool false, .slice none 0 0, .bool false, .slice none 0 0] 26) = w0 at K0 ha0 hb0 ⊢
  obtain ⟨⟨qa0, qb0, qc0, qd0⟩, _, qi0⟩ := (K0.blk (g := w.heap.size) (vs := [.bool neg, .slice A n c, .bool neg', .slice A' n' c']) (by simp)).four
  obtain ⟨_, _, qz0⟩ := (K0.blk (g := w.heap.size + 1) (vs := [.bool false, .slice none 0 0, .bool false, .slice none 0 0]) (by simp)).four
  go_region_held3 (fun w' => w'.cell? ⟨w.heap.size, 0, none⟩ = some (.bool neg) ∧ w'.cell? ⟨w.heap.size, 1, none⟩ = some (.slice A n c) ∧ w'.cell? ⟨w.heap.size, 2, none⟩ = some (.bool neg') ∧ w'.cell? ⟨w.heap.size, 3, none⟩ = some (.slice A' n' c'))
    (go_keep)
    (first
      | (go_at_call 172; (with_reducible refine (owt_int_any neg A n c l _ ?_ hn).mono ?_); (exact ha0); rintro e1 w1 ⟨g1, c1, rfl, T1, O1, hb1, hf1⟩; (first | (with_reducible have K1 := K0.call1 hb1 O1) | (with_reducible have K1 := K0.drew.call1 hb1 O1) | (with_reducible have K1 := (K0.drewN _).call1 hb1 O1)); have hb01 : Sl w1 A' n' c' l' := hb0.below (by first | exact hb1 | exact below_of_drew hb1 | exact below_of_drewN hb1); have far1 : w0.heap.size ≤ g1 := hf1; have hb1s : w0.heap.size ≤ w1.heap.size := hb1.size; obtain ⟨⟨qa1, qb1, qc1, qd1⟩, _, qi1⟩ := (K1.blk (g := w.heap.size) (vs := [.bool neg, .slice A n c, .bool neg', .slice A' n' c']) (by simp)).four; clear hb1)
      | (go_at_call 172; (with_reducible refine (owt_int_any neg' A' n' c' l' _ ?_ hn').mono ?_); (exact hb01); rintro e2 w2 ⟨g2, c2, rfl, T2, O2, hb2, hf2⟩; (first | (with_reducible have K2 := K1.call1 hb2 O2) | (with_reducible have K2 := K1.drew.call1 hb2 O2) | (with_reducible have K2 := (K1.drewN _).call1 hb2 O2)); have T12 : Twl w2 g1 n c1 l := T1.below (by first | exact hb2 | exact below_of_drew hb2 | exact below_of_drewN hb2); have far2 : w1.heap.size ≤ g2 := hf2; obtain ⟨⟨qa2, qb2, qc2, qd2⟩, _, qi2⟩ := (K2.blk (g := w.heap.size) (vs := [.bool neg, .slice A n c, .bool neg', .slice A' n' c']) (by simp)).four; obtain ⟨⟨ra2, rb2, rc2, rd2⟩, ⟨re2, rf2, rg2, rh2⟩, ri2⟩ := (K2.blk (g := w.heap.size + 1) (vs := [.bool false, .slice none 0 0, .bool false, .slice none 0 0]) (by simp)).four; clear hb2))
  all_goals
   go_wp2_with fail
   have K3 := (K2.pick (L' := [(w.heap.size + 1, [.bool false, .slice none 0 0, .bool false, .slice none 0 0])]) (l' := []) (by simp) (by simp)).set4 (by simp <;> omega) neg (some ⟨g1, 0, none⟩) n c1 neg' (some ⟨g2, 0, none⟩) n' c2
   have T3 := (((T12.far (p := ⟨w.heap.size + 1, 0, none⟩) (.bool neg) (by simp; omega)).far (p := ⟨w.heap.size + 1, 1, none⟩) (.slice (some ⟨g1, 0, none⟩) n c1) (by simp; omega)).far (p := ⟨w.heap.size + 1, 2, none⟩) (.bool neg') (by simp; omega)).far (p := ⟨w.heap.size + 1, 3, none⟩) (.slice (some ⟨g2, 0, none⟩) n' c2) (by simp; omega)
   have T4 := (((T2.far (p := ⟨w.heap.size + 1, 0, none⟩) (.bool neg) (by simp; omega)).far (p := ⟨w.heap.size + 1, 1, none⟩) (.slice (some ⟨g1, 0, none⟩) n c1) (by simp; omega)).far (p := ⟨w.heap.size + 1, 2, none⟩) (.bool neg') (by simp; omega)).far (p := ⟨w.heap.size + 1, 3, none⟩) (.slice (some ⟨g2, 0, none⟩) n' c2) (by simp; omega)
   exact bodyPost_ret (v := .agg #[.bool neg, .slice (some ⟨g1, 0, none⟩) n c1, .bool neg', .slice (some ⟨g2, 0, none⟩) n' c2]) (by simp [results, Tryz.results55, go_sem, ra2, rb2, rc2, rd2]) rfl ⟨g1, c1, g2, c2, rfl, T3, T4, K3.all, K3.1, by omega, by omega⟩
def RetTwGaO (W : World) (su : Bool) (nu : Nat) (lu : List Nat) (zu : Bool) (mu : Nat) (ku : List Nat) (sv : Bool) (nv : Nat) (lv : List Nat) (zv : Bool) (mv : Nat) (kv : List Nat) (e : Ending) (w' : World) : Prop :=
  ∃ gu eu hu fu gv ev hv fv : Nat, e = .returned (.agg #[.bool su, .slice (some ⟨gu, 0, none⟩) nu eu, .bool zu, .slice (some ⟨hu, 0, none⟩) mu fu, .bool sv, .slice (some ⟨gv, 0, none⟩) nv ev, .bool zv, .slice (some ⟨hv, 0, none⟩) mv fv]) ∧ Twl w' gu nu eu lu ∧ Twl w' hu mu fu ku ∧ Twl w' gv nv ev lv ∧ Twl w' hv mv fv kv ∧ Owns W.heap.size w' [(some ⟨hv, 0, none⟩, mv, fv), (some ⟨gv, 0, none⟩, nv, ev), (some ⟨hu, 0, none⟩, mu, fu), (some ⟨gu, 0, none⟩, nu, eu)] ∧ Below W.heap.size W w'
set_option maxRecDepth 100000 in
set_option maxHeartbeats 6400000 in
theorem owt_gauss_any (su : Bool) (Au : Option Addr) (nu cu : Nat) (lu : List Nat) (zu : Bool) (Bu : Option Addr) (mu du : Nat) (ku : List Nat) (sv : Bool) (Av : Option Addr) (nv cv : Nat) (lv : List Nat) (zv : Bool) (Bv : Option Addr) (mv dv : Nat) (kv : List Nat) (w : World) (Hu : LmE.at_ w ((su, Au, nu, cu, lu), (zu, Bu, mu, du, ku))) (Hv : LmE.at_ w ((sv, Av, nv, cv, lv), (zv, Bv, mv, dv, kv))) :
    Calls Tryz.prog 13 #[.agg #[.bool su, .slice Au nu cu, .bool zu, .slice Bu mu du, .bool sv, .slice Av nv cv, .bool zv, .slice Bv mv dv]] w (RetTwGaO w su nu lu zu mu ku sv nv lv zv mv kv) := by
  have K0 := ((Mo.nil w).var (g := w.heap.size) rfl [.bool su, .slice Au nu cu, .bool zu, .slice Bu mu du, .bool sv, .slice Av nv cv, .bool zv, .slice Bv mv dv] 30).var (g := w.heap.size + 1) (by simp) [.bool false, .slice none 0 0, .bool false, .slice none 0 0, .bool false, .slice none 0 0, .bool false, .slice none 0 0] 30
  have Hu0 := LmE.at_.below Hu K0.1
  have bnu : nu ≤ 1000000000 := Hu.2.2.1
  have bmu : mu ≤ 1000000000 := Hu.2.2.2
  have Hv0 := LmE.at_.below Hv K0.1
  have bnv : nv ≤ 1000000000 := Hv.2.2.1
  have bmv : mv ≤ 1000000000 := Hv.2.2.2
  clear Hu Hv
  have ne01 : ¬ w.heap.size = w.heap.size + 1 := by omega
  have ne10 : ¬ w.heap.size + 1 = w.heap.size := by omega
  go_enter Tryz.func13, Tryz.ntmps13
  go_wp2_with fail
  generalize (w.alloc (.cells #[.bool su, .slice Au nu cu, .bool zu, .slice Bu mu du, .bool sv, .slice Av nv cv, .bool zv, .slice Bv mv dv] 30)).alloc (.cells #[.bool false, .slice none 0 0, .bool false, .slice none 0 0, .bool false, .slice none 0 0, .bool false, .slice none 0 0] 30) = w0 at K0 Hu0 Hv0 ⊢
  obtain ⟨q0_0, q1_0, q2_0, q3_0, q4_0, q5_0, q6_0, q7_0⟩ := (K0.blk (g := w.heap.size) (vs := [.bool su, .slice Au nu cu, .bool zu, .slice Bu mu du, .bool sv, .slice Av nv cv, .bool zv, .slice Bv mv dv]) (by simp)).c8
  have sr0 : w.heap.size + 1 < w0.heap.size := (K0.blk (g := w.heap.size + 1) (vs := [.bool false, .slice none 0 0, .bool false, .slice none 0 0, .bool false, .slice none 0 0, .bool false, .slice none 0 0]) (List.mem_of_getElem? (i := 0) rfl)).1
  go_region_held3 (fun w' => w'.cell? ⟨w.heap.size, 0, none⟩ = some (.bool su) ∧ w'.cell? ⟨w.heap.size, 1, none⟩ = some (.slice Au nu cu) ∧ w'.cell? ⟨w.heap.size, 2, none⟩ = some (.bool zu) ∧ w'.cell? ⟨w.heap.size, 3, none⟩ = some (.slice Bu mu du) ∧ w'.cell? ⟨w.heap.size, 4, none⟩ = some (.bool sv) ∧ w'.cell? ⟨w.heap.size, 5, none⟩ = some (.slice Av nv cv) ∧ w'.cell? ⟨w.heap.size, 6, none⟩ = some (.bool zv) ∧ w'.cell? ⟨w.heap.size, 7, none⟩ = some (.slice Bv mv dv))
    (go_keep)
    (first
      | (go_at_call 55; (with_reducible refine (owt_frac_any su zu Au Bu nu cu mu du lu ku _ ?_ ?_ bnu bmu).mono ?_); (exact Hu0.1); (exact Hu0.2.1); rintro e1 w1 ⟨gu, eu, hu, fu, rfl, Tu1, Uu1, O1, hB1, hFu, hGu⟩; (first | (with_reducible have K1 := K0.call2 hB1 O1) | (with_reducible have K1 := K0.drew.call2 hB1 O1) | (with_reducible have K1 := (K0.drewN _).call2 hB1 O1)); have faru : w0.heap.size ≤ gu := hFu; have fbru : w0.heap.size ≤ hu := hGu; have sb1 : w0.heap.size ≤ w1.heap.size := hB1.size; have Hv1 := LmE.at_.below Hv0 (by first | exact hB1 | exact below_of_drew hB1 | exact below_of_drewN hB1); obtain ⟨q0_1, q1_1, q2_1, q3_1, q4_1, q5_1, q6_1, q7_1⟩ := (K1.blk (g := w.heap.size) (vs := [.bool su, .slice Au nu cu, .bool zu, .slice Bu mu du, .bool sv, .slice Av nv cv, .bool zv, .slice Bv mv dv]) (List.mem_of_getElem? (i := 1) rfl)).c8; clear hB1)
      | (go_at_call 55; (with_reducible refine (owt_frac_any sv zv Av Bv nv cv mv dv lv kv _ ?_ ?_ bnv bmv).mono ?_); (exact Hv1.1); (exact Hv1.2.1); rintro e2 w2 ⟨gv, ev, hv, fv, rfl, Tv2, Uv2, O2, hB2, hFv, hGv⟩; (first | (with_reducible have K2 := K1.call2 hB2 O2) | (with_reducible have K2 := K1.drew.call2 hB2 O2) | (with_reducible have K2 := (K1.drewN _).call2 hB2 O2)); have farv : w1.heap.size ≤ gv := hFv; have fbrv : w1.heap.size ≤ hv := hGv; have sb2 : w1.heap.size ≤ w2.heap.size := hB2.size; have Tu2 := Twl.below Tu1 (by first | exact hB2 | exact below_of_drew hB2 | exact below_of_drewN hB2); have Uu2 := Twl.below Uu1 (by first | exact hB2 | exact below_of_drew hB2 | exact below_of_drewN hB2); obtain ⟨q0_2, q1_2, q2_2, q3_2, q4_2, q5_2, q6_2, q7_2⟩ := (K2.blk (g := w.heap.size) (vs := [.bool su, .slice Au nu cu, .bool zu, .slice Bu mu du, .bool sv, .slice Av nv cv, .bool zv, .slice Bv mv dv]) (List.mem_of_getElem? (i := 1) rfl)).c8; obtain ⟨q0_2r, q1_2r, q2_2r, q3_2r, q4_2r, q5_2r, q6_2r, q7_2r⟩ := (K2.blk (g := w.heap.size + 1) (vs := [.bool false, .slice none 0 0, .bool false, .slice none 0 0, .bool false, .slice none 0 0, .bool false, .slice none 0 0]) (List.mem_of_getElem? (i := 0) rfl)).c8; obtain ⟨r0_2r, r1_2r, r2_2r, r3_2r, r4_2r, r5_2r, r6_2r, r7_2r, rz_2r⟩ := (K2.blk (g := w.heap.size + 1) (vs := [.bool false, .slice none 0 0, .bool false, .slice none 0 0, .bool false, .slice none 0 0, .bool false, .slice none 0 0]) (List.mem_of_getElem? (i := 0) rfl)).f8; clear hB2)
      | fail)
  all_goals
   go_wp2_with fail
   have KE := (K2.pick (L' := [(w.heap.size + 1, [.bool false, .slice none 0 0, .bool false, .slice none 0 0, .bool false, .slice none 0 0, .bool false, .slice none 0 0])]) (l' := []) (all_cons (List.mem_of_getElem? (i := 0) rfl) all_nil) all_nil).set8 all_nil su (some ⟨gu, 0, none⟩) nu eu zu (some ⟨hu, 0, none⟩) mu fu sv (some ⟨gv, 0, none⟩) nv ev zv (some ⟨hv, 0, none⟩) mv fv
   have ne_Tu : w.heap.size + 1 ≠ gu := by omega
   have Teu := ((((((((Tu2.far (p := ⟨w.heap.size + 1, 0, none⟩) (.bool su) ne_Tu).far (p := ⟨w.heap.size + 1, 1, none⟩) (.slice (some ⟨gu, 0, none⟩) nu eu) ne_Tu).far (p := ⟨w.heap.size + 1, 2, none⟩) (.bool zu) ne_Tu).far (p := ⟨w.heap.size + 1, 3, none⟩) (.slice (some ⟨hu, 0, none⟩) mu fu) ne_Tu).far (p := ⟨w.heap.size + 1, 4, none⟩) (.bool sv) ne_Tu).far (p := ⟨w.heap.size + 1, 5, none⟩) (.slice (some ⟨gv, 0, none⟩) nv ev) ne_Tu).far (p := ⟨w.heap.size + 1, 6, none⟩) (.bool zv) ne_Tu).far (p := ⟨w.heap.size + 1, 7, none⟩) (.slice (some ⟨hv, 0, none⟩) mv fv) ne_Tu)
   have ne_Uu : w.heap.size + 1 ≠ hu := by omega
   have Ueu := ((((((((Uu2.far (p := ⟨w.heap.size + 1, 0, none⟩) (.bool su) ne_Uu).far (p := ⟨w.heap.size + 1, 1, none⟩) (.slice (some ⟨gu, 0, none⟩) nu eu) ne_Uu).far (p := ⟨w.heap.size + 1, 2, none⟩) (.bool zu) ne_Uu).far (p := ⟨w.heap.size + 1, 3, none⟩) (.slice (some ⟨hu, 0, none⟩) mu fu) ne_Uu).far (p := ⟨w.heap.size + 1, 4, none⟩) (.bool sv) ne_Uu).far (p := ⟨w.heap.size + 1, 5, none⟩) (.slice (some ⟨gv, 0, none⟩) nv ev) ne_Uu).far (p := ⟨w.heap.size + 1, 6, none⟩) (.bool zv) ne_Uu).far (p := ⟨w.heap.size + 1, 7, none⟩) (.slice (some ⟨hv, 0, none⟩) mv fv) ne_Uu)
   have ne_Tv : w.heap.size + 1 ≠ gv := by omega
   have Tev := ((((((((Tv2.far (p := ⟨w.heap.size + 1, 0, none⟩) (.bool su) ne_Tv).far (p := ⟨w.heap.size + 1, 1, none⟩) (.slice (some ⟨gu, 0, none⟩) nu eu) ne_Tv).far (p := ⟨w.heap.size + 1, 2, none⟩) (.bool zu) ne_Tv).far (p := ⟨w.heap.size + 1, 3, none⟩) (.slice (some ⟨hu, 0, none⟩) mu fu) ne_Tv).far (p := ⟨w.heap.size + 1, 4, none⟩) (.bool sv) ne_Tv).far (p := ⟨w.heap.size + 1, 5, none⟩) (.slice (some ⟨gv, 0, none⟩) nv ev) ne_Tv).far (p := ⟨w.heap.size + 1, 6, none⟩) (.bool zv) ne_Tv).far (p := ⟨w.heap.size + 1, 7, none⟩) (.slice (some ⟨hv, 0, none⟩) mv fv) ne_Tv)
   have ne_Uv : w.heap.size + 1 ≠ hv := by omega
   have Uev := ((((((((Uv2.far (p := ⟨w.heap.size + 1, 0, none⟩) (.bool su) ne_Uv).far (p := ⟨w.heap.size + 1, 1, none⟩) (.slice (some ⟨gu, 0, none⟩) nu eu) ne_Uv).far (p := ⟨w.heap.size + 1, 2, none⟩) (.bool zu) ne_Uv).far (p := ⟨w.heap.size + 1, 3, none⟩) (.slice (some ⟨hu, 0, none⟩) mu fu) ne_Uv).far (p := ⟨w.heap.size + 1, 4, none⟩) (.bool sv) ne_Uv).far (p := ⟨w.heap.size + 1, 5, none⟩) (.slice (some ⟨gv, 0, none⟩) nv ev) ne_Uv).far (p := ⟨w.heap.size + 1, 6, none⟩) (.bool zv) ne_Uv).far (p := ⟨w.heap.size + 1, 7, none⟩) (.slice (some ⟨hv, 0, none⟩) mv fv) ne_Uv)
   exact bodyPost_ret (v := .agg #[.bool su, .slice (some ⟨gu, 0, none⟩) nu eu, .bool zu, .slice (some ⟨hu, 0, none⟩) mu fu, .bool sv, .slice (some ⟨gv, 0, none⟩) nv ev, .bool zv, .slice (some ⟨hv, 0, none⟩) mv fv]) (by simp [results, Tryz.results13, go_sem, q0_2r, q1_2r, q2_2r, q3_2r, q4_2r, q5_2r, q6_2r, q7_2r]) rfl ⟨gu, eu, hu, fu, gv, ev, hv, fv, rfl, Teu, Ueu, Tev, Uev, KE.all, KE.1⟩
end Go.Proofs.YtmmplomkginadaaGreatDoor
