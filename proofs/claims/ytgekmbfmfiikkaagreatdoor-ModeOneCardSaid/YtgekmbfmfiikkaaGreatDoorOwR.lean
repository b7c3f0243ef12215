/-
  Whole numbers in memory of their own: doubled, halved, roots (Double, Halved by one, Root).
-/
import Derived.Test.YtgekmbfmfiikkaaGreatDoorLst
import Derived.Test.YtgekmbfmfiikkaaGreatDoorExD
import Derived.Test.YtgekmbfmfiikkaaGreatDoorHaA
import Derived.Test.YtgekmbfmfiikkaaGreatDoorRaL
import Derived.Test.YtgekmbfmfiikkaaGreatDoorExY
import Derived.Test.YtgekmbfmfiikkaaGreatDoorOwn
set_option maxHeartbeats 6400000
set_option maxRecDepth 100000
namespace Go.Proofs.YtgekmbfmfiikkaaGreatDoor
open Go.RowKit
theorem ow_half_any (A : Option Addr) (n c X : Nat) (w : World) (hx : IsInt w false A n c (X : Int)) (hn : n ≤ 1000000) (hX : 0 < X) :
  Calls Tryz.prog 218 #[.agg #[.bool false, .slice A n c], .int .i64 1] w (RetIntO w ((X / 2 : Nat) : Int)) := by
 have hn0 : 0 < n := by
  rcases Nat.eq_zero_or_pos n with h | h
  ·have := (isInt_zero hx).1 h; omega
  ·exact h
 obtain ⟨a, S, hc, _, hz⟩ := id hx
 have hv : Lm.lv a = X := by unfold sgnd at hz; simp at hz; omega
 have K0 := ((Mm.nil w).var (g := w.heap.size) rfl [.bool false, .slice A n c] 24).var (g := w.heap.size + 1) (by simp) [.bool false, .slice none 0 0] 24
 replace S := S.below K0.1
 have g01 : ¬ w.heap.size = w.heap.size + 1 := by omega
 have g10 : ¬ w.heap.size + 1 = w.heap.size := by omega
 have t1 : ¬ 32 * (n : Int) ≤ 1 := by omega
 have t2 : IntKind.i64.wrap (32 * (n : Int)) = 32 * (n : Int) := IntWalk.i64_in _ (by omega)
 clear hx hz
 go_enter Tryz.func218, Tryz.ntmps218
 go_upto_region 1 with (fail)
 generalize (w.alloc (.cells #[.bool false, .slice A n c] 24)).alloc (.cells #[.bool false, .slice none 0 0] 24) = w0 at K0 S ⊢
 obtain ⟨q0, q1, _, _, _⟩ := (K0.blk (g := w.heap.size) (by repeat constructor)).two
 have HB0 : Hid (∀ b ∈ [(w.heap.size + 1, ([.bool false, .slice none 0 0] : List Value)), (w.heap.size, [.bool false, .slice A n c])], b.1 < w0.heap.size) := Lib.hid (fun b hb => (K0.2.1 b hb).2.1)
 go_wp2_with fail
 refine (ex_clone_any A n c a _ S (by omega)).mono ?_
 rintro e1 w1 ⟨A1, n1, c1, rfl, hown, hnc, hb1⟩
 have K1 := K0.next hb1
 have hla := S.len
 have hn1 : n1 = n := by
  have := hown.1
  rw [u32s_len] at this
  omega
 subst hn1
 obtain ⟨g, rfl⟩ : ∃ g, A1 = some ⟨g, 0, none⟩ := by
  rcases hown.2 with ⟨e, h⟩ | ⟨g, cap, cur, e, _⟩
  ·injection e with e1 e2 e3; omega
  ·injection e with e1 e2 e3; exact ⟨g, e1⟩
 have hok := S.ok
 have hgb := (hown.lt g rfl).1
 have hsz1 := K0.1.size
 have HOK : Hid (∀ j v, a[j]? = some v → v < 4294967296) := Lib.hid (fun j v hj => hok v (List.mem_of_getElem? hj))
 clear K0 S q0 q1 hb1
 have hk0 : 0 < a.length := by omega
 have hc0 := own_at hown hk0
 obtain ⟨x0, hx0⟩ : ∃ x, a[0] = x := ⟨_, rfl⟩
 rw [hx0] at hc0
 obtain ⟨q0, q1, _, _, _⟩ := (K1.blk (g := w.heap.size) (by repeat constructor)).two
 go_wp2_with fail
 refine (contains32_none A c _ _).mono ?_
 rintro e2 w2 ⟨rfl, hb2⟩
 have K2 := K1.next hb2
 have hown2 := own_below hown hb2
 have hc2 := own_at hown2 hk0
 rw [hx0] at hc2
 clear K1 hown hb2 q0 q1 hc0
 go_wp2_with fail
 have HV := Lib.hid hv
 have HOKA := Lib.hid hok
 have HBX : Hid (∀ b ∈ [(w.heap.size + 1, ([.bool false, .slice none 0 0] : List Value)), (w.heap.size, [.bool false, .slice A n1 c])], b.1 < g) := Lib.hid (fun b hb => by have := (K2.2.1 b hb).2.1; have h0 := HB0.out b hb; omega)
 go_loopw [48] (fun i wr => ∃ (k : Nat) (out : List Nat), k ≤ n1 ∧ i = .int .i64 (k : Int) ∧ Hid (out.length = a.length ∧ out.drop k = a.drop k ∧ Lm.ok out ∧ Lm.lv (out.take k) = (X / 2) % Lm.B ^ k) ∧ wr.ownsRow w0.heap.size 164 1 (.slice (some ⟨g, 0, none⟩) n1 c1) n1 (u32s out) ∧
  Mm w [(w.heap.size + 1, [.bool false, .slice none 0 0]), (w.heap.size, [.bool false, .slice A n1 c])] [] wr) (fun i _ => n1 - (intOf i).toNat)
 case atStart => exact ⟨0, a, Nat.zero_le _, rfl, Lib.hid ⟨rfl, rfl, hok, by simp [Lm.lv, Nat.mod_one]⟩, hown2, K2⟩
 case round =>
  clear hown2 K2 hc2
  obtain ⟨k, out, hk, rfl, HO, hown, K⟩ := hrel
  by_cases hlt : k < n1
  ·have hko : k < out.length := by rw [HO.out.1]; omega
   have hka : k < a.length := by omega
   have hco := own_at hown hko
   have hf := hown.frozenAt k
   have hlt' : (k : Int) < (n1 : Int) := by omega
   have hkk0 : (0 : Int) ≤ (k : Int) := Int.natCast_nonneg _
   have hW : IntKind.i64.wrap ((k : Int) + 1) = (k : Int) + 1 := IntWalk.i64_in _ (by omega)
   have hkx : out[k] = a[k] := by
    have h1 := congrArg (fun l => l[0]?) HO.out.2.1
    simp only [List.getElem?_drop, Nat.add_zero] at h1
    rw [List.getElem?_eq_getElem hko, List.getElem?_eq_getElem hka] at h1
    injection h1
   obtain ⟨x, hx⟩ : ∃ x, a[k] = x := ⟨_, rfl⟩
   rw [hkx, hx] at hco
   have HX := Lib.hid hx
   clear hx hkx
   by_cases hlt2 : k + 1 < n1
   ·have hko2 : k + 1 < out.length := by rw [HO.out.1]; omega
    have hka2 : k + 1 < a.length := by omega
    have hco2 := own_at hown hko2
    have hkx2 : out[k + 1] = a[k + 1] := by
     have h1 := congrArg (fun l => l[1]?) HO.out.2.1
     simp only [List.getElem?_drop] at h1
     rw [List.getElem?_eq_getElem hko2, List.getElem?_eq_getElem hka2] at h1
     injection h1
    obtain ⟨y, hy⟩ : ∃ y, a[k + 1] = y := ⟨_, rfl⟩
    rw [hkx2, hy] at hco2
    have HY := Lib.hid hy
    clear hy hkx2
    have ht2 : (k : Int) + 1 < (n1 : Int) := by omega
    have ht3 : (0 : Int) ≤ (k : Int) + 1 := by omega
    have HWd := Lib.hid (half_word (y := y) (x := x) (HOK.out (k + 1) y (by rw [← HY.out]; exact List.getElem?_eq_getElem hka2)) (HOK.out k x (by rw [← HX.out]; exact List.getElem?_eq_getElem hka)))
    have K9 : Mm w [(w.heap.size + 1, [.bool false, .slice none 0 0]), (w.heap.size, [.bool false, .slice A n1 c])] [] (wr.setCell ⟨g, k, none⟩ (.int .u32 ((((x + 4294967296 * y) / 2 % 4294967296) : Nat) : Int))) :=
     ⟨K.1.setCell (p := ⟨g, k, none⟩) (by show w.heap.size ≤ g; omega) _, fun b hb => ⟨(K.2.1 b hb).1, (K.2.1 b hb).2.far (by have := HBX.out b hb; omega) _⟩, fun p hp => absurd hp (by simp)⟩
    have HR := Lib.hid (half_round (v := ((x + 4294967296 * y) / 2 % 4294967296)) HOKA.out HV.out HO.out.1 HO.out.2.1 HO.out.2.2.1 HO.out.2.2.2 hka HX.out (.inl ⟨hka2, HY.out⟩) rfl)
    go_wp2_with fail
    rw [HWd.out]
    refine ⟨⟨k + 1, out.set k ((x + 4294967296 * y) / 2 % 4294967296), hlt, congrArg (Value.int .i64) (by omega), HR, own_store hown _ rfl, K9⟩, ?_⟩
    simp [intOf]
    omega
   ·have ht2 : ¬ (k : Int) + 1 < (n1 : Int) := by omega
    have HWd := Lib.hid (half_word0 (x := x) (HOK.out k x (by rw [← HX.out]; exact List.getElem?_eq_getElem hka)))
    have K9 : Mm w [(w.heap.size + 1, [.bool false, .slice none 0 0]), (w.heap.size, [.bool false, .slice A n1 c])] [] (wr.setCell ⟨g, k, none⟩ (.int .u32 ((((x + 4294967296 * 0) / 2 % 4294967296) : Nat) : Int))) :=
     ⟨K.1.setCell (p := ⟨g, k, none⟩) (by show w.heap.size ≤ g; omega) _, fun b hb => ⟨(K.2.1 b hb).1, (K.2.1 b hb).2.far (by have := HBX.out b hb; omega) _⟩, fun p hp => absurd hp (by simp)⟩
    have HR := Lib.hid (half_round (v := ((x + 4294967296 * 0) / 2 % 4294967296)) HOKA.out HV.out HO.out.1 HO.out.2.1 HO.out.2.2.1 HO.out.2.2.2 hka HX.out (.inr ⟨by omega, rfl⟩) rfl)
    go_wp2_with fail
    rw [HWd.out]
    refine ⟨⟨k + 1, out.set k ((x + 4294967296 * 0) / 2 % 4294967296), hlt, congrArg (Value.int .i64) (by omega), HR, own_store hown _ rfl, K9⟩, ?_⟩
    simp [intOf]
    omega
  ·obtain rfl : k = n1 := by omega
   have hnl : ¬ (k : Int) < (k : Int) := by omega
   obtain ⟨q0, q1, _, _, _⟩ := (K.blk (g := w.heap.size) (by repeat constructor)).two
   have hS : Sl wr (some ⟨g, 0, none⟩) k c1 out := Sl.of_own hown hnc HO.out.2.2.1
   go_wp2_with fail
   refine (ow_signed_any false _ k c1 out _ hS (by omega)).mono ?_
   rintro e3 w3 ⟨neg3, A3, n3, c3, rfl, I3, C3, hb3⟩
   have hval : sgnd false (Lm.lv out) = ((X / 2 : Nat) : Int) := by
    have h1 := HO.out.2.2.2
    rw [Lm.lv_take_ge out k (by rw [HO.out.1, hla]; exact Nat.le_refl _)] at h1
    have h2 := Lm.lv_lt HOKA.out
    rw [HV.out, hla] at h2
    rw [h1, Nat.mod_eq_of_lt (by omega)]
    rfl
   rw [hval] at I3
   have K3 := (((K.mo.lay hsz1 HB0.out (q := (some ⟨g, 0, none⟩, k, c1)) ⟨_, hown⟩).next hb3).cut C3).int I3
   clear K hown hb3 q0 q1 I3
   obtain ⟨r0, r1, _, _, _⟩ := (K3.blk (g := w.heap.size + 1) (by repeat constructor)).two
   go_wp2_with fail
   have KE := (K3.pick (L' := [(w.heap.size + 1, [.bool false, .slice none 0 0])]) (l' := [(neg3, A3, n3, c3, ((X / 2 : Nat) : Int))]) (by simp) (by simp)).set2 (by simp) neg3 A3 n3 c3
   exact bodyPost_ret (v := .agg #[.bool neg3, .slice A3 n3 c3]) (by simp [results, Tryz.results218, go_sem, r0, r1]) rfl ⟨neg3, A3, n3, c3, rfl, KE.at_ (by simp), KE.own1 0 rfl, KE.1⟩
theorem ow_double_pos (neg : Bool) (A : Option Addr) (n c s : Nat) (a : List Nat) (w : World) (ha : Sl w A n c a) (h0 : 0 < n) (hn : n ≤ 100000000) (hs : s ≤ 1000000000) :
    Calls Tryz.prog 214 #[.agg #[.bool neg, .slice A n c], .int .i64 s] w (RetIntO w (sgnd neg (Lm.lv a * 2 ^ s))) := by
  obtain ⟨i0, hi, hz0, hz1, hz2⟩ := info_parts info_u32
  have hne : ((n : Int) == 0) = false := by rw [beq_eq_false_iff_ne]; omega
  have K0 := ((Mm.nil w).var (g := w.heap.size) rfl [.bool neg, .slice A n c] 24).var (g := w.heap.size + 1) (by simp) [.bool false, .slice none 0 0] 24
  have hS0 := (ha.alloc (.cells #[.bool neg, .slice A n c] 24)).alloc (.cells #[.bool false, .slice none 0 0] 24)
  have hmk : ∀ w, (Instr.makeSlice 22 (.int .i64 (IntKind.i64.wrap ((s : Int) / 32))) (.int .i64 (IntKind.i64.wrap ((s : Int) / 32)))).run Tryz.prog w = .ok (.slice (some ⟨w.heap.size, 0, none⟩) (s / 32) (s / 32)) (w.alloc (.cells (madeCells #[.int .u32 0] (s / 32)) 164)) := fun w => by
    rw [show IntKind.i64.wrap ((s : Int) / 32) = ((s / 32 : Nat) : Int) by rw [show (s : Int) / 32 = ((s / 32 : Nat) : Int) by omega]; exact IntWalk.i64_in _ (by omega)]
    exact run_make_row' (P := Tryz.prog) 22 164 (.int .u32 0) 4 Tryz.underlying22 info_u32 rfl .i64 .i64 (s / 32) (by omega) (by omega) w
  go_enter Tryz.func214, Tryz.ntmps214
  go_wp2_with fail
  generalize (w.alloc (.cells #[.bool neg, .slice A n c] 24)).alloc (.cells #[.bool false, .slice none 0 0] 24) = w0 at K0 hS0 ⊢
  obtain ⟨_, _, _, _, _⟩ := (K0.blk (g := w.heap.size) (by repeat constructor)).two
  go_region_held3 (fun w' => w'.cell? ⟨w.heap.size, 0, none⟩ = some (.bool neg) ∧ w'.cell? ⟨w.heap.size, 1, none⟩ = some (.slice A n c))
    (go_keep)
    (first
      | (go_at_call 268; (with_reducible refine (ex_up_of A n c (s % 32) a _ _ ?_ (by omega) (by omega) shift_rest).mono ?_); (with_reducible exact (hS0.alloc _).drew); rintro e1 w1 ⟨g1, l1, rfl, hown1, hok1, hl1, hv1, hb1⟩; have hb01 := below_box (below_of_drew hb1); have own0 := own_kept (made_own w0 (s / 32) (by omega)) (below_of_drew hb1); have hv2 := Lib.hid (dbl_lv hv1); clear hv1 hb1; have K1 := K0.next hb01; obtain ⟨qa1, qb1, _, _, qe1⟩ := (K1.blk (g := w.heap.size) (by repeat constructor)).two)
      | (go_at_call 268; (with_reducible refine (ex_up_of A n c (s % 32) a _ _ ?_ (by omega) (by omega) shift_rest).mono ?_); (with_reducible exact hS0.drew); rintro e1 w1 ⟨g1, l1, rfl, hown1, hok1, hl1, hv1, hb1⟩; have hb01 := below_of_drew hb1; have own0 := made_own w1 (s / 32) (by omega); have hv2 := Lib.hid (dbl_lv hv1); clear hv1 hb1; have K1 := K0.next hb01; obtain ⟨qa1, qb1, _, _, qe1⟩ := (K1.blk (g := w.heap.size) (by repeat constructor)).two)
      | (refine step_append_row _ (by rfl) _ _ 22 (by rfl) w0.heap.size 164 i0 (.int .u32 0) 4 Tryz.underlying22 hi hz0 hz1 hz2 rfl (.slice (some ⟨w0.heap.size, 0, none⟩) (s / 32) (s / 32)) (s / 32) (u32s (List.replicate (s / 32) 0)) (by rfl) own0 _ (some ⟨g1, 0, none⟩) (n + 1) (n + 1) (u32s l1) (by rfl) (sl_of_row hown1 hok1).1 (u32s_one _) (by unfold maxLen; omega) (by omega) hb01.size ?_; intro v' w2 hown2 hgrow2 _; have hb2 := hb01.grown hgrow2 hb01.size (own_ge own0); rw [← u32s_append] at hown2; obtain ⟨A2, c2, rfl, hc2⟩ := own_form hown2; have hS2 : Sl w2 A2 (s / 32 + (n + 1)) c2 (List.replicate (s / 32) 0 ++ l1) := (Sl.of_own hown2 hc2 (Lm.ok_append (Lm.ok_zeros _) hok1)); have K2 := (K0.next hb2).mo.lay K0.1.size (fun b hb => (K0.2.1 b hb).2.1) (q := (A2, s / 32 + (n + 1), c2)) ⟨_, hown2⟩; clear hown2 hgrow2; obtain ⟨qa2, qb2, _, _, qe2⟩ := (K2.blk (g := w.heap.size) (by repeat constructor)).two)
      | (refine step_append_row _ (by rfl) _ _ 22 (by rfl) w1.heap.size 164 i0 (.int .u32 0) 4 Tryz.underlying22 hi hz0 hz1 hz2 rfl (.slice (some ⟨w1.heap.size, 0, none⟩) (s / 32) (s / 32)) (s / 32) (u32s (List.replicate (s / 32) 0)) (by rfl) own0 _ (some ⟨g1, 0, none⟩) (n + 1) (n + 1) (u32s l1) (by rfl) ((sl_of_row hown1 hok1).alloc _).1 (u32s_one _) (by unfold maxLen; omega) (by omega) (by simp) ?_; intro v' w2 hown2 hgrow2 _; have hb2 := (hb01.alloc hb01.size _).grown hgrow2 (by simp; have := hb01.size; omega) (fun k hk => Nat.le_trans hb01.size (own_ge own0 k hk)); rw [← u32s_append] at hown2; obtain ⟨A2, c2, rfl, hc2⟩ := own_form hown2; have hS2 : Sl w2 A2 (s / 32 + (n + 1)) c2 (List.replicate (s / 32) 0 ++ l1) := (Sl.of_own hown2 hc2 (Lm.ok_append (Lm.ok_zeros _) hok1)); have K2 := (K0.next hb2).mo.lay K0.1.size (fun b hb => (K0.2.1 b hb).2.1) (q := (A2, s / 32 + (n + 1), c2)) (OwnR.base (B := w1.heap.size) ⟨_, hown2⟩ (fun g hg => Nat.le_trans hb01.size (hown2.lt g hg).1)); clear hown2 hgrow2; obtain ⟨qa2, qb2, _, _, qe2⟩ := (K2.blk (g := w.heap.size) (by repeat constructor)).two)
      | (go_at_call 267; (with_reducible refine (ow_signed_any neg A2 (s / 32 + (n + 1)) c2 _ _ hS2 (by omega)).mono ?_); rintro e3 w3 ⟨neg3, A3, n3, c3, rfl, I3, C3, hb3⟩; have K3 := ((K2.next hb3).cut C3).int I3; obtain ⟨_, _, _, _, _⟩ := (K3.blk (g := w.heap.size) (by repeat constructor)).two; obtain ⟨ra3, rb3, _, _, _⟩ := (K3.blk (g := w.heap.size + 1) (by repeat constructor)).two))
  all_goals
   go_wp2_with fail
   rw [hv2.out] at K3
   have KE := (K3.pick (L' := [(w.heap.size + 1, [.bool false, .slice none 0 0])]) (l' := [(neg3, A3, n3, c3, sgnd neg (Lm.lv a * 2 ^ s))]) (by simp) (by simp)).set2 (by simp <;> omega) neg3 A3 n3 c3
   exact bodyPost_ret (v := .agg #[.bool neg3, .slice A3 n3 c3]) (by simp [results, Tryz.results214, go_sem, ra3, rb3]) rfl ⟨neg3, A3, n3, c3, rfl, KE.at_ (by simp), KE.own1 0 rfl, KE.1⟩
theorem ow_double_any (neg : Bool) (A : Option Addr) (n c s : Nat) (x : Int) (w : World) (hx : IsInt w neg A n c x) (hn : n ≤ 100000000) (hs : s ≤ 1000000000) :
  Calls Tryz.prog 214 #[.agg #[.bool neg, .slice A n c], .int .i64 s] w (RetIntO w (x * ((2 ^ s : Nat) : Int))) := by
 by_cases h0 : n = 0
 ·have hz := (isInt_zero hx).1 h0
  subst h0
  have K0 := ((Mm.nil w).var (g := w.heap.size) rfl [.bool neg, .slice A 0 c] 24).var (g := w.heap.size + 1) (by simp) [.bool false, .slice none 0 0] 24
  have hzz : Hid (x = 0) := Lib.hid hz
  clear hz hx
  go_enter Tryz.func214, Tryz.ntmps214
  go_wp2_with fail
  exact bodyPost_ret (v := .agg #[.bool false, .slice none 0 0]) (by simp [results, Tryz.results214, go_sem]) rfl
   ⟨false, none, 0, 0, rfl, by rw [hzz.out, Int.zero_mul]; exact isInt_nought, Owns.one (OwnR.nil _ _), K0.1⟩
 ·obtain ⟨a, ha, _, _, hxe⟩ := hx
  have e : x * ((2 ^ s : Nat) : Int) = sgnd neg (Lm.lv a * 2 ^ s) := by
   rw [hxe]
   unfold sgnd
   cases neg
   ·simp
   ·simp [Int.neg_mul]
  rw [e]
  exact ow_double_pos neg A n c s a w ha (by omega) hn hs
theorem ow_double_of (neg : Bool) (A : Option Addr) (n c s : Nat) (x v : Int) (w : World) (hx : IsInt w neg A n c x) (hn : n ≤ 100000000) (hs : s ≤ 1000000000) (hv : v = (s : Int)) :
  Calls Tryz.prog 214 #[.agg #[.bool neg, .slice A n c], .int .i64 v] w (RetIntO w (x * ((2 ^ s : Nat) : Int))) := by
 subst hv
 exact ow_double_any neg A n c s x w hx hn hs
def RetRtO (W : World) (X : Nat) (e : Ending) (w' : World) : Prop :=
 ∃ (neg : Bool) (A : Option Addr) (n c k : Nat), e = .returned (.tuple #[.agg #[.bool neg, .slice A n c], .bool (decide (k * k = X))]) ∧ IsInt w' neg A n c (k : Int) ∧ IsRt X k ∧ Owns W.heap.size w' [(A, n, c)] ∧ Below W.heap.size W w'
theorem ow_root_any (A : Option Addr) (n c X : Nat) (w : World) (hx : IsInt w false A n c (X : Int)) (hX : 0 < X) (hn : n ≤ 100000) :
  Calls Tryz.prog 113 #[.agg #[.bool false, .slice A n c]] w (RetRtO w X) := by
 have hne : ((n : Int) == 0) = false := by
  rw [beq_eq_false_iff_ne]
  intro h
  have := (isInt_zero hx).1 (by omega)
  omega
 have hlt := isInt_lt hx
 rw [Int.natAbs_natCast, show Lm.B ^ n = 2 ^ (32 * n) by rw [Nat.pow_mul]] at hlt
 obtain ⟨L, hL⟩ : ∃ L, L = bitLen X := ⟨_, rfl⟩
 have hLb : L ≤ 32 * n := by
  rw [hL]; unfold bitLen; rw [if_neg (by omega)]
  have := (Nat.log2_lt (show X ≠ 0 by omega)).2 hlt
  omega
 obtain ⟨H, hH⟩ : ∃ H, H = (L + 1) / 2 := ⟨_, rfl⟩
 have HST := Lib.hid (rt_start (by omega) hL hH)
 have HL1 : Hid (bitLen (X : Int).natAbs = L) := by rw [hL]; exact rfl
 have HW : Hid (IntKind.i64.wrap ((IntKind.i64.wrap ((L : Int) + 1)).tdiv 2) = (H : Int)) := Lib.hid (by
  rw [hH]
  have e1 : IntKind.i64.wrap ((L : Int) + 1) = ((L + 1 : Nat) : Int) := by unfold IntKind.wrap; simp [IntKind.bits, IntKind.signed]; omega
  rw [e1, show (2 : Int) = ((2 : Nat) : Int) from rfl, ← Int.ofNat_tdiv]
  unfold IntKind.wrap; simp [IntKind.bits, IntKind.signed]; omega)
 have hHb : H ≤ 32 * n := by omega
 have HK : Hid (∀ k : Nat, k ≤ 2 ^ H → k < Lm.B ^ (n + 1)) := Lib.hid (by
  intro k hk
  rw [show Lm.B ^ (n + 1) = 2 ^ (32 * (n + 1)) by rw [Nat.pow_mul]]
  exact Nat.lt_of_le_of_lt hk (Nat.pow_lt_pow_right (by decide) (by omega)))
 have HK2 : Hid (∀ k : Nat, k ≤ 2 ^ H → ∀ q : Nat, q ≤ X → k + q < Lm.B ^ (n + 2)) := Lib.hid (by
  intro k hk q hq
  have h1 := HK.out k hk
  have h2 : 2 ^ (32 * n) ≤ Lm.B ^ (n + 1) := by
   rw [show Lm.B ^ (n + 1) = 2 ^ (32 * (n + 1)) by rw [Nat.pow_mul]]
   exact Nat.pow_le_pow_right (by decide) (by omega)
  have h3 : Lm.B ^ (n + 2) = Lm.B ^ (n + 1) * 4294967296 := rfl
  omega)
 have HP0 : Hid (0 < 2 ^ H) := Lib.hid (Nat.two_pow_pos _)
 obtain ⟨P, hP⟩ : ∃ P, P = 2 ^ H := ⟨_, rfl⟩
 rw [← hP] at HST HK HK2 HP0
 have HPP : Hid ((1 : Int) * ((2 ^ H : Nat) : Int) = (P : Int)) := Lib.hid (by rw [hP, Int.one_mul])
 have K0 := (((Mo.nil w).int hx).var (g := w.heap.size) rfl [.bool false, .slice A n c] 24).var (g := w.heap.size + 1) (by simp) [.bool false, .slice none 0 0] 24
 clear hlt hL hLb hH hP hx
 have g01 : ¬ w.heap.size = w.heap.size + 1 := by omega
 have g10 : ¬ w.heap.size + 1 = w.heap.size := by omega
 go_enter Tryz.func113, Tryz.ntmps113
 go_upto_region 1 with (fail)
 generalize (w.alloc (.cells #[.bool false, .slice A n c] 24)).alloc (.cells #[.bool false, .slice none 0 0] 24) = w0 at K0 ⊢
 obtain ⟨q0, q1, _, _, _⟩ := (K0.blk (g := w.heap.size) (by repeat constructor)).two
 obtain ⟨r0, r1, rf0, rf1, _⟩ := (K0.blk (g := w.heap.size + 1) (by repeat constructor)).two
 go_upto_region 3 with (fail)
 go_region_held3 (fun w' => w'.cell? ⟨w.heap.size, 0, none⟩ = some (.bool false) ∧ w'.cell? ⟨w.heap.size, 1, none⟩ = some (.slice A n c))
  (go_keep)
  (first
   | (go_at_call 214; rw [HW.out]; apply Calls.withMo (w0 := w); (case K => (repeat (first | (with_reducible exact K2) | (with_reducible apply Mo.drewN) | (with_reducible apply Mo.drew)))); intro KX; (refine (ow_double_of neg1 A1 n1 c1 H 1 (H : Int) _ (KX.at_ (mE 0 rfl)) (by omega) (by omega) rfl).mono ?_); rintro e3 w3 ⟨neg3, A3, n3, c3, rfl, I3, O3, hb3⟩; have K3 := (KX.call1 hb3 O3).int I3; clear KX; obtain ⟨_, _, _, _, _⟩ := (K3.blk (g := w.heap.size) (by repeat constructor)).two; obtain ⟨_, _, _, _, _⟩ := (K3.blk (g := w.heap.size + 1) (by repeat constructor)).two; clear I3 O3 hb3)
   | (go_at_call 216; apply Calls.withMo (w0 := w); (case K => (repeat (first | (with_reducible exact K1) | (with_reducible apply Mo.drewN) | (with_reducible apply Mo.drew)))); intro KX; (refine (ex_bits_of false A n c (X : Int) L _ (KX.at_ (mE 1 rfl)) (by omega) HL1).mono ?_); rintro e2 w2 ⟨rfl, hb2⟩; have K2 := KX.next hb2; clear KX; obtain ⟨_, _, _, _, _⟩ := (K2.blk (g := w.heap.size) (by repeat constructor)).two; obtain ⟨_, _, _, _, _⟩ := (K2.blk (g := w.heap.size + 1) (by repeat constructor)).two; clear hb2)
   | (go_at_call 215; apply Calls.withMo (w0 := w); (case K => (repeat (first | (with_reducible exact K0) | (with_reducible apply Mo.drewN) | (with_reducible apply Mo.drew)))); intro KX; (refine (ex_of_any 1 _ (by decide)).mono ?_); rintro e1 w1 ⟨neg1, A1, n1, c1, rfl, I1, hb1⟩; have hn1 : n1 ≤ 1 := int_len I1 (by decide); have K1 := (KX.next hb1).int I1; clear KX; obtain ⟨_, _, _, _, _⟩ := (K1.blk (g := w.heap.size) (by repeat constructor)).two; obtain ⟨_, _, _, _, _⟩ := (K1.blk (g := w.heap.size + 1) (by repeat constructor)).two; clear I1 hb1)
   | fail)
 rw [HPP.out] at K3
 go_wp2_with fail
 have K9 := (K3.pick (L' := [(w.heap.size + 1, [.bool false, .slice none 0 0]), (w.heap.size, [.bool false, .slice A n c])]) (l' := [(neg3, A3, n3, c3, (P : Int)), (false, A, n, c, (X : Int))]) (by simp) (by simp)).set2 (by simp) neg3 A3 n3 c3
 clear K0 K1 K2 K3
 go_loopg [18] P (fun k p18 wr => (∃ (negr : Bool) (Ar : Option Addr) (nr cr : Nat), Mo w.heap.size w [(w.heap.size + 1, [.bool negr, .slice Ar nr cr]), (w.heap.size, [.bool false, .slice A n c])] [(negr, Ar, nr, cr, (k : Int)), (false, A, n, c, (X : Int))] [(Ar, nr, cr)] wr) ∧ Hid (0 < k ∧ X < (k + 1) * (k + 1) ∧ k ≤ P))
 case atStart => exact ⟨⟨neg3, A3, n3, c3, K9⟩, Lib.hid ⟨HP0.out, HST.out, Nat.le_refl _⟩⟩
 case round =>
  clear K9
  obtain ⟨⟨negr, Ar, nr, cr, K⟩, HG⟩ := hrel
  have hgk := HG.out.1
  have hnr : nr ≤ n + 1 := isInt_len_le (K.at_ (mE 0 rfl)) (by rw [Int.natAbs_natCast]; exact HK.out gk HG.out.2.2)
  obtain ⟨q0, q1, _, _, _⟩ := (K.blk (mE 1 rfl)).two
  obtain ⟨r0, r1, rf0, rf1, _⟩ := (K.blk (mE 0 rfl)).two
  go_wp2_with fail
  refine (ex_Divide_any false negr A Ar n c nr cr (X : Int) (gk : Int) _ (K.at_ (mE 1 rfl)) (K.at_ (mE 0 rfl)) (by omega) (by omega) (by omega)).mono ?_
  rintro e4 w4 ⟨neg4, A4, n4, c4, neg5, A5, n5, c5, rfl, I4, I5, hb4⟩
  obtain ⟨q, hq⟩ : ∃ q, X / gk = q := ⟨_, rfl⟩
  have e4 : ((X : Int).tdiv (gk : Int)) = (q : Int) := by rw [← Int.ofNat_tdiv, hq]
  rw [e4] at I4
  have hqX : q ≤ X := by rw [← hq]; exact Nat.div_le_self _ _
  have hn4 : n4 ≤ n := isInt_len_mono I4 (K.at_ (neg := false) (A := A) (n := n) (c := c) (z := (X : Int)) (mE 1 rfl)) (by rw [Int.natAbs_natCast, Int.natAbs_natCast]; exact hqX)
  have HQ := Lib.hid hq
  have HSB := Lib.hid (HK2.out gk HG.out.2.2 q hqX)
  have K4 := (((K.next hb4).int I4).var (g := w4.heap.size) rfl [.bool neg4, .slice A4 n4 c4] 24).var (g := w4.heap.size + 1) (by simp) [.bool neg5, .slice A5 n5 c5] 24
  clear K hq e4 I4 I5 hqX hb4 q0 q1 r0 r1 rf0 rf1
  go_upto_region 5 with (fail)
  generalize w4.heap.size = g4 at K4 ⊢
  generalize (w4.alloc (.cells #[.bool neg4, .slice A4 n4 c4] 24)).alloc (.cells #[.bool neg5, .slice A5 n5 c5] 24) = u4 at K4 ⊢
  obtain ⟨r0, r1, _, _, _⟩ := (K4.blk (mE 2 rfl)).two
  obtain ⟨q0, q1, _, _, _⟩ := (K4.blk (mE 1 rfl)).two
  go_wp2_with fail
  refine (ex_plus_any negr neg4 Ar A4 nr cr n4 c4 (gk : Int) (q : Int) _ (K4.at_ (mE 1 rfl)) (K4.at_ (mE 0 rfl)) (by omega) (by omega)).mono ?_
  rintro e5 w5 ⟨neg6, A6, n6, c6, rfl, I6, hb5⟩
  have hneg : neg6 = false := by
   obtain ⟨l, _, _, h0, hz⟩ := id I6
   cases neg6 with
   | false => rfl
   | true => exfalso; unfold sgnd at hz; simp at hz; omega
  subst hneg
  have e6 : (gk : Int) + (q : Int) = ((gk + q : Nat) : Int) := by omega
  rw [e6] at I6
  have hn6 : n6 ≤ n + 2 := isInt_len_le I6 (by rw [Int.natAbs_natCast]; exact HSB.out)
  have K5 := K4.next hb5
  have hb5s := (K5.blk (mE 2 rfl)).1
  clear K4 hb5 r0 r1 q0 q1 e6
  go_wp2_with fail
  refine (ow_half_any A6 n6 c6 (gk + q) _ I6 (by omega) (by omega)).mono ?_
  rintro e7 w7 ⟨neg7, A7, n7, c7, rfl, I7, O7, hb7⟩
  obtain ⟨m, hm⟩ : ∃ m, (gk + q) / 2 = m := ⟨_, rfl⟩
  rw [hm] at I7
  have HM := Lib.hid hm
  have hn7 : n7 ≤ n + 2 := isInt_len_le I7 (by rw [Int.natAbs_natCast]; have := HSB.out; omega)
  have hb7s := hb7.size
  have K7 := ((K5.call1 hb7 O7).int I7).var (g := w7.heap.size) rfl [.bool neg7, .slice A7 n7 c7] 24
  clear K5 hb7 O7 I7 I6 hm
  go_upto_region 6 with (fail)
  have hg7 : w.heap.size + 1 < w7.heap.size := Nat.lt_of_lt_of_le hb5s hb7s
  generalize w7.heap.size = g7 at K7 hg7 ⊢
  generalize w7.alloc (.cells #[.bool neg7, .slice A7 n7 c7] 24) = u7 at K7 ⊢
  have K8 := K7.pick (L' := [(g7, [.bool neg7, .slice A7 n7 c7]), (w.heap.size + 1, [.bool negr, .slice Ar nr cr]), (w.heap.size, [.bool false, .slice A n c])]) (l' := [(neg7, A7, n7, c7, (m : Int)), (negr, Ar, nr, cr, (gk : Int)), (false, A, n, c, (X : Int))]) (by simp) (by simp)
  clear K7
  obtain ⟨r0, r1, _, _, _⟩ := (K8.blk (mE 1 rfl)).two
  obtain ⟨q0, q1, _, _, _⟩ := (K8.blk (mE 0 rfl)).two
  obtain ⟨v, hv⟩ : ∃ v, icmp (m : Int) (gk : Int) = v := ⟨_, rfl⟩
  go_wp2_with fail
  refine (ex_cmp_of neg7 negr A7 Ar n7 c7 nr cr (m : Int) (gk : Int) v _ (K8.at_ (mE 0 rfl)) (K8.at_ (mE 1 rfl)) (by omega) (by omega) (Lib.hid hv)).mono ?_
  rintro e8 w8 ⟨rfl, hb8⟩
  have K9 := K8.next hb8
  clear K8 hb8 r0 r1 q0 q1
  by_cases hge : gk ≤ m
  ·have hv0 : (0 : Int) ≤ v := by rw [← hv]; unfold icmp; split <;> (try split) <;> omega
   have HEND : Hid (IsRt X gk) := Lib.hid ⟨rt_stop hgk (by rw [HQ.out, HM.out]; exact hge), HG.out.2.1⟩
   obtain ⟨v2, hv2⟩ : ∃ v, icmp ((gk : Int) * (gk : Int)) (X : Int) = v := ⟨_, rfl⟩
   have HV2 := Lib.hid hv2
   have HSQ : Hid ((v2 == 0) = decide (gk * gk = X)) := Lib.hid (by
    rw [← hv2, icmp_zero]
    have h1 : ((gk : Int) * (gk : Int)) = ((gk * gk : Nat) : Int) := (Int.natCast_mul _ _).symm
    rw [h1]
    by_cases he : gk * gk = X
    ·rw [decide_eq_true he, decide_eq_true (by omega)]
    ·rw [decide_eq_false he, decide_eq_false (by omega)])
   have HNR : Hid (∀ W neg A' n' c', IsInt W neg A' n' c' ((gk : Int) * (gk : Int)) → n' ≤ 1000000000) := Lib.hid (fun W neg A' n' c' hI => by
    have h1 : ((gk : Int) * (gk : Int)) = ((gk * gk : Nat) : Int) := (Int.natCast_mul _ _).symm
    rw [h1] at hI
    have h2 := isInt_len_mono hI (K9.at_ (neg := false) (A := A) (n := n) (c := c) (z := (X : Int)) (mE 2 rfl)) (by rw [Int.natAbs_natCast, Int.natAbs_natCast]; exact HEND.out.1)
    omega)
   have K0 := K9.pick (L' := [(w.heap.size + 1, [.bool negr, .slice Ar nr cr]), (w.heap.size, [.bool false, .slice A n c])]) (l' := [(negr, Ar, nr, cr, (gk : Int)), (false, A, n, c, (X : Int))]) (by simp) (by simp)
   clear K9 hv hv2 hge
   obtain ⟨q0, q1, _, _, _⟩ := (K0.blk (mE 1 rfl)).two
   obtain ⟨r0, r1, rf0, rf1, _⟩ := (K0.blk (mE 0 rfl)).two
   go_wp2_with fail
   go_region_held3 (fun w' => w'.cell? ⟨w.heap.size + 1, 0, none⟩ = some (.bool negr) ∧ w'.cell? ⟨w.heap.size + 1, 1, none⟩ = some (.slice Ar nr cr) ∧ w'.cell? ⟨w.heap.size, 0, none⟩ = some (.bool false) ∧ w'.cell? ⟨w.heap.size, 1, none⟩ = some (.slice A n c))
    (first | (go_keep; done) | (refine ⟨?_, ?_, ?_, ?_⟩ <;> (first | (go_keep; done) | (simp [go_sem, *]; done))))
    (first
     | (go_at_call 220; apply Calls.withMo (w0 := w); (case K => (repeat (first | (with_reducible exact K10) | (with_reducible apply Mo.drewN) | (with_reducible apply Mo.drew)))); intro KX; (refine (ex_cmp_of neg10 false A10 A n10 c10 n c ((gk : Int) * (gk : Int)) (X : Int) v2 _ (KX.at_ (mE 0 rfl)) (KX.at_ (mE 2 rfl)) (HNR.out _ _ _ _ _ (KX.at_ (mE 0 rfl))) (by omega) HV2).mono ?_); rintro e11 w11 ⟨rfl, hb11⟩; have K11 := KX.next hb11; clear KX hb11; obtain ⟨_, _, _, _, _⟩ := (K11.blk (g := w.heap.size) (by repeat constructor)).two; obtain ⟨r110, r111, _, _, _⟩ := (K11.blk (g := w.heap.size + 1) (by repeat constructor)).two; skip)
     | (go_at_call 221; apply Calls.withMo (w0 := w); (case K => (repeat (first | (with_reducible exact K0) | (with_reducible apply Mo.drewN) | (with_reducible apply Mo.drew)))); intro KX; (refine (ex_times_any negr negr Ar Ar nr cr nr cr (gk : Int) (gk : Int) _ (KX.at_ (mE 0 rfl)) (KX.at_ (mE 0 rfl)) (by omega) (by omega)).mono ?_); rintro e10 w10 ⟨neg10, A10, n10, c10, rfl, I10, hb10⟩; have K10 := (KX.next hb10).int I10; clear KX hb10 I10; obtain ⟨_, _, _, _, _⟩ := (K10.blk (g := w.heap.size) (by repeat constructor)).two; obtain ⟨_, _, _, _, _⟩ := (K10.blk (g := w.heap.size + 1) (by repeat constructor)).two; skip)
     | fail)
   all_goals
    go_wp2_with fail
    have KE := (K11.pick (L' := [(w.heap.size + 1, [.bool negr, .slice Ar nr cr])]) (l' := [(negr, Ar, nr, cr, (gk : Int))]) (by simp) (by simp)).set2 (by simp) negr Ar nr cr
    exact bodyPost_ret (v := .tuple #[.agg #[.bool negr, .slice Ar nr cr], .bool (v2 == 0)]) (by simp [results, Tryz.results113, go_sem, r110, r111]) rfl ⟨negr, Ar, nr, cr, gk, by rw [HSQ.out], KE.at_ (by simp), HEND.out, KE.own1 1 rfl, KE.1⟩
  ·have hv0 : ¬ (0 : Int) ≤ v := by rw [← hv]; unfold icmp; split <;> (try split) <;> omega
   have HST2 : Hid (0 < m ∧ X < (m + 1) * (m + 1)) := Lib.hid (by have := rt_step (X := X) (k := gk) hX hgk; rw [HQ.out, HM.out] at this; exact this)
   obtain ⟨q0, q1, _, _, _⟩ := (K9.blk (mE 0 rfl)).two
   obtain ⟨r0, r1, rf0, rf1, _⟩ := (K9.blk (mE 1 rfl)).two
   have g7a : ¬ g7 = w.heap.size + 1 := by omega
   have g7b : ¬ w.heap.size + 1 = g7 := fun h => g7a h.symm
   go_wp2_with fail
   have KE := (K9.pick (L' := [(w.heap.size + 1, [.bool negr, .slice Ar nr cr]), (w.heap.size, [.bool false, .slice A n c])]) (l' := [(neg7, A7, n7, c7, (m : Int)), (false, A, n, c, (X : Int))]) (by simp) (by simp)).set2 (by simp) neg7 A7 n7 c7
   go_roundg m
   case measure => omega
   case rel => exact ⟨⟨neg7, A7, n7, c7, KE.swap.tail⟩, Lib.hid ⟨HST2.out.1, HST2.out.2, by have := HG.out.2.2; omega⟩⟩
end Go.Proofs.YtgekmbfmfiikkaaGreatDoor
