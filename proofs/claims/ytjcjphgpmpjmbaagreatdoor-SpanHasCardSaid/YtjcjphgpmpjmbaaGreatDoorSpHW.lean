/-
  A number of a span, at a part of the way (polestarlaw05.within).
-/
import Derived.Test.YtjcjphgpmpjmbaaGreatDoorSpHO
import Derived.Test.YtjcjphgpmpjmbaaGreatDoorSfO
namespace Go.Proofs.YtjcjphgpmpjmbaaGreatDoor
open Go.RowKit

def RetWi (W : World) (lo hi : Nat) (u v : Int) (e : Ending) (w' : World) : Prop :=
  (okS lo hi = true ∧ 1 ≤ v ∧ 0 ≤ u ∧ u ≤ v ∧ ∃ (neg : Bool) (A : Option Addr) (n c : Nat) (l : List Nat) (neg' : Bool) (A' : Option Addr) (n' c' : Nat) (l' : List Nat), e = .returned (.tuple #[.agg #[.bool neg, .slice A n c, .bool neg', .slice A' n' c'], .bool true]) ∧ OkF w' ((neg, A, n, c, l), (neg', A', n', c', l')) (part lo hi u v) ∧ Below W.heap.size W w') ∨
  (e = .returned (.tuple #[.agg #[.bool false, .slice none 0 0, .bool false, .slice none 0 0], .bool false]) ∧ Below W.heap.size W w')
theorem part_sz {lo hi : Nat} {u v : Int} (h1 : Flt.Fin lo) (h2 : Flt.Fin hi) (hu : u.natAbs < 2 ^ (32 * 2)) (hv : v.natAbs < 2 ^ (32 * 2)) (h0 : v ≠ 0) :
    Sz (fr hi - fr lo) 2048 ∧ Sz ((fr hi - fr lo) * Rat.divInt u v) 2048 ∧ Sz (part lo hi u v) 2048 := by
  have s1 := (fr_sz h2).sub (fr_sz h1)
  have s2 := s1.mul (Sz.divInt (m := 2) h0 hu hv)
  have s3 := (fr_sz h1).add s2
  exact ⟨s1.mono (by decide), s2.mono (by decide), s3.mono (by decide)⟩
set_option maxRecDepth 100000 in
set_option maxHeartbeats 6400000 in
theorem law_within (lo hi : Nat) (u v : Int) (w : World) (b1 : lo < 2 ^ 64) (b2 : hi < 2 ^ 64) (hu : -9223372036854775808 ≤ u ∧ u ≤ 9223372036854775807) (hv : -9223372036854775808 ≤ v ∧ v ≤ 9223372036854775807) (hT : Tab w) :
    Calls Tryz.prog 15 #[.agg #[.float .f64 lo, .float .f64 hi], .int .i64 u, .int .i64 v] w (RetWi w lo hi u v) := by
  have K0 := ((Mm.nil w).var (g := w.heap.size) rfl [.float .f64 lo, .float .f64 hi] 24).var (g := w.heap.size + 1) (by simp) [.bool false, .slice none 0 0, .bool false, .slice none 0 0] 29
  obtain ⟨ok, hok⟩ : ∃ o, okS lo hi = o := ⟨_, rfl⟩
  have HOK := Lib.hid hok
  have HOI : Hid (okI lo hi = if ok then 0 else 1) := Lib.hid (by unfold okI; rw [hok])
  have HT := Lib.hid hT
  clear hok hT
  go_enter Tryz.func15, Tryz.ntmps15
  go_upto_region 1 with (fail)
  generalize (w.alloc (.cells #[.float .f64 lo, .float .f64 hi] 24)).alloc (.cells #[.bool false, .slice none 0 0, .bool false, .slice none 0 0] 29) = w0 at K0 ⊢
  obtain ⟨pa, pb, _, _, _⟩ := (K0.blk (g := w.heap.size) (vs := [.float .f64 lo, .float .f64 hi]) (by simp)).two
  go_wp2_with fail
  refine (span_check_any lo hi b1 b2 _).mono ?_
  rintro e1 w1 ⟨rfl, hb1⟩
  rw [HOI.out]
  have K1 := K0.next hb1
  clear K0 hb1 pa pb
  by_cases hc : ok = true ∧ 1 ≤ v ∧ 0 ≤ u ∧ u ≤ v
  · obtain ⟨rfl, c1, c2, c3⟩ := hc
    have n1 : ¬ v < 1 := by omega
    have n2 : ¬ u < 0 := by omega
    have n3 : ¬ v < u := by omega
    obtain ⟨f1, f2, hle⟩ := okS_iff.1 HOK.out
    obtain ⟨s1, s2, s3⟩ := part_sz (u := u) (v := v) f1 f2 (by omega) (by omega) (by omega)
    have HF1 := Lib.hid f1
    have HF2 := Lib.hid f2
    have HS1 := Lib.hid s1
    have HS2 := Lib.hid s2
    have HS3 := Lib.hid s3
    clear f1 f2 hle s1 s2 s3 HOI
    obtain ⟨q, hq⟩ : ∃ q, Rat.divInt u v = q := ⟨_, rfl⟩
    have HQ := Lib.hid hq
    go_upto_region 3 with (fail)
    obtain ⟨pa, pb, _, _, _⟩ := (K1.blk (g := w.heap.size) (vs := [.float .f64 lo, .float .f64 hi]) (by simp)).two
    go_wp2_with fail
    refine (frac_float_fin lo b1 _ (HT.out.next K1.1) HF1.out).mono ?_
    rintro e8x v8 ⟨s8, A8, n8, p8, l8, z8, B8, m8, d8, k8, rfl, O8, hb⟩
    have hbx : Below w1.heap.size w1 (v8.alloc (.cells #[.bool s8, .slice A8 n8 p8, .bool z8, .slice B8 m8 d8] 29)) := below_next hb ((Below.refl _ _).alloc (Nat.le_refl _) _)
    have K2 := (K1.next hb).var (g := v8.heap.size) rfl [.bool s8, .slice A8 n8 p8, .bool z8, .slice B8 m8 d8] 29
    replace O8 := O8.next (w' := v8.alloc (.cells #[.bool s8, .slice A8 n8 p8, .bool z8, .slice B8 m8 d8] 29)) ((Below.refl _ _).alloc (Nat.le_refl _) _)
    clear K1 hb hbx pa pb
    go_upto_region 4 with (fail)
    generalize v8.heap.size = g8 at K2 ⊢
    generalize v8.alloc (.cells #[.bool s8, .slice A8 n8 p8, .bool z8, .slice B8 m8 d8] 29) = u8 at K2 O8 ⊢
    obtain ⟨pa, pb, _, _, _⟩ := (K2.blk (g := w.heap.size) (vs := [.float .f64 lo, .float .f64 hi]) (by simp)).two
    go_wp2_with fail
    refine (frac_float_fin hi b2 _ (HT.out.next K2.1) HF2.out).mono ?_
    rintro e10x v10 ⟨s10, A10, n10, p10, l10, z10, B10, m10, d10, k10, rfl, O10, hb⟩
    have hbx : Below u8.heap.size u8 (v10.alloc (.cells #[.bool s10, .slice A10 n10 p10, .bool z10, .slice B10 m10 d10] 29)) := below_next hb ((Below.refl _ _).alloc (Nat.le_refl _) _)
    have K3 := (K2.next hb).var (g := v10.heap.size) rfl [.bool s10, .slice A10 n10 p10, .bool z10, .slice B10 m10 d10] 29
    replace O10 := O10.next (w' := v10.alloc (.cells #[.bool s10, .slice A10 n10 p10, .bool z10, .slice B10 m10 d10] 29)) ((Below.refl _ _).alloc (Nat.le_refl _) _)
    replace O8 := O8.next hbx
    clear K2 hb hbx pa pb
    go_upto_region 5 with (fail)
    generalize v10.heap.size = g10 at K3 ⊢
    generalize v10.alloc (.cells #[.bool s10, .slice A10 n10 p10, .bool z10, .slice B10 m10 d10] 29) = u10 at K3 O8 O10 ⊢
    go_wp2_with fail
    refine (frac_of_any u v q _ hu hv (by omega) HQ).mono ?_
    rintro e12x v12 ⟨s12, A12, n12, p12, l12, z12, B12, m12, d12, k12, rfl, O12, hb⟩
    have hbx : Below u10.heap.size u10 (v12.alloc (.cells #[.bool s12, .slice A12 n12 p12, .bool z12, .slice B12 m12 d12] 29)) := below_next hb ((Below.refl _ _).alloc (Nat.le_refl _) _)
    have K4 := (K3.next hb).var (g := v12.heap.size) rfl [.bool s12, .slice A12 n12 p12, .bool z12, .slice B12 m12 d12] 29
    replace O12 := O12.next (w' := v12.alloc (.cells #[.bool s12, .slice A12 n12 p12, .bool z12, .slice B12 m12 d12] 29)) ((Below.refl _ _).alloc (Nat.le_refl _) _)
    replace O8 := O8.next hbx
    replace O10 := O10.next hbx
    clear K3 hb hbx
    go_upto_region 6 with (fail)
    generalize v12.heap.size = g12 at K4 ⊢
    generalize v12.alloc (.cells #[.bool s12, .slice A12 n12 p12, .bool z12, .slice B12 m12 d12] 29) = u12 at K4 O8 O10 O12 ⊢
    obtain ⟨⟨xa, xb, xc, xd⟩, _, _⟩ := (K4.blk (g := g10) (vs := [.bool s10, .slice A10 n10 p10, .bool z10, .slice B10 m10 d10]) (by simp)).four
    obtain ⟨⟨ya, yb, yc, yd⟩, _, _⟩ := (K4.blk (g := g8) (vs := [.bool s8, .slice A8 n8 p8, .bool z8, .slice B8 m8 d8]) (by simp)).four
    go_wp2_with fail
    refine (frac_sub_any s10 A10 n10 p10 l10 z10 B10 m10 d10 k10 s8 A8 n8 p8 l8 z8 B8 m8 d8 k8 (fr hi) (fr lo) (fr hi - fr lo) _ O10 O8 HS1.out (Lib.hid rfl)).mono ?_
    rintro e14x v14 ⟨s14, A14, n14, p14, l14, z14, B14, m14, d14, k14, rfl, O14, hb⟩
    have hbx : Below u12.heap.size u12 (v14.alloc (.cells #[.bool s14, .slice A14 n14 p14, .bool z14, .slice B14 m14 d14] 29)) := below_next hb ((Below.refl _ _).alloc (Nat.le_refl _) _)
    have K5 := (K4.next hb).var (g := v14.heap.size) rfl [.bool s14, .slice A14 n14 p14, .bool z14, .slice B14 m14 d14] 29
    replace O14 := O14.next (w' := v14.alloc (.cells #[.bool s14, .slice A14 n14 p14, .bool z14, .slice B14 m14 d14] 29)) ((Below.refl _ _).alloc (Nat.le_refl _) _)
    replace O8 := O8.next hbx
    replace O10 := O10.next hbx
    replace O12 := O12.next hbx
    clear K4 hb hbx xa xb xc xd ya yb yc yd
    go_upto_region 7 with (fail)
    generalize v14.heap.size = g14 at K5 ⊢
    generalize v14.alloc (.cells #[.bool s14, .slice A14 n14 p14, .bool z14, .slice B14 m14 d14] 29) = u14 at K5 O8 O10 O12 O14 ⊢
    obtain ⟨⟨xa, xb, xc, xd⟩, _, _⟩ := (K5.blk (g := g14) (vs := [.bool s14, .slice A14 n14 p14, .bool z14, .slice B14 m14 d14]) (by simp)).four
    obtain ⟨⟨ya, yb, yc, yd⟩, _, _⟩ := (K5.blk (g := g12) (vs := [.bool s12, .slice A12 n12 p12, .bool z12, .slice B12 m12 d12]) (by simp)).four
    go_wp2_with fail
    refine (frac_mul_any s14 A14 n14 p14 l14 z14 B14 m14 d14 k14 s12 A12 n12 p12 l12 z12 B12 m12 d12 k12 (fr hi - fr lo) q ((fr hi - fr lo) * q) _ O14 O12 (by rw [← HQ.out]; exact HS2.out) (Lib.hid rfl)).mono ?_
    rintro e16x v16 ⟨s16, A16, n16, p16, l16, z16, B16, m16, d16, k16, rfl, O16, hb⟩
    have hbx : Below u14.heap.size u14 (v16.alloc (.cells #[.bool s16, .slice A16 n16 p16, .bool z16, .slice B16 m16 d16] 29)) := below_next hb ((Below.refl _ _).alloc (Nat.le_refl _) _)
    have K6 := (K5.next hb).var (g := v16.heap.size) rfl [.bool s16, .slice A16 n16 p16, .bool z16, .slice B16 m16 d16] 29
    replace O16 := O16.next (w' := v16.alloc (.cells #[.bool s16, .slice A16 n16 p16, .bool z16, .slice B16 m16 d16] 29)) ((Below.refl _ _).alloc (Nat.le_refl _) _)
    replace O8 := O8.next hbx
    replace O10 := O10.next hbx
    replace O12 := O12.next hbx
    replace O14 := O14.next hbx
    clear K5 hb hbx xa xb xc xd ya yb yc yd
    go_upto_region 8 with (fail)
    generalize v16.heap.size = g16 at K6 ⊢
    generalize v16.alloc (.cells #[.bool s16, .slice A16 n16 p16, .bool z16, .slice B16 m16 d16] 29) = u16 at K6 O8 O10 O12 O14 O16 ⊢
    obtain ⟨⟨xa, xb, xc, xd⟩, _, _⟩ := (K6.blk (g := g8) (vs := [.bool s8, .slice A8 n8 p8, .bool z8, .slice B8 m8 d8]) (by simp)).four
    obtain ⟨⟨ya, yb, yc, yd⟩, _, _⟩ := (K6.blk (g := g16) (vs := [.bool s16, .slice A16 n16 p16, .bool z16, .slice B16 m16 d16]) (by simp)).four
    go_wp2_with fail
    refine (frac_add_any s8 A8 n8 p8 l8 z8 B8 m8 d8 k8 s16 A16 n16 p16 l16 z16 B16 m16 d16 k16 (fr lo) ((fr hi - fr lo) * q) (part lo hi u v) _ O8 O16 HS3.out (Lib.hid (by unfold part; rw [HQ.out]))).mono ?_
    rintro e18x v18 ⟨s18, A18, n18, p18, l18, z18, B18, m18, d18, k18, rfl, O18, hb⟩
    have hbx : Below u16.heap.size u16 (v18.alloc (.cells #[.bool s18, .slice A18 n18 p18, .bool z18, .slice B18 m18 d18] 29)) := below_next hb ((Below.refl _ _).alloc (Nat.le_refl _) _)
    have K7 := (K6.next hb).var (g := v18.heap.size) rfl [.bool s18, .slice A18 n18 p18, .bool z18, .slice B18 m18 d18] 29
    replace O18 := O18.next (w' := v18.alloc (.cells #[.bool s18, .slice A18 n18 p18, .bool z18, .slice B18 m18 d18] 29)) ((Below.refl _ _).alloc (Nat.le_refl _) _)
    replace O8 := O8.next hbx
    replace O10 := O10.next hbx
    replace O12 := O12.next hbx
    replace O14 := O14.next hbx
    replace O16 := O16.next hbx
    clear K6 hb hbx xa xb xc xd ya yb yc yd
    go_upto_region 9 with (fail)
    generalize v18.heap.size = g18 at K7 ⊢
    generalize v18.alloc (.cells #[.bool s18, .slice A18 n18 p18, .bool z18, .slice B18 m18 d18] 29) = u18 at K7 O8 O10 O12 O14 O16 O18 ⊢
    obtain ⟨⟨xa, xb, xc, xd⟩, _, _⟩ := (K7.blk (g := g18) (vs := [.bool s18, .slice A18 n18 p18, .bool z18, .slice B18 m18 d18]) (by simp)).four
    obtain ⟨⟨ra, rb, rc, rd⟩, ⟨re, rf, rg, rh⟩, ri⟩ := (K7.blk (g := w.heap.size + 1) (vs := [.bool false, .slice none 0 0, .bool false, .slice none 0 0]) (by simp)).four
    obtain ⟨i1, i2, _⟩ := O18.ints
    have K8 := (K7.int i2).int i1
    go_wp2_with fail
    have KE := (K8.pick (L' := [(w.heap.size + 1, [.bool false, .slice none 0 0, .bool false, .slice none 0 0])]) (l' := [(s18, A18, n18, p18, (part lo hi u v).num), (z18, B18, m18, d18, ((part lo hi u v).den : Int))]) (by simp) (by simp)).set4 (by simp) s18 A18 n18 p18 z18 B18 m18 d18
    obtain ⟨l2, l3, OE⟩ := okF_of (KE.at_ (neg := s18) (A := A18) (n := n18) (c := p18) (z := (part lo hi u v).num) (by simp)) (KE.at_ (neg := z18) (A := B18) (n := m18) (c := d18) (z := ((part lo hi u v).den : Int)) (by simp)) HS3.out
    exact bodyPost_ret (v := .tuple #[.agg #[.bool s18, .slice A18 n18 p18, .bool z18, .slice B18 m18 d18], .bool true]) (by simp [results, Tryz.results15, go_sem, ra, rb, rc, rd]) rfl (.inl ⟨HOK.out, c1, c2, c3, _, _, _, _, _, _, _, _, _, _, rfl, OE, KE.1⟩)
  · obtain ⟨⟨ra, rb, rc, rd⟩, ⟨re, rf, rg, rh⟩, ri⟩ := (K1.blk (g := w.heap.size + 1) (vs := [.bool false, .slice none 0 0, .bool false, .slice none 0 0]) (by simp)).four
    obtain ⟨pa, pb, _, _, _⟩ := (K1.blk (g := w.heap.size) (vs := [.float .f64 lo, .float .f64 hi]) (by simp)).two
    cases ok with
    | false =>
      clear hc
      go_wp2_with fail
      all_goals exact bodyPost_ret (v := .tuple #[.agg #[.bool false, .slice none 0 0, .bool false, .slice none 0 0], .bool false]) (by simp [results, Tryz.results15, go_sem, ra, rb, rc, rd]) rfl (.inr ⟨rfl, by first | exact K1.1 | exact (K1.pick (L' := [(w.heap.size + 1, [.bool false, .slice none 0 0, .bool false, .slice none 0 0])]) (l' := []) (by simp) (by simp)).set4 (by simp) false none 0 0 false none 0 0 |>.1⟩)
    | true =>
      by_cases n1 : v < 1
      · clear hc
        go_wp2_with fail
        all_goals exact bodyPost_ret (v := .tuple #[.agg #[.bool false, .slice none 0 0, .bool false, .slice none 0 0], .bool false]) (by simp [results, Tryz.results15, go_sem, ra, rb, rc, rd]) rfl (.inr ⟨rfl, by first | exact K1.1 | exact (K1.pick (L' := [(w.heap.size + 1, [.bool false, .slice none 0 0, .bool false, .slice none 0 0])]) (l' := []) (by simp) (by simp)).set4 (by simp) false none 0 0 false none 0 0 |>.1⟩)
      · by_cases n2 : u < 0
        · clear hc
          go_wp2_with fail
          all_goals exact bodyPost_ret (v := .tuple #[.agg #[.bool false, .slice none 0 0, .bool false, .slice none 0 0], .bool false]) (by simp [results, Tryz.results15, go_sem, ra, rb, rc, rd]) rfl (.inr ⟨rfl, by first | exact K1.1 | exact (K1.pick (L' := [(w.heap.size + 1, [.bool false, .slice none 0 0, .bool false, .slice none 0 0])]) (l' := []) (by simp) (by simp)).set4 (by simp) false none 0 0 false none 0 0 |>.1⟩)
        · have n3 : v < u := by
            rcases Int.lt_or_le v u with q | q
            · exact q
            · exact absurd ⟨rfl, by omega, by omega, q⟩ hc
          clear hc
          go_wp2_with fail
          all_goals exact bodyPost_ret (v := .tuple #[.agg #[.bool false, .slice none 0 0, .bool false, .slice none 0 0], .bool false]) (by simp [results, Tryz.results15, go_sem, ra, rb, rc, rd]) rfl (.inr ⟨rfl, by first | exact K1.1 | exact (K1.pick (L' := [(w.heap.size + 1, [.bool false, .slice none 0 0, .bool false, .slice none 0 0])]) (l' := []) (by simp) (by simp)).set4 (by simp) false none 0 0 false none 0 0 |>.1⟩)
end Go.Proofs.YtjcjphgpmpjmbaaGreatDoor
