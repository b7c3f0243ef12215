/-
  Films by floats: the waves (stack.Waves; polestarref19.Waves).
-/
import Derived.Test.YtgafjnfplgfajaaStk4
namespace Go.Proofs.Ytgafjnfplgfajaa
open Go.RowKit

def RetWav (W : World) (P : Nat × Nat → Nat × Nat → Int → Prop) (e : Ending) (w' : World) : Prop :=
  ∃ (B T : Nat × Nat) (c : Int), e = .returned (.tuple #[.complex .f64 B.1 B.2, .complex .f64 T.1 T.2, .int .i64 c]) ∧ P B T c ∧ Below W.heap.size W w'
theorem film_lt {u v n : Nat} {C : Nat → Coat} {b t : Nat × Nat} (h : FilmR u v n C b t) : (b.1 < 2 ^ 64 ∧ b.2 < 2 ^ 64) ∧ t.1 < 2 ^ 64 ∧ t.2 < 2 ^ 64 := by
  obtain ⟨x, y, _, p, s, d, m, _, _, _, h5, _, h7⟩ := h
  obtain ⟨_, _, _, _, _, _, a, b⟩ := h5
  obtain ⟨_, _, _, _, _, _, e, f⟩ := h7
  exact ⟨⟨a.1, b.1⟩, e.1, f.1⟩
set_option maxRecDepth 100000 in
set_option maxHeartbeats 3200000 in
theorem stack_waves_any (u v : Nat) (hu : u < 2 ^ 64) (hv : v < 2 ^ 64) (A : Option Addr) (n c : Nat) (C : Nat → Coat) (w : World) (hC : Cs w A n C) :
    Calls Try.prog 8 #[.float .f64 u, .float .f64 v, .slice A n c] w (RetWav w (WavR u v n C)) := by
  have hmf : ∀ (fn : Fn) (first cap : Array Value) (w : World), (Instr.makeFunc fn first cap).run Try.prog w = .ok (.func fn first cap) w := fun _ _ _ _ => rfl
  have hC0 : Cs (w.alloc (.cells #[.int .i64 0] 27)) A n C := hC.below ((Below.refl _ _).alloc (Nat.le_refl _) _)
  have hb0 : Below w.heap.size w (w.alloc (.cells #[.int .i64 0] 27)) := (Below.refl _ _).alloc (Nat.le_refl _) _
  have hc0 : (w.alloc (.cells #[.int .i64 0] 27)).cell? ⟨w.heap.size, 0, none⟩ = some (.int .i64 0) := by simp [go_sem]
  have hf0 : (w.alloc (.cells #[.int .i64 0] 27)).frozen? ⟨w.heap.size, 0, none⟩ = false := by simp [go_sem]
  have hs0 : w.heap.size < (w.alloc (.cells #[.int .i64 0] 27)).heap.size := by simp
  obtain ⟨k, hk⟩ : ∃ k, chkF u v n C = k := ⟨_, rfl⟩
  have HK := Lib.hid hk
  clear hk
  go_enter Try.func8, Try.ntmps8
  go_wp2_with fail
  generalize w.alloc (.cells #[.int .i64 0] 27) = w0 at hC0 hb0 hc0 hf0 hs0 ⊢
  refine (stack_check_any u v hu hv A n c C _ hC0).mono ?_
  rintro e1 w1 ⟨rfl, hb1⟩
  rw [HK.out]
  have hC1 := hC0.below hb1
  have hB1 := below_next hb0 hb1
  have hc1 := ((bcell hb1).1 _ _ hs0).trans hc0
  have hf1 := ((bcell hb1).2 _ _ hs0).trans hf0
  have hs1 : w.heap.size < w1.heap.size := Nat.lt_of_lt_of_le hs0 hb1.size
  clear hC0 hb0 hc0 hf0 hs0 hb1
  by_cases h0 : k = 0
  · subst h0
    obtain ⟨hn, hok⟩ := chk_all HK.out
    have HOK := Lib.hid hok
    clear hok
    go_wp2_with fail
    refine (film_any u v A n c w.heap.size C _ hC1 hn HOK hc1 hf1 hs1).mono ?_
    rintro e2 w2 ⟨⟨b1, b2⟩, ⟨t1, t2⟩, rfl, hR, hb2⟩
    obtain ⟨⟨l1, l2⟩, l3, l4⟩ := film_lt hR
    have HR := Lib.hid hR
    have hB2 := below_next hB1 hb2
    have hc2 := ((bcell hb2).1 _ _ hs1).trans hc1
    have hf2 := ((bcell hb2).2 _ _ hs1).trans hf1
    clear hR hB1 hc1 hf1 hb2 hC1 hmf
    obtain ⟨f1, hf1⟩ : ∃ f, fin2 (b1, b2) = f := ⟨_, rfl⟩
    obtain ⟨f2, hf2'⟩ : ∃ f, fin2 (t1, t2) = f := ⟨_, rfl⟩
    have F1 := Lib.hid hf1
    have F2 := Lib.hid hf2'
    clear hf1 hf2'
    cases f1 with
    | false =>
      go_wp2_with (go_at_call 31; (with_reducible refine (cplx_Finite_any b1 b2 l1 l2 _).mono ?_); rintro e3 w3 ⟨rfl, rfl⟩; rw [F1.out])
      exact bodyPost_ret (v := .tuple #[.complex .f64 0 0, .complex .f64 0 0, .int .i64 6]) (by simp [results, Try.results8, go_sem, hc2]) rfl
        ⟨(0, 0), (0, 0), 6, rfl, ⟨fun h => absurd HK.out h, fun _ => ⟨_, _, HR.out, by rw [F1.out, Bool.false_and]; exact ⟨rfl, rfl, rfl⟩⟩⟩, hB2.setCell (p := ⟨w.heap.size, 0, none⟩) (Nat.le_refl _) _⟩
    | true =>
      cases f2 with
      | false =>
        go_wp2_with (first | (go_at_call 31; (with_reducible refine (cplx_Finite_any b1 b2 l1 l2 _).mono ?_); rintro e3 w3 ⟨rfl, rfl⟩; rw [F1.out]) | (go_at_call 31; (with_reducible refine (cplx_Finite_any t1 t2 l3 l4 _).mono ?_); rintro e3 w3 ⟨rfl, rfl⟩; rw [F2.out]))
        exact bodyPost_ret (v := .tuple #[.complex .f64 0 0, .complex .f64 0 0, .int .i64 6]) (by simp [results, Try.results8, go_sem, hc2]) rfl
          ⟨(0, 0), (0, 0), 6, rfl, ⟨fun h => absurd HK.out h, fun _ => ⟨_, _, HR.out, by rw [F1.out, F2.out]; exact ⟨rfl, rfl, rfl⟩⟩⟩, hB2.setCell (p := ⟨w.heap.size, 0, none⟩) (Nat.le_refl _) _⟩
      | true =>
        go_wp2_with (first | (go_at_call 31; (with_reducible refine (cplx_Finite_any b1 b2 l1 l2 _).mono ?_); rintro e3 w3 ⟨rfl, rfl⟩; rw [F1.out]) | (go_at_call 31; (with_reducible refine (cplx_Finite_any t1 t2 l3 l4 _).mono ?_); rintro e3 w3 ⟨rfl, rfl⟩; rw [F2.out]))
        exact bodyPost_ret (v := .tuple #[.complex .f64 b1 b2, .complex .f64 t1 t2, .int .i64 0]) (by simp [results, Try.results8, go_sem, hc2]) rfl
          ⟨(b1, b2), (t1, t2), 0, rfl, ⟨fun h => absurd HK.out h, fun _ => ⟨_, _, HR.out, by rw [F1.out, F2.out]; exact ⟨rfl, rfl, rfl⟩⟩⟩, hB2.setCell (p := ⟨w.heap.size, 0, none⟩) (Nat.le_refl _) _⟩
  · go_wp2_with fail
    exact bodyPost_ret (v := .tuple #[.complex .f64 0 0, .complex .f64 0 0, .int .i64 k]) (by simp [results, Try.results8, go_sem, hc1]) rfl
      ⟨(0, 0), (0, 0), k, rfl, ⟨fun _ => ⟨rfl, rfl, HK.out.symm⟩, fun h => absurd (HK.out.symm.trans h) h0⟩, hB1.setCell (p := ⟨w.heap.size, 0, none⟩) (Nat.le_refl _) _⟩
theorem ref17_unit_of (K : Int) (T U1 U2 : Nat) (hT : T ≤ 16) (w : World) (hU : Hid (uF (jF K T) = (U1, U2))) :
    Calls Try.prog 33 #[.int .i64 K, .int .i64 (T : Int)] w fun e w' => e = .returned (.complex .f64 U1 U2) ∧ ∃ d, w' = w.drewN d := by
  refine (ref17_unit K T hT w).mono fun e w' h => ⟨?_, h.2⟩
  rw [h.1, hU.out]
set_option maxRecDepth 100000 in
set_option maxHeartbeats 8000000 in
theorem ref19_waves_any (u v : Nat) (hu : u < 2 ^ 64) (hv : v < 2 ^ 64) (A : Option Addr) (n c : Nat) (C : Nat → Coat) (w : World) (hC : Cs w A n C) :
    Calls Try.prog 9 #[.float .f64 u, .float .f64 v, .slice A n c] w (RetWav w (WavR u v n C)) := by
  obtain ⟨k, hk⟩ : ∃ k, chkF u v n C = k := ⟨_, rfl⟩
  have HK := Lib.hid hk
  clear hk
  go_enter Try.func9, Try.ntmps9
  go_wp2_with fail
  refine (ref19_check_any u v hu hv A n c C _ hC).mono ?_
  rintro e1 w1 ⟨rfl, hB1⟩
  rw [HK.out]
  have hC1 := hC.below hB1
  by_cases h0 : k = 0
  · subst h0
    obtain ⟨hn, hok⟩ := chk_all HK.out
    have HOK := Lib.hid hok
    clear hok
    go_wp2_with fail
    go_loopw [10, 11, 12] (fun x y i wr => ∃ (j : Nat) (X Y : Nat × Nat), j ≤ n ∧ x = .complex .f64 X.1 X.2 ∧ y = .complex .f64 Y.1 Y.2 ∧ i = .int .i64 ((n : Int) - 1 - (j : Int)) ∧ Hid (FRun C n v j X Y) ∧ ∃ d, wr = w1.drewN d)
      (fun _ _ i _ => (intOf i + 1).toNat)
    case atStart => exact ⟨0, (4607182418800017408, 0), (v, 0), Nat.zero_le _, rfl, rfl, congrArg (Value.int .i64) (by omega), Lib.hid ⟨rfl, rfl⟩, 0, rfl⟩
    case round =>
      obtain ⟨j, ⟨x1, x2⟩, ⟨y1, y2⟩, hj, rfl, rfl, rfl, HR, d, rfl⟩ := hrel
      by_cases hjn : j = n
      · subst hjn
        go_wp2_with fail
        refine (ref6_mul_any u 0 x1 x2 _).mono ?_
        rintro e2 w2 ⟨p1, p2, rfl, hp, k2, rfl⟩
        have HP := Lib.hid hp
        clear hp
        go_wp2_with (first
          | (go_at_call 34; (with_reducible refine (ref6_add_any p1 p2 y1 y2 _).mono ?_); rintro e3 w3 ⟨s1, s2, rfl, hs, k3, rfl⟩; have HSS := Lib.hid hs; clear hs)
          | (go_at_call 37; (with_reducible refine (ref6_sub_any p1 p2 y1 y2 _).mono ?_); rintro e4 w4 ⟨d1, d2, rfl, hd, k4, rfl⟩; have HD := Lib.hid hd; clear hd)
          | (go_at_call 36; (with_reducible refine (ref6_quo_any d1 d2 s1 s2 _).mono ?_); rintro e5 w5 ⟨b1, b2, rfl, hb', k5, rfl⟩; have HBB := Lib.hid hb'; clear hb')
          | (go_at_call 34; (with_reducible refine (ref6_add_any u 0 u 0 _).mono ?_); rintro e6 w6 ⟨m1, m2, rfl, hm, k6, rfl⟩; have HM := Lib.hid hm; clear hm)
          | (go_at_call 36; (with_reducible refine (ref6_quo_any m1 m2 s1 s2 _).mono ?_); rintro e7 w7 ⟨t1, t2, rfl, ht, k7, rfl⟩; have HT := Lib.hid ht; clear ht))
        have hF : FilmR u v j C (b1, b2) (t1, t2) := ⟨(x1, x2), (y1, y2), HR.out, (p1, p2), (s1, s2), (d1, d2), (m1, m2), HP.out, HSS.out, HD.out, HBB.out, HM.out, HT.out⟩
        obtain ⟨⟨l1, l2⟩, l3, l4⟩ := film_lt hF
        have HFF := Lib.hid hF
        clear hF HP HSS HD HBB HM HT HR
        obtain ⟨f1, hf1⟩ : ∃ f, fin2 (b1, b2) = f := ⟨_, rfl⟩
        obtain ⟨f2, hf2⟩ : ∃ f, fin2 (t1, t2) = f := ⟨_, rfl⟩
        have F1 := Lib.hid hf1
        have F2 := Lib.hid hf2
        clear hf1 hf2
        have hBB : ∀ k, Below w.heap.size w (w1.drewN k) := fun k => below_drewN hB1 k
        cases f1 with
        | false =>
          refine (ref19_finite_any b1 b2 l1 l2 _).mono ?_
          rintro e8 w8 ⟨rfl, rfl⟩
          rw [F1.out]
          go_wp2_with fail
          go_ret3
          exact ⟨(0, 0), (0, 0), 6, rfl, ⟨fun h => absurd HK.out h, fun _ => ⟨_, _, HFF.out, by rw [F1.out, Bool.false_and]; exact ⟨rfl, rfl, rfl⟩⟩⟩, hBB _⟩
        | true =>
          cases f2 with
          | false =>
            refine (ref19_finite_any b1 b2 l1 l2 _).mono ?_
            rintro e8 w8 ⟨rfl, rfl⟩
            rw [F1.out]
            go_wp2_with (go_at_call 38; (with_reducible refine (ref19_finite_any t1 t2 l3 l4 _).mono ?_); rintro e9 w9 ⟨rfl, rfl⟩; rw [F2.out])
            go_ret3
            exact ⟨(0, 0), (0, 0), 6, rfl, ⟨fun h => absurd HK.out h, fun _ => ⟨_, _, HFF.out, by rw [F1.out, F2.out]; exact ⟨rfl, rfl, rfl⟩⟩⟩, hBB _⟩
          | true =>
            refine (ref19_finite_any b1 b2 l1 l2 _).mono ?_
            rintro e8 w8 ⟨rfl, rfl⟩
            rw [F1.out]
            go_wp2_with (go_at_call 38; (with_reducible refine (ref19_finite_any t1 t2 l3 l4 _).mono ?_); rintro e9 w9 ⟨rfl, rfl⟩; rw [F2.out])
            go_ret3
            exact ⟨(b1, b2), (t1, t2), 0, rfl, ⟨fun h => absurd HK.out h, fun _ => ⟨_, _, HFF.out, by rw [F1.out, F2.out]; exact ⟨rfl, rfl, rfl⟩⟩⟩, hBB _⟩
      · have hlt : j < n := by omega
        obtain ⟨q, hk⟩ : ∃ q : Nat, n = j + 1 + q := ⟨n - 1 - j, by omega⟩
        have hi : (n : Int) - 1 - (j : Int) = (q : Int) := by omega
        rw [hi]
        have hkn : q < n := by omega
        have HF : Hid (∀ X' Y', FStep (C q) (x1, x2) (y1, y2) X' Y' → FRun C n v (j + 1) X' Y') := Lib.hid (fun X' Y' h => ⟨_, _, HR.out, by rw [show n - 1 - j = q by omega]; exact h⟩)
        obtain ⟨g, o, rfl, hg, hc⟩ := hC1 (by omega)
        obtain ⟨c0, c1, c2, c3⟩ := hc q hkn
        have hcoat := coat_parts (HOK.out q hkn)
        obtain ⟨⟨N, K, T0⟩, hct⟩ : ∃ t, C q = t := ⟨_, rfl⟩
        rw [hct] at c0 c1 c2 c3 hcoat HF
        obtain ⟨T, hT⟩ : ∃ T : Nat, T0.toNat = T := ⟨_, rfl⟩
        have hT0 : T0 = (T : Int) := by rw [← hT]; exact hcoat.1
        have hT1 : T ≤ 16 := by rw [← hT]; exact hcoat.2
        obtain ⟨⟨U1, U2⟩, hUU⟩ : ∃ z, uF (jF K T) = z := ⟨_, rfl⟩
        have HU : Hid (cU (N, K, T0) = (U1, U2)) := Lib.hid (by unfold cU; rw [hT]; exact hUU)
        have HUU := Lib.hid hUU
        subst hT0
        have hk0 : (0 : Int) ≤ (q : Int) := Int.natCast_nonneg _
        have hk1 : (q : Int) < (n : Int) := by omega
        have HQK := Lib.hid hk
        clear hc hct hcoat hT hjn HR hi hUU hk
        go_wp2_with fail
        go_region_held3 (fun w' => w'.cell? ⟨g, o + q * 3, none⟩ = some (.float .f64 N) ∧ w'.cell? ⟨g, o + q * 3 + 1, none⟩ = some (.int .i64 K) ∧ w'.cell? ⟨g, o + q * 3 + 2, none⟩ = some (.int .i64 (T : Int)))
          (first | exact ⟨c0, c1, c2⟩ | go_keep)
          (first
            | (go_at_call 33; (with_reducible refine (ref17_unit_of K T U1 U2 hT1 _ HUU).mono ?_); rintro e2 w2 ⟨rfl, d2, rfl⟩))
        go_wp2_with (first
          | (go_at_call 35; (with_reducible refine (ref6_mul_any U1 0 x1 x2 _).mono ?_); rintro e4 w4 ⟨p1, p2, rfl, hp, k4, rfl⟩; have HP := Lib.hid hp; clear hp)
          | (go_at_call 36; (with_reducible refine (ref6_quo_any 0 U2 N 0 _).mono ?_); rintro e5 w5 ⟨v1, v2, rfl, hq, k5, rfl⟩; have HQ := Lib.hid hq; clear hq)
          | (go_at_call 35; (with_reducible refine (ref6_mul_any v1 v2 y1 y2 _).mono ?_); rintro e6 w6 ⟨r1, r2', rfl, hr, k6, rfl⟩; have HRR := Lib.hid hr; clear hr)
          | (go_at_call 34; (with_reducible refine (ref6_add_any p1 p2 r1 r2' _).mono ?_); rintro e7 w7 ⟨a1, a2, rfl, ha, k7, rfl⟩; have HA := Lib.hid ha; clear ha)
          | (go_at_call 35; (with_reducible refine (ref6_mul_any 0 U2 N 0 _).mono ?_); rintro e14 w14 ⟨s1, s2, rfl, hs, k14, rfl⟩; have HS := Lib.hid hs; clear hs)
          | (go_at_call 35; (with_reducible refine (ref6_mul_any s1 s2 x1 x2 _).mono ?_); rintro e15 w15 ⟨t1, t2, rfl, ht, k15, rfl⟩; have HTT := Lib.hid ht; clear ht)
          | (go_at_call 35; (with_reducible refine (ref6_mul_any U1 0 y1 y2 _).mono ?_); rintro e16 w16 ⟨o1, o2, rfl, ho, k16, rfl⟩; have HO := Lib.hid ho; clear ho)
          | (go_at_call 34; (with_reducible refine (ref6_add_any t1 t2 o1 o2 _).mono ?_); rintro e17 w17 ⟨b1, b2, rfl, hb', k17, rfl⟩; have HBB := Lib.hid hb'; clear hb'))
        have hi2 : (q : Int) - 1 = (n : Int) - 1 - ((j + 1 : Nat) : Int) := by have := HQK.out; omega
        refine ⟨⟨j + 1, (a1, a2), (b1, b2), by have := HQK.out; omega, rfl, rfl, congrArg (Value.int .i64) hi2, Lib.hid (HF.out _ _ ⟨(p1, p2), (v1, v2), (r1, r2'), (s1, s2), (t1, t2), (o1, o2), ?_⟩), _, rfl⟩, ?_⟩
        · rw [HU.out]
          exact ⟨HP.out, HQ.out, HRR.out, HA.out, HS.out, HTT.out, HO.out, HBB.out⟩
        · simp [intOf]
  · go_wp2_with fail
    go_ret3
    exact ⟨(0, 0), (0, 0), k, rfl, ⟨fun _ => ⟨rfl, rfl, HK.out.symm⟩, fun h => absurd (HK.out.symm.trans h) h0⟩, hB1⟩
end Go.Proofs.Ytgafjnfplgfajaa
