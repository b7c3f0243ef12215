/-
  RoundFracs answers true.
-/
import Derived.Test.YtgafjnfplgfajaaExFg
import Derived.Test.YtgafjnfplgfajaaExFa
import Derived.Test.YtgafjnfplgfajaaExFb
import Derived.Test.YtgafjnfplgfajaaBey
import Derived.Test.YtgafjnfplgfajaaSame
namespace Go.Proofs.Ytgafjnfplgfajaa
open Go.RowKit

theorem RetFe.same {neg neg' : Bool} {l l' : List Nat} {d u d' u' : Nat} (h : okFr neg l neg' l' → Brk (decide (sgnd neg (Lm.lv l) < 0)) (Lm.lv l * 2 ^ Flt.K74) (Lm.lv l') d u) (h0 : ¬ okFr neg l neg' l' → d = 0 ∧ u = 0)
    (k : okFr neg l neg' l' → Brk (decide (sgnd neg (Lm.lv l) < 0)) (Lm.lv l * 2 ^ Flt.K74) (Lm.lv l') d' u') (k0 : ¬ okFr neg l neg' l' → d' = 0 ∧ u' = 0) : d = d' ∧ u = u' := by
  by_cases ho : okFr neg l neg' l'
  · exact (h ho).unique (k ho)
  · obtain ⟨rfl, rfl⟩ := h0 ho
    obtain ⟨rfl, rfl⟩ := k0 ho
    exact ⟨rfl, rfl⟩
theorem cost_le {n n' : Nat} (h : ¬ 1048576 < costFr n n') : n ≤ 1000000000 ∧ n' ≤ 1000000000 := by
  unfold costFr at h
  omega
theorem cost_sum (n n' : Nat) (hn : n ≤ 281474976710656) (hn' : n' ≤ 281474976710656) : [costFr n n'].sum ≤ 9223372036854775807 := by
  have h1 : min n 1048576 * min n' 1048576 ≤ 1048576 * 1048576 := Nat.mul_le_mul (Nat.min_le_right _ _) (Nat.min_le_right _ _)
  unfold costFr
  simp only [List.sum_cons, List.sum_nil]
  generalize min n 1048576 * min n' 1048576 = p at *
  omega
set_option maxRecDepth 100000 in
set_option maxHeartbeats 1600000 in
theorem law_roundFracs (neg neg' : Bool) (A A' : Option Addr) (n c n' c' : Nat) (l l' : List Nat) (w : World) (ha : Sl w A n c l) (hb : Sl w A' n' c' l') (hn : n ≤ 281474976710656) (hn' : n' ≤ 281474976710656) :
    Calls Try.prog 4 #[.agg #[.bool neg, .slice A n c, .bool neg', .slice A' n' c']] w (RetV w (.bool true)) := by
  have K0 := (Mm.nil w).var (g := w.heap.size) rfl [.bool neg, .slice A n c, .bool neg', .slice A' n' c'] 38
  have ha0 := ha.below K0.1
  have hb0 := hb.below K0.1
  have HS := Lib.hid (cost_sum n n' hn hn')
  clear ha hb
  go_enter Try.func4, Try.ntmps4
  go_wp2_with fail
  refine (frac_cost_any neg neg' A A' n c n' c' _ hn hn').mono ?_
  rintro e1 w1 ⟨rfl, hb1⟩
  have K1 := K0.next hb1
  have ha1 := ha0.below hb1
  have hb2 := hb0.below hb1
  obtain ⟨⟨qa1, qb1, qc1, qd1⟩, _, _⟩ := (K1.blk (g := w.heap.size) (vs := [.bool neg, .slice A n c, .bool neg', .slice A' n' c']) (by simp)).four
  clear K0 ha0 hb0 hb1
  go_wp2_with fail
  have hR2 := nats_new w1 3 [costFr n n']
  have hB2 : Below w1.heap.size w1 (w1.alloc (.cells (nats [costFr n n']).toArray 3)) := (Below.refl _ _).alloc (Nat.le_refl _) _
  have hsum : [costFr n n'].sum = costFr n n' := by simp
  generalize hg2 : w1.alloc (.cells (nats [costFr n n']).toArray 3) = w2 at hB2 hR2
  rw [show w1.alloc (.cells #[.int .i64 ((costFr n n' : Nat) : Int)] 3) = w2 from hg2]
  clear hg2
  refine (beyond_any (some ⟨w1.heap.size, 0, none⟩) 1 1 [costFr n n'] _ hR2 (by decide) HS.out).mono ?_
  rintro e2 w3 ⟨rfl, rfl⟩
  rw [hsum]
  have K2 := K1.next hB2
  have ha3 := ha1.below hB2
  have hb3 := hb2.below hB2
  clear K1 ha1 hb2 hB2 hR2 HS
  by_cases hbig : 1048576 < costFr n n'
  · rw [decide_eq_true hbig]
    go_wp2_with fail
    go_ret
    exact ⟨rfl, K2.1⟩
  · rw [decide_eq_false hbig]
    obtain ⟨n1, n2⟩ := cost_le hbig
    obtain ⟨⟨qa1, qb1, qc1, qd1⟩, _, _⟩ := (K2.blk (g := w.heap.size) (vs := [.bool neg, .slice A n c, .bool neg', .slice A' n' c']) (by simp)).four
    go_wp2_with fail
    refine (twin_frac_any neg neg' A A' n c n' c' l l' _ ha3 hb3 n1 n2).mono ?_
    rintro e3 w3 ⟨g, d, g', d', rfl, T, T', hb4⟩
    have K3 := (K2.next hb4).var (g := w3.heap.size) rfl [.bool neg, .slice (some ⟨g, 0, none⟩) n d, .bool neg', .slice (some ⟨g', 0, none⟩) n' d'] 38
    have ha4 := (ha3.below hb4).alloc (.cells #[.bool neg, .slice (some ⟨g, 0, none⟩) n d, .bool neg', .slice (some ⟨g', 0, none⟩) n' d'] 38)
    have hb5 := (hb3.below hb4).alloc (.cells #[.bool neg, .slice (some ⟨g, 0, none⟩) n d, .bool neg', .slice (some ⟨g', 0, none⟩) n' d'] 38)
    clear K2 ha3 hb3 hb4
    go_wp2_with fail
    have T4 := T.below (w' := w3.alloc (.cells #[.bool neg, .slice (some ⟨g, 0, none⟩) n d, .bool neg', .slice (some ⟨g', 0, none⟩) n' d'] 38)) ((Below.refl _ _).alloc (Nat.le_refl _) _)
    have T5 := T'.below (w' := w3.alloc (.cells #[.bool neg, .slice (some ⟨g, 0, none⟩) n d, .bool neg', .slice (some ⟨g', 0, none⟩) n' d'] 38)) ((Below.refl _ _).alloc (Nat.le_refl _) _)
    clear T T'
    generalize hgs : w3.heap.size = gs at K3
    generalize w3.alloc (.cells #[.bool neg, .slice (some ⟨g, 0, none⟩) n d, .bool neg', .slice (some ⟨g', 0, none⟩) n' d'] 38) = w4 at K3 ha4 hb5 T4 T5 ⊢
    refine (round_frac neg neg' (some ⟨g, 0, none⟩) (some ⟨g', 0, none⟩) n d n' d' l l' _ T4.2.1 T5.2.1 n1 n2).mono ?_
    rintro e5 w5 ⟨d5, u5, rfl, ho5, hn5, hb6⟩
    have K5 := K3.next hb6
    have ha5 := ha4.below hb6
    have hb7 := hb5.below hb6
    have T6 := T4.below hb6
    have T7 := T5.below hb6
    obtain ⟨⟨qa5, qb5, qc5, qd5⟩, _, _⟩ := (K5.blk (g := w.heap.size) (vs := [.bool neg, .slice A n c, .bool neg', .slice A' n' c']) (by simp)).four
    clear K3 ha4 hb5 T4 T5 hb6
    go_wp2_with fail
    refine (ref4_frac neg neg' A A' n c n' c' l l' _ ha5 hb7 n1 n2).mono ?_
    rintro e6 w6 ⟨d6, u6, rfl, ho6, hn6, hb8⟩
    have hs := RetFe.same ho5 hn5 ho6 hn6
    have HQ : Hid ((Flt.sameB d5 d6 && Flt.sameB u5 u6) = true) := Lib.hid (by rw [hs.1, hs.2]; unfold Flt.sameB; simp)
    have K6 := K5.next hb8
    have ha6 := ha5.below hb8
    have hb9 := hb7.below hb8
    have T8 := T6.below hb8
    have T9 := T7.below hb8
    obtain ⟨⟨qa6, qb6, qc6, qd6⟩, _, _⟩ := (K6.blk (g := w.heap.size) (vs := [.bool neg, .slice A n c, .bool neg', .slice A' n' c']) (by simp)).four
    obtain ⟨⟨ra6, rb6, rc6, rd6⟩, _, _⟩ := (K6.blk (g := gs) (vs := [.bool neg, .slice (some ⟨g, 0, none⟩) n d, .bool neg', .slice (some ⟨g', 0, none⟩) n' d']) (by simp)).four
    clear K5 ha5 hb7 T6 T7 hb8 hs ho5 hn5 ho6 hn6
    obtain ⟨ce, hce⟩ : ∃ ce, chkFr neg l neg' l' = ce := ⟨_, rfl⟩
    rw [hce]
    clear hce
    go_wp2_with (first
      | (go_at_call 16; refine (law_same _ _ _ _ _).mono ?_; rintro e7 w7 ⟨rfl, rfl⟩; rw [HQ.out])
      | (go_at_call 17; (with_reducible refine (left_frac_any neg neg' A A' n c n' c' g d g' d' l l' _ ha6 hb9 T8 T9 n1 n2).mono ?_); rintro e8 w8 ⟨rfl, hb10⟩))
    go_ret
    exact ⟨rfl, (K6.next hb10).1⟩
end Go.Proofs.Ytgafjnfplgfajaa
