/-
  Is the twin of a fraction as it was? (LeftFrac)
-/
import Derived.Test.YtgafjnfplgfajaaExFd
namespace Go.Proofs.Ytgafjnfplgfajaa
open Go.RowKit

set_option maxRecDepth 100000 in
set_option maxHeartbeats 1600000 in
theorem left_frac_any (neg neg' : Bool) (A A' : Option Addr) (n c n' c' g d g' d' : Nat) (l l' : List Nat) (w : World) (ha : Sl w A n c l) (hb : Sl w A' n' c' l') (ht : Twl w g n d l) (hu : Twl w g' n' d' l') (hn : n ≤ 1000000000) (hn' : n' ≤ 1000000000) :
    Calls Try.prog 17 #[.agg #[.bool neg, .slice (some ⟨g, 0, none⟩) n d, .bool neg', .slice (some ⟨g', 0, none⟩) n' d'], .agg #[.bool neg, .slice A n c, .bool neg', .slice A' n' c']] w (RetV w (.bool true)) := by
  have K0 := ((Mm.nil w).var (g := w.heap.size) rfl [.bool neg, .slice (some ⟨g, 0, none⟩) n d, .bool neg', .slice (some ⟨g', 0, none⟩) n' d'] 38).var (g := w.heap.size + 1) (by simp) [.bool neg, .slice A n c, .bool neg', .slice A' n' c'] 38
  have ha0 := ha.below K0.1
  have hb0 := hb.below K0.1
  have ht0 := ht.below K0.1
  have hu0 := hu.below K0.1
  clear ha hb ht hu
  go_enter Try.func17, Try.ntmps17
  go_wp2_with fail
  refine (left_int_any neg A n c g d l _ ha0 ht0 hn).mono ?_
  rintro e1 w1 ⟨rfl, hb1⟩
  have K1 := K0.next hb1
  have hb2 := hb0.below hb1
  have hu2 := hu0.below hb1
  obtain ⟨⟨qa0, qb0, qc0, qd0⟩, _, _⟩ := (K1.blk (g := w.heap.size) (vs := [.bool neg, .slice (some ⟨g, 0, none⟩) n d, .bool neg', .slice (some ⟨g', 0, none⟩) n' d']) (by simp)).four
  obtain ⟨⟨qa1, qb1, qc1, qd1⟩, _, _⟩ := (K1.blk (g := w.heap.size + 1) (vs := [.bool neg, .slice A n c, .bool neg', .slice A' n' c']) (by simp)).four
  clear K0 ha0 hb0 ht0 hu0 hb1
  go_wp2_with fail
  refine (left_int_any neg' A' n' c' g' d' l' _ hb2 hu2 hn').mono ?_
  rintro e2 w2 ⟨rfl, hb3⟩
  have K2 := K1.next hb3
  go_wp2_with fail
  go_ret
  exact ⟨rfl, K2.1⟩
end Go.Proofs.Ytgafjnfplgfajaa
