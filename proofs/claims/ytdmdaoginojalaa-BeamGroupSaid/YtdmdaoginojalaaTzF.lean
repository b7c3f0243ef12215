/-
  No number of a short fraction is too long (exact.Long, ratio.Long, ratio.Answer).
  What a float is worth as a fraction, plainly.
  What a float is worth (ratio.FromFloat): the table of the library lies in its place.
-/
import Derived.Test.YtdmdaoginojalaaRaL
import Derived.Test.YtdmdaoginojalaaFrp
import Derived.Test.YtdmdaoginojalaaFlt
import Derived.Lib.TrailingZeros
import Derived.Test.YtdmdaoginojalaaKnu
import Derived.Test.YtdmdaoginojalaaExU
import Derived.Test.YtdmdaoginojalaaRoot
import Derived.Shelf.Spec.TrailingZeros
namespace Go.Proofs.Ytdmdaoginojalaa
open Go.RowKit

set_option maxRecDepth 100000 in
theorem ex_long1_no (neg : Bool) (A : Option Addr) (n c : Nat) (w : World) (hn : n ≤ 2048) : Calls Try.prog 108 #[.agg #[.bool neg, .slice A n c]] w (RetV w (.bool false)) := by
  have hl : ¬ (2048 : Int) < (n : Int) := by omega
  go_enter Try.func108, Try.ntmps108
  go_wp2_with fail
  go_ret
  exact ⟨rfl, (Below.refl _ _).alloc (Nat.le_refl _) _⟩
set_option maxRecDepth 100000 in
set_option maxHeartbeats 800000 in
theorem index_no (g : Nat) (neg : Bool) (A : Option Addr) (n c : Nat) (w : World) (hg : g < w.heap.size) (c0 : w.cell? ⟨g, 0, none⟩ = some (.bool neg)) (c1 : w.cell? ⟨g, 1, none⟩ = some (.slice A n c)) (hn : n ≤ 2048) :
    Calls Try.prog 113 #[.slice (some ⟨g, 0, none⟩) 1 1, .func (.func 108) #[] #[]] w (RetV w (.int .i64 (-1))) := by
  go_enter Try.func113, Try.ntmps113
  go_wp2_with fail
  go_loopw [8] (fun i wr => ∃ k : Nat, k ≤ 1 ∧ i = .int .i64 (k : Int) ∧ Below w.heap.size w wr) (fun i _ => 1 - (intOf i).toNat)
  case atStart => exact ⟨0, Nat.zero_le _, rfl, Below.refl _ _⟩
  case round =>
    obtain ⟨k, hk, rfl, hb⟩ := hrel
    match k, hk with
    | 0, _ =>
      have d0 := (hb.cell (p := ⟨g, 0, none⟩) hg).trans c0
      have d1 := (hb.cell (p := ⟨g, 1, none⟩) hg).trans c1
      have hsz := hb.size
      go_wp2_with fail
      refine (ex_long1_no neg A n c _ hn).mono ?_
      rintro e1 w1 ⟨rfl, hb1⟩
      have hb2 := hb.trans (hb1.mono hsz)
      go_wp2_with fail
      refine ⟨⟨1, by decide, rfl, hb2⟩, ?_⟩
      simp [intOf]
    | 1, _ =>
      go_wp2_with fail
      go_ret
      exact ⟨rfl, hb⟩
theorem contains_no (g : Nat) (neg : Bool) (A : Option Addr) (n c : Nat) (w : World) (hg : g < w.heap.size) (c0 : w.cell? ⟨g, 0, none⟩ = some (.bool neg)) (c1 : w.cell? ⟨g, 1, none⟩ = some (.slice A n c)) (hn : n ≤ 2048) :
    Calls Try.prog 107 #[.slice (some ⟨g, 0, none⟩) 1 1, .func (.func 108) #[] #[]] w (RetV w (.bool false)) := by
  go_enter Try.func107, Try.ntmps107
  go_wp2_with fail
  refine (index_no g neg A n c _ hg c0 c1 hn).mono ?_
  rintro e1 w1 ⟨rfl, hb1⟩
  go_wp2_with fail
  go_ret
  exact ⟨rfl, hb1⟩
theorem ex_long_no (g : Nat) (neg : Bool) (A : Option Addr) (n c : Nat) (w : World) (hg : g < w.heap.size) (c0 : w.cell? ⟨g, 0, none⟩ = some (.bool neg)) (c1 : w.cell? ⟨g, 1, none⟩ = some (.slice A n c)) (hn : n ≤ 2048) :
    Calls Try.prog 100 #[.slice (some ⟨g, 0, none⟩) 1 1] w (RetV w (.bool false)) := by
  go_enter Try.func100, Try.ntmps100
  go_wp2_with fail
  refine (contains_no g neg A n c _ hg c0 c1 hn).mono ?_
  rintro e1 w1 ⟨rfl, hb1⟩
  go_wp2_with fail
  go_ret
  exact ⟨rfl, hb1⟩
set_option maxRecDepth 100000 in
set_option maxHeartbeats 1600000 in
theorem rat_long_no (g : Nat) (neg neg' : Bool) (A A' : Option Addr) (n c n' c' : Nat) (w : World) (hg : g < w.heap.size) (c0 : w.cell? ⟨g, 0, none⟩ = some (.bool neg)) (c1 : w.cell? ⟨g, 1, none⟩ = some (.slice A n c)) (c2 : w.cell? ⟨g, 2, none⟩ = some (.bool neg')) (c3 : w.cell? ⟨g, 3, none⟩ = some (.slice A' n' c')) (hn : n ≤ 2048) (hn' : n' ≤ 2048) :
    Calls Try.prog 77 #[.slice (some ⟨g, 0, none⟩) 1 1] w (RetV w (.bool false)) := by
  go_enter Try.func77, Try.ntmps77
  go_wp2_with fail
  go_loopw [7] (fun i wr => ∃ k : Nat, k ≤ 1 ∧ i = .int .i64 (k : Int) ∧ Below w.heap.size w wr) (fun i _ => 1 - (intOf i).toNat)
  case atStart => exact ⟨0, Nat.zero_le _, rfl, Below.refl _ _⟩
  case round =>
    obtain ⟨k, hk, rfl, hb⟩ := hrel
    match k, hk with
    | 0, _ =>
      have d0 := (hb.cell (p := ⟨g, 0, none⟩) hg).trans c0
      have d1 := (hb.cell (p := ⟨g, 1, none⟩) hg).trans c1
      have d2 := (hb.cell (p := ⟨g, 2, none⟩) hg).trans c2
      have d3 := (hb.cell (p := ⟨g, 3, none⟩) hg).trans c3
      have hsz := hb.size
      have K0 := (Mm.nil wr).var (g := wr.heap.size) rfl [.bool neg, .slice A n c, .bool neg', .slice A' n' c'] 26
      go_upto_region 4 with (fail)
      generalize wr.alloc (.cells #[.bool neg, .slice A n c, .bool neg', .slice A' n' c'] 26) = w0 at K0 ⊢
      obtain ⟨⟨qa0, qb0, qc0, qd0⟩, _, _⟩ := (K0.blk (g := wr.heap.size) (vs := [.bool neg, .slice A n c, .bool neg', .slice A' n' c']) (by simp)).four
      go_wp2_with fail
      refine (ex_long_no w0.heap.size neg A n c _ (by simp) (by simp [go_sem]) (by simp [go_sem]) hn).mono ?_
      rintro e1 w1 ⟨rfl, hb1⟩
      have K1 := K0.next (below_box hb1)
      obtain ⟨⟨qa1, qb1, qc1, qd1⟩, _, _⟩ := (K1.blk (g := wr.heap.size) (vs := [.bool neg, .slice A n c, .bool neg', .slice A' n' c']) (by simp)).four
      clear K0 hb1 qa0 qb0 qc0 qd0
      go_wp2_with fail
      refine (ex_long_no w1.heap.size neg' A' n' c' _ (by simp) (by simp [go_sem]) (by simp [go_sem]) hn').mono ?_
      rintro e2 w2 ⟨rfl, hb2⟩
      have K2 := K1.next (below_box hb2)
      have hb3 := hb.trans (K2.1.mono hsz)
      clear K1 K2 hb2
      go_wp2_with fail
      refine ⟨⟨1, by decide, rfl, hb3⟩, ?_⟩
      simp [intOf]
    | 1, _ =>
      go_wp2_with fail
      go_ret
      exact ⟨rfl, hb⟩
theorem rat_answer_no (g : Nat) (neg neg' : Bool) (A A' : Option Addr) (n c n' c' : Nat) (w : World) (hg : g < w.heap.size) (c0 : w.cell? ⟨g, 0, none⟩ = some (.bool neg)) (c1 : w.cell? ⟨g, 1, none⟩ = some (.slice A n c)) (c2 : w.cell? ⟨g, 2, none⟩ = some (.bool neg')) (c3 : w.cell? ⟨g, 3, none⟩ = some (.slice A' n' c')) (hn : n ≤ 2048) (hn' : n' ≤ 2048) :
    Calls Try.prog 90 #[.slice (some ⟨g, 0, none⟩) 1 1] w (RetV w (.int .i64 0)) := by
  go_enter Try.func90, Try.ntmps90
  go_wp2_with fail
  refine (rat_long_no g neg neg' A A' n c n' c' _ hg c0 c1 c2 c3 hn hn').mono ?_
  rintro e1 w1 ⟨rfl, hb1⟩
  go_wp2_with fail
  go_ret
  exact ⟨rfl, hb1⟩
end Go.Proofs.Ytdmdaoginojalaa

namespace Go.Proofs.Ytdmdaoginojalaa
open Go.RowKit

/-- What a finite float is worth. -/
def fr (v : Nat) : Rat := Rat.divInt (Flt.sv v) ((2 ^ Flt.K74 : Nat) : Int)
end Go.Proofs.Ytdmdaoginojalaa

namespace Go.Proofs.Ytdmdaoginojalaa
open Go.RowKit

set_option maxRecDepth 100000 in
set_option maxHeartbeats 800000 in
theorem rat_nou_any (w : World) : Calls Try.prog 44 #[] w (RetFr w 0) := by
  have K0 := (Mm.nil w).var (g := w.heap.size) rfl [.bool false, .slice none 0 0, .bool false, .slice none 0 0] 26
  go_enter Try.func44, Try.ntmps44
  go_wp2_with fail
  refine (ex_of_any 1 _ (by decide)).mono ?_
  rintro e1 w1 ⟨neg1, A1, n1, c1, rfl, I1, hb1⟩
  have K1 := (K0.next hb1).int I1
  obtain ⟨⟨qa1r, qb1r, qc1r, qd1r⟩, ⟨qe1r, qf1r, qg1r, qh1r⟩, qi1r⟩ := (K1.blk (g := w.heap.size) (vs := [.bool false, .slice none 0 0, .bool false, .slice none 0 0]) (by simp)).four
  clear I1 hb1
  go_wp2_with fail
  have KE := K1.set4 (by simp) false none 0 0 neg1 A1 n1 c1
  exact bodyPost_ret (v := .agg #[.bool false, .slice none 0 0, .bool neg1, .slice A1 n1 c1]) (by simp [results, Try.results44, go_sem, qa1r, qb1r, qc1r, qd1r]) rfl ⟨false, none, 0, 0, neg1, A1, n1, c1, rfl, isInt_nought, KE.at_ (by simp), KE.1⟩

end Go.Proofs.Ytdmdaoginojalaa
