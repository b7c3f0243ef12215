/-
  No number of a short fraction is too long (exact.Long, ratio.Long, ratio.Answer).
  What a float is worth as a fraction, plainly.
  What a float is worth (ratio.FromFloat): the table of the library lies in its place.
-/
import Derived.Test.YtejlicacndpfpaaDoorRaL
import Derived.Test.YtejlicacndpfpaaDoorRefW
import Derived.Test.YtejlicacndpfpaaDoorFlt
import Derived.Lib.TrailingZeros
import Derived.Test.YtejlicacndpfpaaDoorExE
import Derived.Test.YtejlicacndpfpaaDoorCom
import Derived.Shelf.Spec.TrailingZeros
namespace Go.Proofs.YtejlicacndpfpaaDoor
open Go.RowKit

set_option maxRecDepth 100000 in
theorem ex_long1_no (neg : Bool) (A : Option Addr) (n c : Nat) (w : World) (hn : n ≤ 2048) : Calls Tryd.prog 95 #[.agg #[.bool neg, .slice A n c]] w (RetV w (.bool false)) := by
  have hl : ¬ (2048 : Int) < (n : Int) := by omega
  go_enter Tryd.func95, Tryd.ntmps95
  go_wp2_with fail
  go_ret
  exact ⟨rfl, (Below.refl _ _).alloc (Nat.le_refl _) _⟩
set_option maxRecDepth 100000 in
set_option maxHeartbeats 800000 in
theorem index_no (g : Nat) (neg : Bool) (A : Option Addr) (n c : Nat) (w : World) (hg : g < w.heap.size) (c0 : w.cell? ⟨g, 0, none⟩ = some (.bool neg)) (c1 : w.cell? ⟨g, 1, none⟩ = some (.slice A n c)) (hn : n ≤ 2048) :
    Calls Tryd.prog 100 #[.slice (some ⟨g, 0, none⟩) 1 1, .func (.func 95) #[] #[]] w (RetV w (.int .i64 (-1))) := by
  go_enter Tryd.func100, Tryd.ntmps100
  go_wp2_with fail
  go_loopw [8] (fun i wr => ∃ k : Nat, k ≤ 1 ∧ i = .int .i64 (k : Int) ∧ Below w.heap.size w wr) (fun i _ => 1 - (intOf i).toNat)
  case atStart => exact ⟨0, Nat.zero_le _, rfl, Below.refl _ _⟩
  case round =>
    obtain ⟨k, hk, rfl, hb⟩ := hrel
    match k, hk with
    | 0, _ =>
      have d0 := (hb.cell (p := ⟨g, 0, none⟩) hg).trans c0
      have d1 := (hb.cell (p := ⟨g, 1, none⟩) hg).trans c1
      have hsz := hb.size
      go_wp2_with fail
      refine (ex_long1_no neg A n c _ hn).mono ?_
      rintro e1 w1 ⟨rfl, hb1⟩
      have hb2 := hb.trans (hb1.mono hsz)
      go_wp2_with fail
      refine ⟨⟨1, by decide, rfl, hb2⟩, ?_⟩
      simp [intOf]
    | 1, _ =>
      go_wp2_with fail
      go_ret
      exact ⟨rfl, hb⟩
theorem contains_no (g : Nat) (neg : Bool) (A : Option Addr) (n c : Nat) (w : World) (hg : g < w.heap.size) (c0 : w.cell? ⟨g, 0, none⟩ = some (.bool neg)) (c1 : w.cell? ⟨g, 1, none⟩ = some (.slice A n c)) (hn : n ≤ 2048) :
    Calls Tryd.prog 94 #[.slice (some ⟨g, 0, none⟩) 1 1, .func (.func 95) #[] #[]] w (RetV w (.bool false)) := by
  go_enter Tryd.func94, Tryd.ntmps94
  go_wp2_with fail
  refine (index_no g neg A n c _ hg c0 c1 hn).mono ?_
  rintro e1 w1 ⟨rfl, hb1⟩
  go_wp2_with fail
  go_ret
  exact ⟨rfl, hb1⟩
theorem ex_long_no (g : Nat) (neg : Bool) (A : Option Addr) (n c : Nat) (w : World) (hg : g < w.heap.size) (c0 : w.cell? ⟨g, 0, none⟩ = some (.bool neg)) (c1 : w.cell? ⟨g, 1, none⟩ = some (.slice A n c)) (hn : n ≤ 2048) :
    Calls Tryd.prog 85 #[.slice (some ⟨g, 0, none⟩) 1 1] w (RetV w (.bool false)) := by
  go_enter Tryd.func85, Tryd.ntmps85
  go_wp2_with fail
  refine (contains_no g neg A n c _ hg c0 c1 hn).mono ?_
  rintro e1 w1 ⟨rfl, hb1⟩
  go_wp2_with fail
  go_ret
  exact ⟨rfl, hb1⟩
set_option maxRecDepth 100000 in
set_option maxHeartbeats 1600000 in
theorem rat_long_no (g : Nat) (neg neg' : Bool) (A A' : Option Addr) (n c n' c' : Nat) (w : World) (hg : g < w.heap.size) (c0 : w.cell? ⟨g, 0, none⟩ = some (.bool neg)) (c1 : w.cell? ⟨g, 1, none⟩ = some (.slice A n c)) (c2 : w.cell? ⟨g, 2, none⟩ = some (.bool neg')) (c3 : w.cell? ⟨g, 3, none⟩ = some (.slice A' n' c')) (hn : n ≤ 2048) (hn' : n' ≤ 2048) :
    Calls Tryd.prog 74 #[.slice (some ⟨g, 0, none⟩) 1 1] w (RetV w (.bool false)) := by
  go_enter Tryd.func74, Tryd.ntmps74
  go_wp2_with fail
  go_loopw [7] (fun i wr => ∃ k : Nat, k ≤ 1 ∧ i = .int .i64 (k : Int) ∧ Below w.heap.size w wr) (fun i _ => 1 - (intOf i).toNat)
  case atStart => exact ⟨0, Nat.zero_le _, rfl, Below.refl _ _⟩
  case round =>
    obtain ⟨k, hk, rfl, hb⟩ := hrel
    match k, hk with
    | 0, _ =>
      have d0 := (hb.cell (p := ⟨g, 0, none⟩) hg).trans c0
      have d1 := (hb.cell (p := ⟨g, 1, none⟩) hg).trans c1
      have d2 := (hb.cell (p := ⟨g, 2, none⟩) hg).trans c2
      have d3 := (hb.cell (p := ⟨g, 3, none⟩) hg).trans c3
      have hsz := hb.size
      have K0 := (Mm.nil wr).var (g := wr.heap.size) rfl [.bool neg, .slice A n c, .bool neg', .slice A' n' c'] 26
      go_upto_region 4 with (fail)
      generalize wr.alloc (.cells #[.bool neg, .slice A n c, .bool neg', .slice A' n' c'] 26) = w0 at K0 ⊢
      obtain ⟨⟨qa0, qb0, qc0, qd0⟩, _, _⟩ := (K0.blk (g := wr.heap.size) (vs := [.bool neg, .slice A n c, .bool neg', .slice A' n' c']) (by simp)).four
      go_wp2_with fail
      refine (ex_long_no w0.heap.size neg A n c _ (by simp) (by simp [go_sem]) (by simp [go_sem]) hn).mono ?_
      rintro e1 w1 ⟨rfl, hb1⟩
      have K1 := K0.next (below_box hb1)
      obtain ⟨⟨qa1, qb1, qc1, qd1⟩, _, _⟩ := (K1.blk (g := wr.heap.size) (vs := [.bool neg, .slice A n c, .bool neg', .slice A' n' c']) (by simp)).four
      clear K0 hb1 qa0 qb0 qc0 qd0
      go_wp2_with fail
      refine (ex_long_no w1.heap.size neg' A' n' c' _ (by simp) (by simp [go_sem]) (by simp [go_sem]) hn').mono ?_
      rintro e2 w2 ⟨rfl, hb2⟩
      have K2 := K1.next (below_box hb2)
      have hb3 := hb.trans (K2.1.mono hsz)
      clear K1 K2 hb2
      go_wp2_with fail
      refine ⟨⟨1, by decide, rfl, hb3⟩, ?_⟩
      simp [intOf]
    | 1, _ =>
      go_wp2_with fail
      go_ret
      exact ⟨rfl, hb⟩
theorem rat_answer_no (g : Nat) (neg neg' : Bool) (A A' : Option Addr) (n c n' c' : Nat) (w : World) (hg : g < w.heap.size) (c0 : w.cell? ⟨g, 0, none⟩ = some (.bool neg)) (c1 : w.cell? ⟨g, 1, none⟩ = some (.slice A n c)) (c2 : w.cell? ⟨g, 2, none⟩ = some (.bool neg')) (c3 : w.cell? ⟨g, 3, none⟩ = some (.slice A' n' c')) (hn : n ≤ 2048) (hn' : n' ≤ 2048) :
    Calls Tryd.prog 55 #[.slice (some ⟨g, 0, none⟩) 1 1] w (RetV w (.int .i64 0)) := by
  go_enter Tryd.func55, Tryd.ntmps55
  go_wp2_with fail
  refine (rat_long_no g neg neg' A A' n c n' c' _ hg c0 c1 c2 c3 hn hn').mono ?_
  rintro e1 w1 ⟨rfl, hb1⟩
  go_wp2_with fail
  go_ret
  exact ⟨rfl, hb1⟩
end Go.Proofs.YtejlicacndpfpaaDoor

namespace Go.Proofs.YtejlicacndpfpaaDoor
open Go.RowKit

/-- What a finite float is worth. -/
def fr (v : Nat) : Rat := Rat.divInt (Flt.sv v) ((2 ^ Flt.K74 : Nat) : Int)
end Go.Proofs.YtejlicacndpfpaaDoor

namespace Go.Proofs.YtejlicacndpfpaaDoor
open Go.RowKit

/-- The table of the library lies in its place. -/
abbrev Tab (w : World) : Prop := TabAt 3 Lib.deBruijn64tab w
theorem Tab.next {w w' : World} (h : Tab w) (hb : Below w.heap.size w w') : Tab w' := fun j hj =>
  (hb.cell (World.block_lt_of_cell? w _ (h j hj))).trans (h j hj)
theorem Tab.box {w : World} (h : Tab w) (o : Obj) : Tab (w.alloc o) := h.next ((Below.refl _ _).alloc (Nat.le_refl _) o)

end Go.Proofs.YtejlicacndpfpaaDoor
