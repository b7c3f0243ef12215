/-
  A book's lists of one kind (Limb): one more is kept.
  A book with lists of one kind (Limb): new, with one list more, apart.
  Whether sizes, taken together, are too many to be copied (polestarlaw01.Beyond).
  Fractions, plainly: the greatest common divisor by halving, lowest terms, what is held against one another.
  The floats straight below and above a number (edge).
  The references floats (polestarref04): Add, Mul, Quo.
  The references' roots: of whole numbers (polestarref01), of floats (polestarref04).
-/
import Derived.Test.YtgekmbfmfiikkaaGreatDoorRefW
import Derived.Deep.RegionLaw
import Derived.Test.YtgekmbfmfiikkaaGreatDoorBaLimb
import Derived.Test.YtgekmbfmfiikkaaGreatDoorZero
import Ieee.Arith
import Derived.Test.YtgekmbfmfiikkaaGreatDoorShelf
import Derived.Laws.MathBits
import Derived.Test.YtgekmbfmfiikkaaGreatDoorRefV
import Derived.Deep.LoopGhost
namespace Go.Proofs.YtgekmbfmfiikkaaGreatDoor
open Go.RowKit

theorem infoHeldLimb : (Tryz.prog.info? 163).map (fun i => (i.zero, i.size, i.bytes)) = some (some (.agg #[.slice none 0 0, .slice none 0 0, .int .i64 0]), 3, 56) := by kernel_rfl
set_option maxRecDepth 100000 in
set_option maxHeartbeats 3200000 in
theorem keepLimb_any (B base : Nat) (A V : Option Addr) (n c vn vc m : Nat) (xs : List Value) (L : List Hl) (w : World) (hn : w.cell? ⟨B, 0, none⟩ = some (.int .i64 (m : Int))) (hV : w.cell? ⟨B, 1, none⟩ = some (.slice V vn vc)) (h0 : w.frozen? ⟨B, 0, none⟩ = false) (h1 : w.frozen? ⟨B, 1, none⟩ = false) (hB : B < w.heap.size)
    (hvn : vn = L.length) (hown : w.ownsRow base 163 3 (.slice V vn vc) vn (flat L)) (hVB : Value.ownBlock (.slice V vn vc) ≠ some B) (hm : m ≤ 1000000000) (hL : L.length ≤ 1000000000) (hbase : base ≤ w.heap.size) :
    Calls Tryz.prog 232 #[.pointer (some ⟨B, 0, none⟩), .slice A n c] w fun e w' => e = .returned (.tuple #[]) ∧ ∃ g c', w'.cell? ⟨B, 0, none⟩ = some (.int .i64 ((m + 1 : Nat) : Int)) ∧ w'.cell? ⟨B, 1, none⟩ = some (.slice (some ⟨g, 0, none⟩) (vn + 1) c') ∧
      w'.ownsRow base 163 3 (.slice (some ⟨g, 0, none⟩) (vn + 1) c') (vn + 1) (flat (L ++ [⟨A, n, c, xs, none, 0, 0, m + 1⟩])) ∧ g ≠ B ∧ (∀ j, j ≠ 0 → j ≠ 1 → w'.cell? ⟨B, j, none⟩ = w.cell? ⟨B, j, none⟩) ∧ (∀ j, w'.frozen? ⟨B, j, none⟩ = w.frozen? ⟨B, j, none⟩) ∧ Fr (fun b => b = B ∨ Value.ownBlock (.slice V vn vc) = some b) w w' := by
  obtain ⟨i0, hi, hz0, hz1, hz2⟩ := info_parts infoHeldLimb
  have HVN := Lib.hid hvn
  have hvl : vn ≤ 1000000000 := by omega
  clear hvn hL
  have hw64 : wrap64 ((m : Int) + 1) = (m : Int) + 1 := by unfold wrap64; omega
  go_enter Tryz.func232, Tryz.ntmps232
  go_upto_region 1 with (fail)
  have F1 : Fr (fun b => b = B ∨ Value.ownBlock (.slice V vn vc) = some b) w (w.setCell ⟨B, 0, none⟩ (.int .i64 ((m : Int) + 1))) := Fr.set _ _ (.inl rfl) _ _
  have own1 : (w.setCell ⟨B, 0, none⟩ (.int .i64 ((m : Int) + 1))).ownsRow base 163 3 (.slice V vn vc) vn (flat L) := Fr.row hown (Fr.set (fun b => b = B) w rfl 0 (.int .i64 ((m : Int) + 1))) (fun g hg e => hVB (by rw [← e]; exact hg))
  have n1 : (w.setCell ⟨B, 0, none⟩ (.int .i64 ((m : Int) + 1))).cell? ⟨B, 0, none⟩ = some (.int .i64 ((m : Int) + 1)) := by simp [go_sem, hn]
  have oth : ∀ j, j ≠ 0 → (w.setCell ⟨B, 0, none⟩ (.int .i64 ((m : Int) + 1))).cell? ⟨B, j, none⟩ = w.cell? ⟨B, j, none⟩ := fun j hj => World.cell?_setCell_other w ⟨B, 0, none⟩ ⟨B, j, none⟩ _ (by intro q; injection q with _ q; omega)
  have v1 := (oth 1 (by decide)).trans hV
  have z0 : ∀ j, (w.setCell ⟨B, 0, none⟩ (.int .i64 ((m : Int) + 1))).frozen? ⟨B, j, none⟩ = w.frozen? ⟨B, j, none⟩ := fun j => by simp [go_sem]
  have z1 := (z0 1).trans h1
  have hB1 : B < (w.setCell ⟨B, 0, none⟩ (.int .i64 ((m : Int) + 1))).heap.size := by simpa [World.setCell] using hB
  have hb1 : base ≤ (w.setCell ⟨B, 0, none⟩ (.int .i64 ((m : Int) + 1))).heap.size := by simpa [World.setCell] using hbase
  generalize w.setCell ⟨B, 0, none⟩ (.int .i64 ((m : Int) + 1)) = w1 at F1 own1 n1 oth v1 z0 z1 hB1 hb1 ⊢
  have own2 := own1.drew.alloc (.cells #[.slice A n c, .slice none 0 0, .int .i64 ((m : Int) + 1)] 163)
  have v2 : (w1.drew.alloc (.cells #[.slice A n c, .slice none 0 0, .int .i64 ((m : Int) + 1)] 163)).cell? ⟨B, 1, none⟩ = some (.slice V vn vc) := (World.cell?_alloc_lt _ _ _ hB1).trans v1
  have n2 : (w1.drew.alloc (.cells #[.slice A n c, .slice none 0 0, .int .i64 ((m : Int) + 1)] 163)).cell? ⟨B, 0, none⟩ = some (.int .i64 ((m : Int) + 1)) := (World.cell?_alloc_lt _ _ _ hB1).trans n1
  have z2 : (w1.drew.alloc (.cells #[.slice A n c, .slice none 0 0, .int .i64 ((m : Int) + 1)] 163)).frozen? ⟨B, 1, none⟩ = false := (((Fr.refl (fun _ => False) w1.drew).alloc _).frozen (g := B) (j := 1) hB1 id).trans z1
  have hB2 : B < (w1.drew.alloc (.cells #[.slice A n c, .slice none 0 0, .int .i64 ((m : Int) + 1)] 163)).heap.size := by simp; omega
  go_region_law (refine step_append_either _ rfl _ _ 42 rfl base 163 i0 (.agg #[.slice none 0 0, .slice none 0 0, .int .i64 0]) 3 56 Tryz.underlying42 hi hz0 hz1 hz2 rfl (by decide) (.slice V vn vc) vn (flat L) rfl own2 ⟨w1.heap.size, 0, none⟩ 1 1 [.slice A n c, .slice none 0 0, .int .i64 ((m : Int) + 1)] rfl rfl (World.news_of_block (heap_alloc_new w1.drew _)) (by simp [Value.oneCell']) (by decide) (by simp [maxLen]; omega) (by omega) (by simp; omega) ?_; intro g' cap' w2 hown2 hor; have HG := Lib.hid (fr_grow (Fr.refl (fun b => Value.ownBlock (.slice V vn vc) = some b) (w1.drew.alloc (.cells #[.slice A n c, .slice none 0 0, .int .i64 ((m : Int) + 1)] 163))) (fun g hg => .inl hg) hor); have c2 := (HG.out.1.cell (g := B) (j := 1) hB2 hVB).trans v2; have d2 := (HG.out.1.frozen (g := B) (j := 1) hB2 hVB).trans z2; clear hor)
  all_goals
   go_wp2_with fail
   have hgB : g' ≠ B := fun e => HG.out.2.elim (fun q => hVB (by rw [← e]; exact q)) (fun q => by omega)
   have hc : ∀ j, j ≠ 1 → (w2.setCell ⟨B, 1, none⟩ (.slice (some ⟨g', 0, none⟩) (vn + 1) cap')).cell? ⟨B, j, none⟩ = w1.cell? ⟨B, j, none⟩ := fun j hj =>
     ((World.cell?_setCell_other w2 ⟨B, 1, none⟩ ⟨B, j, none⟩ _ (by intro q; injection q with _ q; omega)).trans (HG.out.1.cell (g := B) (j := j) hB2 hVB)).trans (World.cell?_alloc_lt _ _ _ hB1)
   have hfz : ∀ j, (w2.setCell ⟨B, 1, none⟩ (.slice (some ⟨g', 0, none⟩) (vn + 1) cap')).frozen? ⟨B, j, none⟩ = w1.frozen? ⟨B, j, none⟩ := fun j =>
     ((by simp [go_sem] : (w2.setCell ⟨B, 1, none⟩ (.slice (some ⟨g', 0, none⟩) (vn + 1) cap')).frozen? ⟨B, j, none⟩ = w2.frozen? ⟨B, j, none⟩).trans (HG.out.1.frozen (g := B) (j := j) hB2 hVB)).trans (((Fr.refl (fun _ => False) w1.drew).alloc _).frozen (g := B) (j := j) hB1 id)
   have hrow : (w2.setCell ⟨B, 1, none⟩ (.slice (some ⟨g', 0, none⟩) (vn + 1) cap')).ownsRow base 163 3 (.slice (some ⟨g', 0, none⟩) (vn + 1) cap') (vn + 1) (flat (L ++ [⟨A, n, c, xs, none, 0, 0, m + 1⟩])) := by
     rw [flat_app]
     exact Fr.row hown2 (Fr.set (fun b => b = B) w2 rfl 1 _) (fun g hg e => hgB (by injection hg with hg; have : g' = g := hg; omega))
   have hF : Fr (fun b => b = B ∨ Value.ownBlock (.slice V vn vc) = some b) w (w2.setCell ⟨B, 1, none⟩ (.slice (some ⟨g', 0, none⟩) (vn + 1) cap')) := (((F1.drew.alloc _).trans (HG.out.1.mono fun _ h => .inr h))).trans (Fr.set (fun b => b = B ∨ Value.ownBlock (.slice V vn vc) = some b) w2 (.inl rfl) 1 _)
   exact bodyPost_end (v := .tuple #[]) (by simp [results, Tryz.results232]) rfl ⟨rfl, g', cap', (hc 0 (by decide)).trans n1, by simp [go_sem, c2], hrow, hgB, fun j h0 h1 => (hc j h1).trans (oth j h0), fun j => (hfz j).trans (z0 j), hF⟩
end Go.Proofs.YtgekmbfmfiikkaaGreatDoor

namespace Go.Proofs.YtgekmbfmfiikkaaGreatDoor
open Go.RowKit

theorem typesLimb : (164 == 163) = false := by decide
/-- Two rows of unlike elements lie in unlike blocks. -/
theorem rows_farLimb {w : World} {b b' sz sz' n n' g : Nat} {v v' : Value} {xs ys : List Value} (h : w.ownsRow b 164 sz v n xs) (k : w.ownsRow b' 163 sz' v' n' ys) (h1 : v.ownBlock = some g) (h2 : v'.ownBlock = some g) : False := by
 rcases h.2 with ⟨rfl, _⟩ | ⟨g1, c1, cur1, rfl, _, hg1, _⟩
 ·cases h1
 ·rcases k.2 with ⟨rfl, _⟩ | ⟨g2, c2, cur2, rfl, _, hg2, _⟩
  ·cases h2
  ·injection h1 with h1
   injection h2 with h2
   have e1 : g1 = g := h1
   have e2 : g2 = g := h2
   rw [e1] at hg1
   rw [e2, hg1] at hg2
   injection hg2 with hg2
   injection hg2 with _ ht _
   have := typesLimb
   rw [beq_eq_false_iff_ne] at this
   exact this ht
/-- A book with these lists. -/
def BkStLimb (base : Nat) (w : World) (B : Nat) (L : List Hl) : Prop :=
 ∃ (V : Option Addr) (vn vc : Nat), B < w.heap.size ∧ w.cell? ⟨B, 0, none⟩ = some (.int .i64 (L.length : Int)) ∧ w.cell? ⟨B, 1, none⟩ = some (.slice V vn vc) ∧ vn = L.length ∧ w.ownsRow base 163 3 (.slice V vn vc) vn (flat L) ∧ Value.ownBlock (.slice V vn vc) ≠ some B ∧ (∀ j, w.frozen? ⟨B, j, none⟩ = false) ∧ NilLimb B w
theorem bkst_newLimb (base : Nat) (w : World) : BkStLimb base (w.alloc (.cells #[.int .i64 0, .slice none 0 0, .slice none 0 0, .slice none 0 0, .slice none 0 0, .slice none 0 0, .slice none 0 0, .slice none 0 0, .slice none 0 0, .slice none 0 0, .slice none 0 0, .slice none 0 0, .slice none 0 0, .slice none 0 0, .slice none 0 0, .slice none 0 0, .slice none 0 0] 59)) w.heap.size [] := by
 have hB := Blk.new w rfl [.int .i64 0, .slice none 0 0, .slice none 0 0, .slice none 0 0, .slice none 0 0, .slice none 0 0, .slice none 0 0, .slice none 0 0, .slice none 0 0, .slice none 0 0, .slice none 0 0, .slice none 0 0, .slice none 0 0, .slice none 0 0, .slice none 0 0, .slice none 0 0, .slice none 0 0] 59
 refine ⟨none, 0, 0, hB.1, (hB.2 0 _ rfl).1, (hB.2 1 _ rfl).1, rfl, World.ownsRow_nil _ _ _ _, (fun e => by cases e), fun j => ?_, fun j hj _ => ?_⟩
 ·unfold World.frozen?
  rw [heap_alloc_new w _]
  simp
 ·have h2 := of_decide_eq_true ((Bool.and_eq_true _ _).mp hj).1
  have h3 := of_decide_eq_true ((Bool.and_eq_true _ _).mp hj).2
  refine (hB.2 j _ ?_).1
  have : j = 1 ∨ j = 2 ∨ j = 3 ∨ j = 4 ∨ j = 5 ∨ j = 6 ∨ j = 7 ∨ j = 8 ∨ j = 9 ∨ j = 10 ∨ j = 11 ∨ j = 12 ∨ j = 13 ∨ j = 14 ∨ j = 15 ∨ j = 16 := by omega
  rcases this with rfl | rfl | rfl | rfl | rfl | rfl | rfl | rfl | rfl | rfl | rfl | rfl | rfl | rfl | rfl | rfl <;> rfl
theorem apartLimb_st (B base : Nat) (L : List Hl) (w : World) (h : BkStLimb base w B L) (h0 : 0 < L.length) (hO : Owd base 164 1 w L) (hD : Dis L) (hk : ∀ (i : Nat) (h : Hl), L[i]? = some h → (h.k ≤ 1000000000 ∧ h.n ≤ 1000000000) ∧ h.v.ownBlock ≠ some B) (hm : L.length ≤ 1000000000) (hbase : base ≤ w.heap.size) :
  Calls Tryz.prog 22 #[.pointer (some ⟨B, 0, none⟩)] w fun e w' => e = .returned (.bool true) ∧ Below base w w' := by
 obtain ⟨V, vn, vc, hBl, hn, hV, hvn, hown, hVB, hfz, hNil⟩ := h
 subst hvn
 obtain ⟨g, cap, hv, _, _⟩ := hown.form h0
 injection hv with hv1 hv2 hv3
 subst hv1
 exact apartLimb_any B g vc base L w hV hBl hNil hown hO hD (fun ⟨i, h, hi, hb⟩ => (hk i h hi).2 hb) (fun ⟨i, h, hi, hb⟩ => rows_farLimb (hO i h hi) hown hb rfl) (fun e => hVB (by rw [e]; rfl)) (fun i h hi => (hk i h hi).1) hm hbase
end Go.Proofs.YtgekmbfmfiikkaaGreatDoor

namespace Go.Proofs.YtgekmbfmfiikkaaGreatDoor
open Go.RowKit

def nats (l : List Nat) : List Value := l.map fun (x : Nat) => Value.int .i64 (x : Int)
theorem nats_get {l : List Nat} {k : Nat} {u : Value} (h : (nats l)[k]? = some u) : ∃ hk : k < l.length, u = .int .i64 (l[k] : Nat) := by
 unfold nats at h
 rw [List.getElem?_map] at h
 rcases Nat.lt_or_ge k l.length with hk | hk
 ·rw [List.getElem?_eq_getElem hk] at h
  exact ⟨hk, by simpa using h.symm⟩
 ·rw [List.getElem?_eq_none hk] at h; cases h
theorem sum_take_succ (l : List Nat) (k : Nat) (h : k < l.length) : (l.take (k + 1)).sum = (l.take k).sum + l[k] := by
 rw [List.take_succ_eq_append_getElem h, List.sum_append]
 simp
theorem sum_take_le (l : List Nat) (k : Nat) : (l.take k).sum ≤ l.sum := by
 have h : l.sum = (l.take k).sum + (l.drop k).sum := by rw [← List.sum_append, List.take_append_drop]
 omega
set_option maxRecDepth 100000 in
set_option maxHeartbeats 1600000 in
theorem beyond_any (A : Option Addr) (n c : Nat) (l : List Nat) (w : World) (h : Reads w w.heap.size A n (nats l)) (hn : n ≤ 1000000) (hl : l.sum ≤ 9223372036854775807) :
  Calls Tryz.prog 8 #[.slice A n c] w fun e w' => e = .returned (.bool (decide (1048576 < l.sum))) ∧ w = w' := by
 have hlen : l.length = n := by have := h.1; unfold nats at this; simpa using this
 have HS := Lib.hid (sum_take_le l)
 have HL := Lib.hid hl
 have HLEN := Lib.hid hlen
 clear hl hlen
 go_enter Tryz.func8, Tryz.ntmps8
 go_wp2_with fail
 go_loopw [3, 4] (fun s i wr => ∃ k : Nat, k ≤ n ∧ s = .int .i64 (((l.take k).sum : Nat) : Int) ∧ (l.take k).sum ≤ 1048576 ∧ i = .int .i64 (k : Int) ∧ wr = w) (fun _ i _ => n - (intOf i).toNat)
 case atStart => exact ⟨0, Nat.zero_le _, rfl, by simp, rfl, rfl⟩
 case round =>
  obtain ⟨k, hk, rfl, hs, rfl, rfl⟩ := hrel
  by_cases hlt : k < n
  ·obtain ⟨ad, v, rfl, hb, hv, hc⟩ := h.at_ hlt
   obtain ⟨hkl, rfl⟩ := nats_get hv
   have hx : (l.take (k + 1)).sum ≤ 9223372036854775807 := Nat.le_trans (sum_take_le l _) HL.out
   have hsum := sum_take_succ l k hkl
   have hle := HS.out (k + 1)
   obtain ⟨x, hxx⟩ : ∃ x, l[k] = x := ⟨_, rfl⟩
   obtain ⟨s, hss⟩ : ∃ s, (l.take k).sum = s := ⟨_, rfl⟩
   rw [hsum, hxx, hss] at hx
   rw [hxx] at hc hsum
   rw [hss] at hs hsum
   rw [hss]
   have HSUM := Lib.hid hsum
   have hlt' : (k : Int) < (n : Int) := by omega
   have hk0 : (0 : Int) ≤ (k : Int) := Int.natCast_nonneg _
   have HLE := Lib.hid hle
   clear hv hsum hss hxx hle
   by_cases hbig : 1048576 < s + x
   ·have hbig' : (1048576 : Int) < (s : Int) + (x : Int) := by omega
    have E : Hid (decide (1048576 < l.sum) = true) := Lib.hid (decide_eq_true (by have := HLE.out; have := HSUM.out; omega))
    go_wp2_with fail
    go_ret
    exact ⟨by rw [E.out]; rfl, rfl⟩
   ·have hbig' : ¬ (1048576 : Int) < (s : Int) + (x : Int) := by omega
    go_wp2_with fail
    go_roundw
    case rel => exact ⟨k + 1, hlt, by rw [HSUM.out]; go_num, by rw [HSUM.out]; omega, by go_num, trivial⟩
    case measure => simp [intOf]; omega
  ·obtain rfl : k = n := by omega
   have E : Hid (decide (1048576 < l.sum) = false) := Lib.hid (decide_eq_false (by rw [List.take_of_length_le (by rw [HLEN.out]; exact Nat.le_refl _)] at hs; omega))
   go_wp2_with fail
   go_ret
   exact ⟨by rw [E.out]; rfl, rfl⟩
theorem nats_new (w : World) (t : TypeId) (l : List Nat) : Reads (w.alloc (.cells (nats l).toArray t)) (w.alloc (.cells (nats l).toArray t)).heap.size (some ⟨w.heap.size, 0, none⟩) l.length (nats l) := by
 have h := reads_new w t (nats l)
 have e : (nats l).length = l.length := by unfold nats; simp
 rw [e] at h
 exact h
end Go.Proofs.YtgekmbfmfiikkaaGreatDoor

namespace Go.Proofs.YtgekmbfmfiikkaaGreatDoor
open Go.RowKit

theorem gcd_half_left {a b : Nat} (ha : a % 2 = 0) (hb : b % 2 = 1) : Nat.gcd (a / 2) b = Nat.gcd a b := by
 obtain ⟨c, rfl⟩ : ∃ c, a = 2 * c := ⟨a / 2, by omega⟩
 have h2 : Nat.Coprime 2 b := by
  rw [Nat.coprime_iff_gcd_eq_one, Nat.gcd_rec, hb]
  exact Nat.gcd_one_left 2
 rw [show 2 * c / 2 = c by omega, Nat.Coprime.gcd_mul_left_cancel c h2]
theorem gcd_half_right {a b : Nat} (ha : a % 2 = 1) (hb : b % 2 = 0) : Nat.gcd a (b / 2) = Nat.gcd a b := by
 rw [Nat.gcd_comm, gcd_half_left hb ha, Nat.gcd_comm]
theorem gcd_half_both {a b : Nat} (ha : a % 2 = 0) (hb : b % 2 = 0) : 2 * Nat.gcd (a / 2) (b / 2) = Nat.gcd a b := by
 obtain ⟨c, rfl⟩ : ∃ c, a = 2 * c := ⟨a / 2, by omega⟩
 obtain ⟨d, rfl⟩ : ∃ d, b = 2 * d := ⟨b / 2, by omega⟩
 rw [show 2 * c / 2 = c by omega, show 2 * d / 2 = d by omega, Nat.gcd_mul_left]
theorem gcd_less {a b : Nat} (h : b ≤ a) : Nat.gcd (a - b) b = Nat.gcd a b := by
 obtain ⟨c, rfl⟩ : ∃ c, a = c + b := ⟨a - b, by omega⟩
 rw [show c + b - b = c by omega, Nat.gcd_add_self_left]

/-! ### lowest terms -/
/-- Turned, if the denominator is below nought. -/
def tn (q : Int) (z : Int) : Int := if q < 0 then -z else z
theorem low_num {p q : Int} (hq : q ≠ 0) {g : Nat} (hg : g = Nat.gcd p.natAbs q.natAbs) : tn q (p.tdiv (g : Int)) = (Rat.divInt p q).num := by
 have hg0 : 0 < g := by rw [hg]; exact Nat.gcd_pos_of_pos_right _ (by omega)
 have e : (Int.gcd q p) = g := by rw [hg, Int.gcd_comm]; rfl
 have hd : (g : Int) ∣ p := by rw [hg]; exact Int.ofNat_dvd_left.2 (Nat.gcd_dvd_left _ _)
 rw [Rat.num_divInt, e]
 obtain ⟨k, hk⟩ := hd
 rw [hk, Int.mul_tdiv_cancel_left _ (by omega)]
 unfold tn
 by_cases h : q < 0
 ·rw [if_pos h, Int.sign_eq_neg_one_of_neg h]
  rw [show -1 * ((g : Int) * k) = (g : Int) * (-k) by rw [Int.mul_neg]; omega, Int.mul_ediv_cancel_left _ (by omega)]
 ·rw [if_neg h, Int.sign_eq_one_of_pos (by omega), Int.one_mul, Int.mul_ediv_cancel_left _ (by omega)]
theorem low_den {p q : Int} (hq : q ≠ 0) {g : Nat} (hg : g = Nat.gcd p.natAbs q.natAbs) : tn q (q.tdiv (g : Int)) = ((Rat.divInt p q).den : Int) := by
 have hg0 : 0 < g := by rw [hg]; exact Nat.gcd_pos_of_pos_right _ (by omega)
 have e : (Int.gcd q p) = g := by rw [hg, Int.gcd_comm]; rfl
 have hd : (g : Int) ∣ q := by rw [hg]; exact Int.ofNat_dvd_left.2 (Nat.gcd_dvd_right _ _)
 rw [Rat.den_divInt, e, if_neg hq]
 obtain ⟨k, hk⟩ := hd
 rw [hk, Int.mul_tdiv_cancel_left _ (by omega), Int.natAbs_mul, Int.natAbs_natCast, Nat.mul_div_cancel_left _ hg0]
 have hk' : 0 < (g : Int) := by omega
 unfold tn
 by_cases h : (g : Int) * k < 0
 ·rw [if_pos h]
  have : k < 0 := by
   rcases Int.lt_or_le k 0 with hn | hn
   ·exact hn
   ·exact absurd (Int.mul_nonneg (Int.le_of_lt hk') hn) (by omega)
  omega
 ·rw [if_neg h]
  have : 0 ≤ k := by
   rcases Int.lt_or_le k 0 with hn | hn
   ·exact absurd (Int.mul_neg_of_pos_of_neg hk' hn) h
   ·exact hn
  omega
theorem tdiv_small (z : Int) (g : Nat) : (z.tdiv (g : Int)).natAbs ≤ z.natAbs := by
 rw [Int.natAbs_tdiv]
 exact Nat.div_le_self _ _
theorem tn_abs (q z : Int) : (tn q z).natAbs = z.natAbs := by unfold tn; split <;> omega
theorem low_small {p q : Int} (hq : q ≠ 0) : (Rat.divInt p q).num.natAbs ≤ p.natAbs ∧ (Rat.divInt p q).den ≤ q.natAbs := by
 have h1 := low_num (p := p) hq rfl
 have h2 := low_den (p := p) hq rfl
 have a1 := tdiv_small p (Nat.gcd p.natAbs q.natAbs)
 have a2 := tdiv_small q (Nat.gcd p.natAbs q.natAbs)
 rw [← tn_abs q, h1] at a1
 rw [← tn_abs q, h2] at a2
 exact ⟨a1, by omega⟩

/-! ### how long numbers are -/
/-- Both numbers of a fraction have m limbs at most. -/
def Sz (x : Rat) (m : Nat) : Prop := x.num.natAbs < 2 ^ (32 * m) ∧ x.den < 2 ^ (32 * m)
theorem mul_lt_pow {a b m n : Nat} (ha : a < 2 ^ (32 * m)) (hb : b < 2 ^ (32 * n)) : a * b < 2 ^ (32 * (m + n)) := by
 rw [show 32 * (m + n) = 32 * m + 32 * n by omega, Nat.pow_add]
 rcases Nat.eq_zero_or_pos b with h | h
 ·subst h
  rw [Nat.mul_zero]
  exact Nat.mul_pos (Nat.two_pow_pos _) (Nat.two_pow_pos _)
 ·exact Nat.lt_of_lt_of_le (Nat.mul_lt_mul_of_pos_right ha h) (Nat.mul_le_mul_left _ (Nat.le_of_lt hb))
theorem add_lt_pow {a b k : Nat} (ha : a < 2 ^ (32 * k)) (hb : b < 2 ^ (32 * k)) : a + b < 2 ^ (32 * (k + 1)) := by
 rw [show 32 * (k + 1) = 32 * k + 32 by omega, Nat.pow_add]
 have := Nat.two_pow_pos (32 * k)
 omega
theorem Sz.mono {x : Rat} {m n : Nat} (h : Sz x m) (hmn : m ≤ n) : Sz x n :=
 ⟨Nat.lt_of_lt_of_le h.1 (Nat.pow_le_pow_right (by decide) (by omega)), Nat.lt_of_lt_of_le h.2 (Nat.pow_le_pow_right (by decide) (by omega))⟩
theorem Sz.divInt {p q : Int} {m : Nat} (hq : q ≠ 0) (hp : p.natAbs < 2 ^ (32 * m)) (hb : q.natAbs < 2 ^ (32 * m)) : Sz (Rat.divInt p q) m := by
 obtain ⟨h1, h2⟩ := low_small (p := p) hq
 exact ⟨by omega, by omega⟩
theorem den_ne (x : Rat) : (x.den : Int) ≠ 0 := by have := x.den_nz; omega
theorem add_frac (x y : Rat) : Rat.divInt (x.num * (y.den : Int) + y.num * (x.den : Int)) ((x.den : Int) * (y.den : Int)) = x + y := by
 rw [← Rat.divInt_add_divInt _ _ (den_ne x) (den_ne y), Rat.num_divInt_den, Rat.num_divInt_den]
theorem mul_frac (x y : Rat) : Rat.divInt (x.num * y.num) ((x.den : Int) * (y.den : Int)) = x * y := by
 rw [← Rat.divInt_mul_divInt, Rat.num_divInt_den, Rat.num_divInt_den]
theorem div_frac (x y : Rat) (hy : y ≠ 0) : Rat.divInt (x.num * (y.den : Int)) ((x.den : Int) * y.num) = x / y := by
 have hn : y.num ≠ 0 := fun h => hy (Rat.num_eq_zero.1 h)
 rw [← Rat.divInt_mul_divInt, Rat.num_divInt_den, Rat.div_def, Rat.inv_def]
theorem den_mul_ne (x y : Rat) : (x.den : Int) * (y.den : Int) ≠ 0 := Int.mul_ne_zero (den_ne x) (den_ne y)
theorem Sz.mul {x y : Rat} {m n : Nat} (hx : Sz x m) (hy : Sz y n) : Sz (x * y) (m + n) := by
 rw [← mul_frac]
 refine Sz.divInt (den_mul_ne x y) ?_ ?_
 ·rw [Int.natAbs_mul]; exact mul_lt_pow hx.1 hy.1
 ·rw [Int.natAbs_mul, Int.natAbs_natCast, Int.natAbs_natCast]; exact mul_lt_pow hx.2 hy.2
theorem Sz.add {x y : Rat} {m n : Nat} (hx : Sz x m) (hy : Sz y n) : Sz (x + y) (m + n + 1) := by
 rw [← add_frac]
 refine Sz.divInt (den_mul_ne x y) ?_ ?_
 ·have h1 := mul_lt_pow hx.1 hy.2
  have h2 := mul_lt_pow hy.1 hx.2
  rw [Nat.add_comm n m] at h2
  have h3 := add_lt_pow h1 h2
  have h4 := Int.natAbs_add_le (x.num * (y.den : Int)) (y.num * (x.den : Int))
  rw [Int.natAbs_mul, Int.natAbs_mul, Int.natAbs_natCast, Int.natAbs_natCast] at h4
  omega
 ·rw [Int.natAbs_mul, Int.natAbs_natCast, Int.natAbs_natCast]
  exact Nat.lt_of_lt_of_le (mul_lt_pow hx.2 hy.2) (Nat.pow_le_pow_right (by decide) (by omega))
theorem num_neg (x : Rat) : (-x).num = -x.num := rfl
theorem Sz.neg {x : Rat} {m : Nat} (hx : Sz x m) : Sz (-x) m := by
 refine ⟨?_, hx.2⟩
 rw [num_neg, Int.natAbs_neg]
 exact hx.1
theorem Sz.sub {x y : Rat} {m n : Nat} (hx : Sz x m) (hy : Sz y n) : Sz (x - y) (m + n + 1) := by
 rw [Rat.sub_eq_add_neg]
 exact hx.add hy.neg
theorem Sz.div {x y : Rat} {m n : Nat} (hx : Sz x m) (hy : Sz y n) (h0 : y ≠ 0) : Sz (x / y) (m + n) := by
 have hn : y.num ≠ 0 := fun h => h0 (Rat.num_eq_zero.1 h)
 rw [← div_frac x y h0]
 refine Sz.divInt (Int.mul_ne_zero (den_ne x) hn) ?_ ?_
 ·rw [Int.natAbs_mul, Int.natAbs_natCast]; exact mul_lt_pow hx.1 hy.2
 ·rw [Int.natAbs_mul, Int.natAbs_natCast]; exact mul_lt_pow hx.2 hy.1

/-! ### held against one another -/
def rcmp (x y : Rat) : Int := if x < y then -1 else if y < x then 1 else 0
theorem rcmp_sign (x y : Rat) : (x.num * (y.den : Int) - y.num * (x.den : Int)).sign = rcmp x y := by
 unfold rcmp
 by_cases h : x < y
 ·rw [if_pos h]
  have := (Rat.lt_iff _ _).1 h
  exact Int.sign_eq_neg_one_of_neg (by omega)
 ·rw [if_neg h]
  by_cases k : y < x
  ·rw [if_pos k]
   have := (Rat.lt_iff _ _).1 k
   exact Int.sign_eq_one_of_pos (by omega)
  ·rw [if_neg k]
   have h1 : ¬ x.num * (y.den : Int) < y.num * (x.den : Int) := fun e => h ((Rat.lt_iff _ _).2 e)
   have h2 : ¬ y.num * (x.den : Int) < x.num * (y.den : Int) := fun e => k ((Rat.lt_iff _ _).2 e)
   rw [show x.num * (y.den : Int) - y.num * (x.den : Int) = 0 by omega]
   rfl
end Go.Proofs.YtgekmbfmfiikkaaGreatDoor

/-! The program's floats straight below and above a number (edge): under. -/
namespace Go.Proofs.YtgekmbfmfiikkaaGreatDoor
open Go.RowKit

theorem bitLen_spec {x : Nat} (h : x ≠ 0) : 1 ≤ bitLen x ∧ 2 ^ (bitLen x - 1) ≤ x ∧ x < 2 ^ bitLen x := by
 unfold bitLen
 rw [if_neg h]
 exact ⟨by omega, Nat.log2_self_le h, Nat.lt_log2_self⟩
theorem bitLen_step {x : Nat} (h : x ≠ 0) : bitLen x = 1 + bitLen (x / 2) := by
 by_cases h1 : x / 2 = 0
 ·have : x = 1 := by omega
  subst this; rfl
 ·have := bitLen_shift x 1 (by simpa using h1)
  rw [Nat.pow_one] at this
  omega
theorem lib_bitLenAux : ∀ (f x : Nat), x < 2 ^ f → Lib.bitLenAux f x = bitLen x
 | 0, x, h => by
  have : x = 0 := by simpa using h
  subst this; rfl
 | f + 1, x, h => by
  unfold Lib.bitLenAux
  by_cases h0 : x = 0
  ·subst h0; rfl
  ·rw [if_neg h0, lib_bitLenAux f (x / 2) (by rw [Nat.pow_succ] at h; omega), bitLen_step h0]
theorem lib_bitLen {x : Nat} (h : x < 2 ^ 64) : Lib.bitLen x = bitLen x := lib_bitLenAux 64 x h
end Go.Proofs.YtgekmbfmfiikkaaGreatDoor

/-! The references' whole numbers and floats: Divide by any number; quotients by any number. -/
namespace Go.Proofs.YtgekmbfmfiikkaaGreatDoor
open Go.RowKit

theorem isInt_lt {w : World} {neg : Bool} {A : Option Addr} {n c : Nat} {z : Int} (h : IsInt w neg A n c z) : z.natAbs < Lm.B ^ n := by
 obtain ⟨l, hl, _, _, rfl⟩ := h
 have h1 : (sgnd neg (Lm.lv l)).natAbs = Lm.lv l := by unfold sgnd; split <;> omega
 rw [h1, ← hl.len]
 exact Lm.lv_lt hl.ok
theorem ref_Divide_any (neg neg' : Bool) (A A' : Option Addr) (n c n' c' : Nat) (x y : Int) (w : World) (hx : IsInt w neg A n c x) (hy : IsInt w neg' A' n' c' y) (hn : n ≤ 1000000000) (hn' : n' ≤ 1000000) (hy0 : y ≠ 0) :
  Calls Tryz.prog 286 #[.agg #[.bool neg, .slice A n c], .agg #[.bool neg', .slice A' n' c']] w (RetTwoInts w (x.tdiv y) (x.tmod y)) := by
 have h0 : n' ≠ 0 := fun e => hy0 ((isInt_zero hy).1 e)
 by_cases h1 : n' = 1
 ·subst h1
  exact ref_Divide_one _ _ _ _ _ _ _ _ _ _ hx hy hn
 ·obtain ⟨a, ha, ca, _, rfl⟩ := hx
  obtain ⟨b, hb, cb, _, rfl⟩ := hy
  rw [sgnd_tdiv, sgnd_tmod]
  exact ref_quo_of _ _ _ _ _ _ _ _ _ _ _ ha hb hn (by omega) (fun W hA hB => ref_divide_long _ _ _ _ _ _ _ _ _ hA hB cb hn hn' (by omega))

theorem ref_cmp_of (neg neg' : Bool) (A A' : Option Addr) (n c n' c' : Nat) (x y v : Int) (w : World) (hx : IsInt w neg A n c x) (hy : IsInt w neg' A' n' c' y) (hn : n ≤ 1000000000) (hn' : n' ≤ 1000000000) (h : Hid (icmp x y = v)) :
  Calls Tryz.prog 290 #[.agg #[.bool neg, .slice A n c], .agg #[.bool neg', .slice A' n' c']] w (RetV w (.int .i64 v)) :=
 (ref_cmp_int _ _ _ _ _ _ _ _ _ _ _ hx hy hn hn').mono fun _ _ ⟨he, hb⟩ => ⟨by rw [he, h.out], hb⟩

end Go.Proofs.YtgekmbfmfiikkaaGreatDoor



/-! The references' floats (polestarref04): the quotient. -/
namespace Go.Proofs.YtgekmbfmfiikkaaGreatDoor
open Go.RowKit

theorem frozen_alloc {w : World} (o : Obj) {g k : Nat} (h : g < w.heap.size) : (w.alloc o).frozen? ⟨g, k, none⟩ = w.frozen? ⟨g, k, none⟩ :=
 ((Below.refl w.heap.size w).alloc (Nat.le_refl _) o).frozen (p := ⟨g, k, none⟩) h

end Go.Proofs.YtgekmbfmfiikkaaGreatDoor

namespace Go.Proofs.YtgekmbfmfiikkaaGreatDoor
open Go.RowKit

/-! ### plain -/
/-- The root, rounded down. -/
def IsRt (X k : Nat) : Prop := k * k ≤ X ∧ X < (k + 1) * (k + 1)
theorem four_mul (a b : Nat) : 4 * (a * b) ≤ (a + b) * (a + b) := by
 rcases Nat.le_total a b with h | h
 ·obtain ⟨d, rfl⟩ := Nat.exists_eq_add_of_le h
  simp only [Nat.mul_add, Nat.add_mul, Nat.mul_comm d a]
  omega
 ·obtain ⟨d, rfl⟩ := Nat.exists_eq_add_of_le h
  simp only [Nat.mul_add, Nat.add_mul, Nat.mul_comm d b]
  omega
theorem rt_step {X k : Nat} (hX : 0 < X) (hk : 0 < k) : 0 < (k + X / k) / 2 ∧ X < ((k + X / k) / 2 + 1) * ((k + X / k) / 2 + 1) := by
 have h1 : X < k * (X / k + 1) := Nat.lt_mul_div_succ X hk
 obtain ⟨q, hq⟩ : ∃ q, X / k = q := ⟨_, rfl⟩
 rw [hq] at h1 ⊢
 obtain ⟨m, hm⟩ : ∃ m, (k + q) / 2 = m := ⟨_, rfl⟩
 rw [hm]
 have h2 : k + (q + 1) ≤ 2 * (m + 1) := by omega
 have h3 := Nat.mul_le_mul h2 h2
 have h4 := four_mul k (q + 1)
 rw [Nat.mul_mul_mul_comm] at h3
 have h5 : X < (m + 1) * (m + 1) := by
  generalize k * (q + 1) = a at *
  generalize (k + (q + 1)) * (k + (q + 1)) = b at *
  generalize (m + 1) * (m + 1) = c at *
  omega
 refine ⟨?_, h5⟩
 rcases Nat.eq_zero_or_pos m with h | h
 ·subst h; simp at h5; omega
 ·exact h
theorem rt_stop {X k : Nat} (hk : 0 < k) (h : k ≤ (k + X / k) / 2) : k * k ≤ X := by
 have h1 : k ≤ X / k := by omega
 exact (Nat.le_div_iff_mul_le hk).1 h1
theorem rt_start {X L H : Nat} (hX : X ≠ 0) (hL : L = bitLen X) (hH : H = (L + 1) / 2) : X < (2 ^ H + 1) * (2 ^ H + 1) := by
 obtain ⟨_, _, h⟩ := bitLen_spec hX
 rw [← hL] at h
 have h1 : 2 ^ L ≤ 2 ^ (H + H) := Nat.pow_le_pow_right (by decide) (by omega)
 rw [Nat.pow_add] at h1
 have h2 : 2 ^ H * 2 ^ H ≤ (2 ^ H + 1) * (2 ^ H + 1) := Nat.mul_le_mul (by omega) (by omega)
 omega

/-! ### half, Root -/
set_option maxHeartbeats 400000 in
theorem ref_half_any (A : Option Addr) (n c : Nat) (a : List Nat) (w : World) (ha : Sl w A n c a) (hn : n ≤ 1000000000) :
  Calls Tryz.prog 288 #[.slice A n c] w (RetLimbs w fun l => Lm.lv l = Lm.lv a / 2 ∧ l.length ≤ n) := by
 go_enter Tryz.func288, Tryz.ntmps288
 go_wp2_with fail
 refine (ref_short_any A n c 2 a _ ha hn (by decide) (by decide)).mono ?_
 rintro e w1 ⟨A1, n1, c1, l, r, rfl, hS, ⟨hv, hr, hc, hl⟩, hb⟩
 have HV := Lib.hid hv
 clear hv
 go_wp2_with fail
 go_ret
 exact ⟨A1, n1, c1, l, rfl, hS, ⟨by rw [HV.out]; omega, hl⟩, hb⟩

/-- The world of the loop: the number, its root so far, the result's place. -/
def RtIn (w : World) (A : Option Addr) (n c k R : Nat) (wx : World) : Prop :=
 ∃ negr Ar nr cr, wx.cell? ⟨R, 0, none⟩ = some (.bool negr) ∧ wx.cell? ⟨R, 1, none⟩ = some (.slice Ar nr cr) ∧ IsInt wx negr Ar nr cr (k : Int) ∧
  wx.cell? ⟨w.heap.size, 0, none⟩ = some (.bool false) ∧ wx.cell? ⟨w.heap.size, 1, none⟩ = some (.slice A n c) ∧
  wx.cell? ⟨w.heap.size + 1, 0, none⟩ = some (.bool false) ∧ wx.cell? ⟨w.heap.size + 1, 1, none⟩ = some (.slice none 0 0) ∧ R < wx.heap.size ∧ w.heap.size + 1 < R ∧ Below w.heap.size w wx ∧
  wx.frozen? ⟨R, 0, none⟩ = false ∧ wx.frozen? ⟨R, 1, none⟩ = false ∧ wx.frozen? ⟨w.heap.size + 1, 0, none⟩ = false ∧ wx.frozen? ⟨w.heap.size + 1, 1, none⟩ = false
theorem RtIn.set {w wx : World} {A : Option Addr} {n c k R : Nat} {b0 : Bool} {a0 : Option Addr} {n0 c0 : Nat} {neg' : Bool} {A' : Option Addr} {n' c' : Nat}
  (hI : IsInt wx neg' A' n' c' (k : Int)) (h0 : wx.cell? ⟨R, 0, none⟩ = some (.bool b0)) (h1 : wx.cell? ⟨R, 1, none⟩ = some (.slice a0 n0 c0))
  (x0 : wx.cell? ⟨w.heap.size, 0, none⟩ = some (.bool false)) (x1 : wx.cell? ⟨w.heap.size, 1, none⟩ = some (.slice A n c))
  (x2 : wx.cell? ⟨w.heap.size + 1, 0, none⟩ = some (.bool false)) (x3 : wx.cell? ⟨w.heap.size + 1, 1, none⟩ = some (.slice none 0 0)) (hR : R < wx.heap.size) (hs : w.heap.size + 1 < R) (hb : Below w.heap.size w wx)
  (f0 : wx.frozen? ⟨R, 0, none⟩ = false) (f1 : wx.frozen? ⟨R, 1, none⟩ = false) (f2 : wx.frozen? ⟨w.heap.size + 1, 0, none⟩ = false) (f3 : wx.frozen? ⟨w.heap.size + 1, 1, none⟩ = false) :
  RtIn w A n c k R ((wx.setCell ⟨R, 0, none⟩ (.bool neg')).setCell ⟨R, 1, none⟩ (.slice A' n' c')) := by
 refine ⟨neg', A', n', c', by simp [go_sem, h0], by simp [go_sem, h1], isInt_result hI h0 h1 _ _, ?_, ?_, ?_, ?_, ?_, hs, below_result hb (by omega) _ _, by simpa using f0, by simpa using f1, by simpa using f2, by simpa using f3⟩
 ·exact (cell_far wx R _ _ ⟨w.heap.size, 0, none⟩ (show ¬ w.heap.size = R by omega)).trans x0
 ·exact (cell_far wx R _ _ ⟨w.heap.size, 1, none⟩ (show ¬ w.heap.size = R by omega)).trans x1
 ·exact (cell_far wx R _ _ ⟨w.heap.size + 1, 0, none⟩ (show ¬ w.heap.size + 1 = R by omega)).trans x2
 ·exact (cell_far wx R _ _ ⟨w.heap.size + 1, 1, none⟩ (show ¬ w.heap.size + 1 = R by omega)).trans x3
 ·simpa [World.setCell] using hR
theorem RtIn.new {w wx : World} {A : Option Addr} {n c k : Nat} {neg' : Bool} {A' : Option Addr} {n' c' : Nat} (t : TypeId)
  (hI : IsInt wx neg' A' n' c' (k : Int))
  (x0 : wx.cell? ⟨w.heap.size, 0, none⟩ = some (.bool false)) (x1 : wx.cell? ⟨w.heap.size, 1, none⟩ = some (.slice A n c))
  (x2 : wx.cell? ⟨w.heap.size + 1, 0, none⟩ = some (.bool false)) (x3 : wx.cell? ⟨w.heap.size + 1, 1, none⟩ = some (.slice none 0 0)) (hs : w.heap.size + 1 < wx.heap.size) (hb : Below w.heap.size w wx) (f2 : wx.frozen? ⟨w.heap.size + 1, 0, none⟩ = false) (f3 : wx.frozen? ⟨w.heap.size + 1, 1, none⟩ = false) :
  RtIn w A n c k wx.heap.size (wx.alloc (.cells #[.bool neg', .slice A' n' c'] t)) :=
 ⟨neg', A', n', c', by simp [go_sem], by simp [go_sem], hI.alloc _, cell_alloc _ _ (by omega) x0, cell_alloc _ _ (by omega) x1, cell_alloc _ _ (by omega) x2, cell_alloc _ _ (by omega) x3, by simp, hs, hb.alloc hb.size _, by simp [go_sem], by simp [go_sem], (frozen_alloc _ (by omega)).trans f2, (frozen_alloc _ (by omega)).trans f3⟩
theorem run_mag (b : Bool) (A : Option Addr) (n c : Nat) (w : World) : (Instr.field 24 (.agg #[.bool b, .slice A n c]) 1).run Tryz.prog w = .ok (.slice A n c) w := by kernel_rfl

def RetRoot (W : World) (X : Nat) (e : Ending) (w' : World) : Prop :=
 ∃ (neg : Bool) (A : Option Addr) (n c k : Nat), e = .returned (.tuple #[.agg #[.bool neg, .slice A n c], .bool (decide (k * k = X))]) ∧ IsInt w' neg A n c (k : Int) ∧ IsRt X k ∧ Below W.heap.size W w'

end Go.Proofs.YtgekmbfmfiikkaaGreatDoor
