/-
  A book's lists of one kind (Limb): one more is kept.
  A book with lists of one kind (Limb): new, with one list more, apart.
  The program's fractions (package ratio): quotients.
  All of a list written out, one by one.
-/
import Derived.Test.YtmmplomkginadaaGreatDoorBkLimb
import Derived.Deep.RegionLaw
import Derived.Test.YtmmplomkginadaaGreatDoorBaLimb
import Derived.Test.YtmmplomkginadaaGreatDoorOwH
import Derived.Test.YtmmplomkginadaaGreatDoorRaL
import Derived.Test.YtmmplomkginadaaGreatDoorAnD
namespace Go.Proofs.YtmmplomkginadaaGreatDoor
open Go.RowKit

theorem infoHeldLimb : (Tryz.prog.info? 168).map (fun i => (i.zero, i.size, i.bytes)) = some (some (.agg #[.slice none 0 0, .slice none 0 0, .int .i64 0]), 3, 56) := by kernel_rfl
set_option maxRecDepth 100000 in
set_option maxHeartbeats 3200000 in
theorem keepLimb_any (B base : Nat) (A V : Option Addr) (n c vn vc m : Nat) (xs : List Value) (L : List Hl) (w : World) (hn : w.cell? ⟨B, 0, none⟩ = some (.int .i64 (m : Int))) (hV : w.cell? ⟨B, 1, none⟩ = some (.slice V vn vc)) (h0 : w.frozen? ⟨B, 0, none⟩ = false) (h1 : w.frozen? ⟨B, 1, none⟩ = false) (hB : B < w.heap.size)
    (hvn : vn = L.length) (hown : w.ownsRow base 168 3 (.slice V vn vc) vn (flat L)) (hVB : Value.ownBlock (.slice V vn vc) ≠ some B) (hm : m ≤ 1000000000) (hL : L.length ≤ 1000000000) (hbase : base ≤ w.heap.size) :
    Calls Tryz.prog 242 #[.pointer (some ⟨B, 0, none⟩), .slice A n c] w fun e w' => e = .returned (.tuple #[]) ∧ ∃ g c', w'.cell? ⟨B, 0, none⟩ = some (.int .i64 ((m + 1 : Nat) : Int)) ∧ w'.cell? ⟨B, 1, none⟩ = some (.slice (some ⟨g, 0, none⟩) (vn + 1) c') ∧
      w'.ownsRow base 168 3 (.slice (some ⟨g, 0, none⟩) (vn + 1) c') (vn + 1) (flat (L ++ [⟨A, n, c, xs, none, 0, 0, m + 1⟩])) ∧ g ≠ B ∧ (∀ j, j ≠ 0 → j ≠ 1 → w'.cell? ⟨B, j, none⟩ = w.cell? ⟨B, j, none⟩) ∧ (∀ j, w'.frozen? ⟨B, j, none⟩ = w.frozen? ⟨B, j, none⟩) ∧ Fr (fun b => b = B ∨ Value.ownBlock (.slice V vn vc) = some b) w w' := by
  obtain ⟨i0, hi, hz0, hz1, hz2⟩ := info_parts infoHeldLimb
  have HVN := Lib.hid hvn
  have hvl : vn ≤ 1000000000 := by omega
  clear hvn hL
  have hw64 : wrap64 ((m : Int) + 1) = (m : Int) + 1 := by unfold wrap64; omega
  go_enter Tryz.func242, Tryz.ntmps242
  go_upto_region 1 with (fail)
  have F1 : Fr (fun b => b = B ∨ Value.ownBlock (.slice V vn vc) = some b) w (w.setCell ⟨B, 0, none⟩ (.int .i64 ((m : Int) + 1))) := Fr.set _ _ (.inl rfl) _ _
  have own1 : (w.setCell ⟨B, 0, none⟩ (.int .i64 ((m : Int) + 1))).ownsRow base 168 3 (.slice V vn vc) vn (flat L) := Fr.row hown (Fr.set (fun b => b = B) w rfl 0 (.int .i64 ((m : Int) + 1))) (fun g hg e => hVB (by rw [← e]; exact hg))
  have n1 : (w.setCell ⟨B, 0, none⟩ (.int .i64 ((m : Int) + 1))).cell? ⟨B, 0, none⟩ = some (.int .i64 ((m : Int) + 1)) := by simp [go_sem, hn]
  have oth : ∀ j, j ≠ 0 → (w.setCell ⟨B, 0, none⟩ (.int .i64 ((m : Int) + 1))).cell? ⟨B, j, none⟩ = w.cell? ⟨B, j, none⟩ := fun j hj => World.cell?_setCell_other w ⟨B, 0, none⟩ ⟨B, j, none⟩ _ (by intro q; injection q with _ q; omega)
  have v1 := (oth 1 (by decide)).trans hV
  have z0 : ∀ j, (w.setCell ⟨B, 0, none⟩ (.int .i64 ((m : Int) + 1))).frozen? ⟨B, j, none⟩ = w.frozen? ⟨B, j, none⟩ := fun j => by simp [go_sem]
  have z1 := (z0 1).trans h1
  have hB1 : B < (w.setCell ⟨B, 0, none⟩ (.int .i64 ((m : Int) + 1))).heap.size := by simpa [World.setCell] using hB
  have hb1 : base ≤ (w.setCell ⟨B, 0, none⟩ (.int .i64 ((m : Int) + 1))).heap.size := by simpa [World.setCell] using hbase
  generalize w.setCell ⟨B, 0, none⟩ (.int .i64 ((m : Int) + 1)) = w1 at F1 own1 n1 oth v1 z0 z1 hB1 hb1 ⊢
  have own2 := own1.drew.alloc (.cells #[.slice A n c, .slice none 0 0, .int .i64 ((m : Int) + 1)] 168)
  have v2 : (w1.drew.alloc (.cells #[.slice A n c, .slice none 0 0, .int .i64 ((m : Int) + 1)] 168)).cell? ⟨B, 1, none⟩ = some (.slice V vn vc) := (World.cell?_alloc_lt _ _ _ hB1).trans v1
  have n2 : (w1.drew.alloc (.cells #[.slice A n c, .slice none 0 0, .int .i64 ((m : Int) + 1)] 168)).cell? ⟨B, 0, none⟩ = some (.int .i64 ((m : Int) + 1)) := (World.cell?_alloc_lt _ _ _ hB1).trans n1
  have z2 : (w1.drew.alloc (.cells #[.slice A n c, .slice none 0 0, .int .i64 ((m : Int) + 1)] 168)).frozen? ⟨B, 1, none⟩ = false := (((Fr.refl (fun _ => False) w1.drew).alloc _).frozen (g := B) (j := 1) hB1 id).trans z1
  have hB2 : B < (w1.drew.alloc (.cells #[.slice A n c, .slice none 0 0, .int .i64 ((m : Int) + 1)] 168)).heap.size := by simp; omega
  go_region_law (refine step_append_either _ rfl _ _ 42 rfl base 168 i0 (.agg #[.slice none 0 0, .slice none 0 0, .int .i64 0]) 3 56 Tryz.underlying42 hi hz0 hz1 hz2 rfl (by decide) (.slice V vn vc) vn (flat L) rfl own2 ⟨w1.heap.size, 0, none⟩ 1 1 [.slice A n c, .slice none 0 0, .int .i64 ((m : Int) + 1)] rfl rfl (World.news_of_block (heap_alloc_new w1.drew _)) (by simp [Value.oneCell']) (by decide) (by simp [maxLen]; omega) (by omega) (by simp; omega) ?_; intro g' cap' w2 hown2 hor; have HG := Lib.hid (fr_grow (Fr.refl (fun b => Value.ownBlock (.slice V vn vc) = some b) (w1.drew.alloc (.cells #[.slice A n c, .slice none 0 0, .int .i64 ((m : Int) + 1)] 168))) (fun g hg => .inl hg) hor); have c2 := (HG.out.1.cell (g := B) (j := 1) hB2 hVB).trans v2; have d2 := (HG.out.1.frozen (g := B) (j := 1) hB2 hVB).trans z2; clear hor)
  all_goals
   go_wp2_with fail
   have hgB : g' ≠ B := fun e => HG.out.2.elim (fun q => hVB (by rw [← e]; exact q)) (fun q => by omega)
   have hc : ∀ j, j ≠ 1 → (w2.setCell ⟨B, 1, none⟩ (.slice (some ⟨g', 0, none⟩) (vn + 1) cap')).cell? ⟨B, j, none⟩ = w1.cell? ⟨B, j, none⟩ := fun j hj =>
     ((World.cell?_setCell_other w2 ⟨B, 1, none⟩ ⟨B, j, none⟩ _ (by intro q; injection q with _ q; omega)).trans (HG.out.1.cell (g := B) (j := j) hB2 hVB)).trans (World.cell?_alloc_lt _ _ _ hB1)
   have hfz : ∀ j, (w2.setCell ⟨B, 1, none⟩ (.slice (some ⟨g', 0, none⟩) (vn + 1) cap')).frozen? ⟨B, j, none⟩ = w1.frozen? ⟨B, j, none⟩ := fun j =>
     ((by simp [go_sem] : (w2.setCell ⟨B, 1, none⟩ (.slice (some ⟨g', 0, none⟩) (vn + 1) cap')).frozen? ⟨B, j, none⟩ = w2.frozen? ⟨B, j, none⟩).trans (HG.out.1.frozen (g := B) (j := j) hB2 hVB)).trans (((Fr.refl (fun _ => False) w1.drew).alloc _).frozen (g := B) (j := j) hB1 id)
   have hrow : (w2.setCell ⟨B, 1, none⟩ (.slice (some ⟨g', 0, none⟩) (vn + 1) cap')).ownsRow base 168 3 (.slice (some ⟨g', 0, none⟩) (vn + 1) cap') (vn + 1) (flat (L ++ [⟨A, n, c, xs, none, 0, 0, m + 1⟩])) := by
     rw [flat_app]
     exact Fr.row hown2 (Fr.set (fun b => b = B) w2 rfl 1 _) (fun g hg e => hgB (by injection hg with hg; have : g' = g := hg; omega))
   have hF : Fr (fun b => b = B ∨ Value.ownBlock (.slice V vn vc) = some b) w (w2.setCell ⟨B, 1, none⟩ (.slice (some ⟨g', 0, none⟩) (vn + 1) cap')) := (((F1.drew.alloc _).trans (HG.out.1.mono fun _ h => .inr h))).trans (Fr.set (fun b => b = B ∨ Value.ownBlock (.slice V vn vc) = some b) w2 (.inl rfl) 1 _)
   exact bodyPost_end (v := .tuple #[]) (by simp [results, Tryz.results242]) rfl ⟨rfl, g', cap', (hc 0 (by decide)).trans n1, by simp [go_sem, c2], hrow, hgB, fun j h0 h1 => (hc j h1).trans (oth j h0), fun j => (hfz j).trans (z0 j), hF⟩
end Go.Proofs.YtmmplomkginadaaGreatDoor

namespace Go.Proofs.YtmmplomkginadaaGreatDoor
open Go.RowKit

theorem typesLimb : (169 == 168) = false := by decide
/-- Two rows of unlike elements lie in unlike blocks. -/
theorem rows_farLimb {w : World} {b b' sz sz' n n' g : Nat} {v v' : Value} {xs ys : List Value} (h : w.ownsRow b 169 sz v n xs) (k : w.ownsRow b' 168 sz' v' n' ys) (h1 : v.ownBlock = some g) (h2 : v'.ownBlock = some g) : False := by
  rcases h.2 with ⟨rfl, _⟩ | ⟨g1, c1, cur1, rfl, _, hg1, _⟩
  · cases h1
  · rcases k.2 with ⟨rfl, _⟩ | ⟨g2, c2, cur2, rfl, _, hg2, _⟩
    · cases h2
    · injection h1 with h1
      injection h2 with h2
      have e1 : g1 = g := h1
      have e2 : g2 = g := h2
      rw [e1] at hg1
      rw [e2, hg1] at hg2
      injection hg2 with hg2
      injection hg2 with _ ht _
      have := typesLimb
      rw [beq_eq_false_iff_ne] at this
      exact this ht
/-- A book with these lists. -/
def BkStLimb (base : Nat) (w : World) (B : Nat) (L : List Hl) : Prop :=
  ∃ (V : Option Addr) (vn vc : Nat), B < w.heap.size ∧ w.cell? ⟨B, 0, none⟩ = some (.int .i64 (L.length : Int)) ∧ w.cell? ⟨B, 1, none⟩ = some (.slice V vn vc) ∧ vn = L.length ∧ w.ownsRow base 168 3 (.slice V vn vc) vn (flat L) ∧ Value.ownBlock (.slice V vn vc) ≠ some B ∧ (∀ j, w.frozen? ⟨B, j, none⟩ = false) ∧ NilLimb B w
theorem bkst_newLimb (base : Nat) (w : World) : BkStLimb base (w.alloc (.cells #[.int .i64 0, .slice none 0 0, .slice none 0 0, .slice none 0 0, .slice none 0 0, .slice none 0 0, .slice none 0 0, .slice none 0 0, .slice none 0 0, .slice none 0 0, .slice none 0 0, .slice none 0 0, .slice none 0 0, .slice none 0 0, .slice none 0 0, .slice none 0 0, .slice none 0 0] 59)) w.heap.size [] := by
  have hB := Blk.new w rfl [.int .i64 0, .slice none 0 0, .slice none 0 0, .slice none 0 0, .slice none 0 0, .slice none 0 0, .slice none 0 0, .slice none 0 0, .slice none 0 0, .slice none 0 0, .slice none 0 0, .slice none 0 0, .slice none 0 0, .slice none 0 0, .slice none 0 0, .slice none 0 0, .slice none 0 0] 59
  refine ⟨none, 0, 0, hB.1, (hB.2 0 _ rfl).1, (hB.2 1 _ rfl).1, rfl, World.ownsRow_nil _ _ _ _, (fun e => by cases e), fun j => ?_, fun j hj _ => ?_⟩
  · unfold World.frozen?
    rw [heap_alloc_new w _]
    simp
  · have h2 := of_decide_eq_true ((Bool.and_eq_true _ _).mp hj).1
    have h3 := of_decide_eq_true ((Bool.and_eq_true _ _).mp hj).2
    refine (hB.2 j _ ?_).1
    have : j = 1 ∨ j = 2 ∨ j = 3 ∨ j = 4 ∨ j = 5 ∨ j = 6 ∨ j = 7 ∨ j = 8 ∨ j = 9 ∨ j = 10 ∨ j = 11 ∨ j = 12 ∨ j = 13 ∨ j = 14 ∨ j = 15 ∨ j = 16 := by omega
    rcases this with rfl | rfl | rfl | rfl | rfl | rfl | rfl | rfl | rfl | rfl | rfl | rfl | rfl | rfl | rfl | rfl <;> rfl
theorem apartLimb_st (B base : Nat) (L : List Hl) (w : World) (h : BkStLimb base w B L) (h0 : 0 < L.length) (hO : Owd base 169 1 w L) (hD : Dis L) (hk : ∀ (i : Nat) (h : Hl), L[i]? = some h → (h.k ≤ 1000000000 ∧ h.n ≤ 1000000000) ∧ h.v.ownBlock ≠ some B) (hm : L.length ≤ 1000000000) (hbase : base ≤ w.heap.size) :
    Calls Tryz.prog 23 #[.pointer (some ⟨B, 0, none⟩)] w fun e w' => e = .returned (.bool true) ∧ Below base w w' := by
  obtain ⟨V, vn, vc, hBl, hn, hV, hvn, hown, hVB, hfz, hNil⟩ := h
  subst hvn
  obtain ⟨g, cap, hv, _, _⟩ := hown.form h0
  injection hv with hv1 hv2 hv3
  subst hv1
  exact apartLimb_any B g vc base L w hV hBl hNil hown hO hD (fun ⟨i, h, hi, hb⟩ => (hk i h hi).2 hb) (fun ⟨i, h, hi, hb⟩ => rows_farLimb (hO i h hi) hown hb rfl) (fun e => hVB (by rw [e]; rfl)) (fun i h hi => (hk i h hi).1) hm hbase
end Go.Proofs.YtmmplomkginadaaGreatDoor

namespace Go.Proofs.YtmmplomkginadaaGreatDoor
open Go.RowKit

theorem rat_over_any (neg neg' : Bool) (A A' : Option Addr) (n c n' c' : Nat) (nfg nfg' : Bool) (C C' : Option Addr) (p q p' q' : Nat) (x y : Rat) (r : Rat) (m k : Nat) (w : World) (hx : IsInt w neg A n c x.num) (hx' : IsInt w neg' A' n' c' (x.den : Int)) (hy : IsInt w nfg C p q y.num) (hy' : IsInt w nfg' C' p' q' (y.den : Int)) (sx : Sz x m) (sy : Sz y k) (hm : m + k < 1000000) (h0 : y ≠ 0) (hr : Hid (x / y = r)) :
    Calls Tryz.prog 134 #[.agg #[.bool neg, .slice A n c, .bool neg', .slice A' n' c'], .agg #[.bool nfg, .slice C p q, .bool nfg', .slice C' p' q']] w (RetFr w r) :=
  (owr_over_any neg neg' A A' n c n' c' nfg nfg' C C' p q p' q' x y r m k w hx hx' hy hy' sx sy hm h0 hr).mono fun _ _ h => h.fg
end Go.Proofs.YtmmplomkginadaaGreatDoor

namespace Go.Proofs.YtmmplomkginadaaGreatDoor
theorem all_nil {α : Type} {p : α → Prop} : ∀ b ∈ ([] : List α), p b := fun _ h => absurd h (by simp)
theorem all_cons {α : Type} {p : α → Prop} {a : α} {l : List α} (h : p a) (k : ∀ b ∈ l, p b) : ∀ b ∈ a :: l, p b := fun b hb => by
  rcases List.mem_cons.1 hb with rfl | hb
  · exact h
  · exact k b hb
end Go.Proofs.YtmmplomkginadaaGreatDoor
