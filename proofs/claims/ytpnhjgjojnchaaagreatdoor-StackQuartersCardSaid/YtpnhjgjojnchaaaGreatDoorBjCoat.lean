/-
  A book's lists of one kind (Coat): one more is kept.
-/
import Derived.Test.YtpnhjgjojnchaaaGreatDoorBkCoat
import Derived.Deep.RegionLaw
namespace Go.Proofs.YtpnhjgjojnchaaaGreatDoor
open Go.RowKit

theorem infoHeldCoat : (Tryz.prog.info? 162).map (fun i => (i.zero, i.size, i.bytes)) = some (some (.agg #[.slice none 0 0, .slice none 0 0, .int .i64 0]), 3, 56) := by kernel_rfl
set_option maxRecDepth 100000 in
set_option maxHeartbeats 3200000 in
theorem keepCoat_any (B base : Nat) (A V : Option Addr) (n c vn vc m : Nat) (xs : List Value) (L : List Hl) (w : World) (hn : w.cell? ⟨B, 0, none⟩ = some (.int .i64 (m : Int))) (hV : w.cell? ⟨B, 10, none⟩ = some (.slice V vn vc)) (h0 : w.frozen? ⟨B, 0, none⟩ = false) (h1 : w.frozen? ⟨B, 10, none⟩ = false) (hB : B < w.heap.size)
    (hvn : vn = L.length) (hown : w.ownsRow base 162 3 (.slice V vn vc) vn (flat L)) (hVB : Value.ownBlock (.slice V vn vc) ≠ some B) (hm : m ≤ 1000000000) (hL : L.length ≤ 1000000000) (hbase : base ≤ w.heap.size) :
    Calls Tryz.prog 58 #[.pointer (some ⟨B, 0, none⟩), .slice A n c] w fun e w' => e = .returned (.tuple #[]) ∧ ∃ g c', w'.cell? ⟨B, 0, none⟩ = some (.int .i64 ((m + 1 : Nat) : Int)) ∧ w'.cell? ⟨B, 10, none⟩ = some (.slice (some ⟨g, 0, none⟩) (vn + 1) c') ∧
      w'.ownsRow base 162 3 (.slice (some ⟨g, 0, none⟩) (vn + 1) c') (vn + 1) (flat (L ++ [⟨A, n, c, xs, none, 0, 0, m + 1⟩])) ∧ g ≠ B ∧ (∀ j, j ≠ 0 → j ≠ 10 → w'.cell? ⟨B, j, none⟩ = w.cell? ⟨B, j, none⟩) ∧ (∀ j, w'.frozen? ⟨B, j, none⟩ = w.frozen? ⟨B, j, none⟩) ∧ Fr (fun b => b = B ∨ Value.ownBlock (.slice V vn vc) = some b) w w' := by
  obtain ⟨i0, hi, hz0, hz1, hz2⟩ := info_parts infoHeldCoat
  have HVN := Lib.hid hvn
  have hvl : vn ≤ 1000000000 := by omega
  clear hvn hL
  have hw64 : wrap64 ((m : Int) + 1) = (m : Int) + 1 := by unfold wrap64; omega
  go_enter Tryz.func58, Tryz.ntmps58
  go_upto_region 1 with (fail)
  have F1 : Fr (fun b => b = B ∨ Value.ownBlock (.slice V vn vc) = some b) w (w.setCell ⟨B, 0, none⟩ (.int .i64 ((m : Int) + 1))) := Fr.set _ _ (.inl rfl) _ _
  have own1 : (w.setCell ⟨B, 0, none⟩ (.int .i64 ((m : Int) + 1))).ownsRow base 162 3 (.slice V vn vc) vn (flat L) := Fr.row hown (Fr.set (fun b => b = B) w rfl 0 (.int .i64 ((m : Int) + 1))) (fun g hg e => hVB (by rw [← e]; exact hg))
  have n1 : (w.setCell ⟨B, 0, none⟩ (.int .i64 ((m : Int) + 1))).cell? ⟨B, 0, none⟩ = some (.int .i64 ((m : Int) + 1)) := by simp [go_sem, hn]
  have oth : ∀ j, j ≠ 0 → (w.setCell ⟨B, 0, none⟩ (.int .i64 ((m : Int) + 1))).cell? ⟨B, j, none⟩ = w.cell? ⟨B, j, none⟩ := fun j hj => World.cell?_setCell_other w ⟨B, 0, none⟩ ⟨B, j, none⟩ _ (by intro q; injection q with _ q; omega)
  have v1 := (oth 10 (by decide)).trans hV
  have z0 : ∀ j, (w.setCell ⟨B, 0, none⟩ (.int .i64 ((m : Int) + 1))).frozen? ⟨B, j, none⟩ = w.frozen? ⟨B, j, none⟩ := fun j => by simp [go_sem]
  have z1 := (z0 10).trans h1
  have hB1 : B < (w.setCell ⟨B, 0, none⟩ (.int .i64 ((m : Int) + 1))).heap.size := by simpa [World.setCell] using hB
  have hb1 : base ≤ (w.setCell ⟨B, 0, none⟩ (.int .i64 ((m : Int) + 1))).heap.size := by simpa [World.setCell] using hbase
  generalize w.setCell ⟨B, 0, none⟩ (.int .i64 ((m : Int) + 1)) = w1 at F1 own1 n1 oth v1 z0 z1 hB1 hb1 ⊢
  have own2 := own1.drew.alloc (.cells #[.slice A n c, .slice none 0 0, .int .i64 ((m : Int) + 1)] 162)
  have v2 : (w1.drew.alloc (.cells #[.slice A n c, .slice none 0 0, .int .i64 ((m : Int) + 1)] 162)).cell? ⟨B, 10, none⟩ = some (.slice V vn vc) := (World.cell?_alloc_lt _ _ _ hB1).trans v1
  have n2 : (w1.drew.alloc (.cells #[.slice A n c, .slice none 0 0, .int .i64 ((m : Int) + 1)] 162)).cell? ⟨B, 0, none⟩ = some (.int .i64 ((m : Int) + 1)) := (World.cell?_alloc_lt _ _ _ hB1).trans n1
  have z2 : (w1.drew.alloc (.cells #[.slice A n c, .slice none 0 0, .int .i64 ((m : Int) + 1)] 162)).frozen? ⟨B, 10, none⟩ = false := (((Fr.refl (fun _ => False) w1.drew).alloc _).frozen (g := B) (j := 10) hB1 id).trans z1
  have hB2 : B < (w1.drew.alloc (.cells #[.slice A n c, .slice none 0 0, .int .i64 ((m : Int) + 1)] 162)).heap.size := by simp; omega
  go_region_law (refine step_append_either _ rfl _ _ 37 rfl base 162 i0 (.agg #[.slice none 0 0, .slice none 0 0, .int .i64 0]) 3 56 Tryz.underlying37 hi hz0 hz1 hz2 rfl (by decide) (.slice V vn vc) vn (flat L) rfl own2 ⟨w1.heap.size, 0, none⟩ 1 1 [.slice A n c, .slice none 0 0, .int .i64 ((m : Int) + 1)] rfl rfl (World.news_of_block (heap_alloc_new w1.drew _)) (by simp [Value.oneCell']) (by decide) (by simp [maxLen]; omega) (by omega) (by simp; omega) ?_; intro g' cap' w2 hown2 hor; have HG := Lib.hid (fr_grow (Fr.refl (fun b => Value.ownBlock (.slice V vn vc) = some b) (w1.drew.alloc (.cells #[.slice A n c, .slice none 0 0, .int .i64 ((m : Int) + 1)] 162))) (fun g hg => .inl hg) hor); have c2 := (HG.out.1.cell (g := B) (j := 10) hB2 hVB).trans v2; have d2 := (HG.out.1.frozen (g := B) (j := 10) hB2 hVB).trans z2; clear hor)
  all_goals
   go_wp2_with fail
   have hgB : g' ≠ B := fun e => HG.out.2.elim (fun q => hVB (by rw [← e]; exact q)) (fun q => by omega)
   have hc : ∀ j, j ≠ 10 → (w2.setCell ⟨B, 10, none⟩ (.slice (some ⟨g', 0, none⟩) (vn + 1) cap')).cell? ⟨B, j, none⟩ = w1.cell? ⟨B, j, none⟩ := fun j hj =>
     ((World.cell?_setCell_other w2 ⟨B, 10, none⟩ ⟨B, j, none⟩ _ (by intro q; injection q with _ q; omega)).trans (HG.out.1.cell (g := B) (j := j) hB2 hVB)).trans (World.cell?_alloc_lt _ _ _ hB1)
   have hfz : ∀ j, (w2.setCell ⟨B, 10, none⟩ (.slice (some ⟨g', 0, none⟩) (vn + 1) cap')).frozen? ⟨B, j, none⟩ = w1.frozen? ⟨B, j, none⟩ := fun j =>
     ((by simp [go_sem] : (w2.setCell ⟨B, 10, none⟩ (.slice (some ⟨g', 0, none⟩) (vn + 1) cap')).frozen? ⟨B, j, none⟩ = w2.frozen? ⟨B, j, none⟩).trans (HG.out.1.frozen (g := B) (j := j) hB2 hVB)).trans (((Fr.refl (fun _ => False) w1.drew).alloc _).frozen (g := B) (j := j) hB1 id)
   have hrow : (w2.setCell ⟨B, 10, none⟩ (.slice (some ⟨g', 0, none⟩) (vn + 1) cap')).ownsRow base 162 3 (.slice (some ⟨g', 0, none⟩) (vn + 1) cap') (vn + 1) (flat (L ++ [⟨A, n, c, xs, none, 0, 0, m + 1⟩])) := by
     rw [flat_app]
     exact Fr.row hown2 (Fr.set (fun b => b = B) w2 rfl 10 _) (fun g hg e => hgB (by injection hg with hg; have : g' = g := hg; omega))
   have hF : Fr (fun b => b = B ∨ Value.ownBlock (.slice V vn vc) = some b) w (w2.setCell ⟨B, 10, none⟩ (.slice (some ⟨g', 0, none⟩) (vn + 1) cap')) := (((F1.drew.alloc _).trans (HG.out.1.mono fun _ h => .inr h))).trans (Fr.set (fun b => b = B ∨ Value.ownBlock (.slice V vn vc) = some b) w2 (.inl rfl) 10 _)
   exact bodyPost_end (v := .tuple #[]) (by simp [results, Tryz.results58]) rfl ⟨rfl, g', cap', (hc 0 (by decide)).trans n1, by simp [go_sem, c2], hrow, hgB, fun j h0 h1 => (hc j h1).trans (oth j h0), fun j => (hfz j).trans (z0 j), hF⟩
end Go.Proofs.YtpnhjgjojnchaaaGreatDoor
