/-
  Discs of quarters and eighths (turn.Disc).
-/
import Derived.Deep.WholeRow
import Derived.Test.YtdmdaoginojalaaGreatDoorDtC
import Derived.Test.YtdmdaoginojalaaGreatDoorTurA
import Derived.Test.YtdmdaoginojalaaGreatDoorTurV
namespace Go.Proofs.YtdmdaoginojalaaGreatDoor
open Go.RowKit

theorem dvs0a : (dvs F0 3).toArray = #[.complex .f64 0 0, .float .f64 0, .complex .f64 0 0, .float .f64 0, .complex .f64 0 0, .float .f64 0, .complex .f64 0 0, .float .f64 0, .complex .f64 0 0, .float .f64 0, .complex .f64 0 0, .float .f64 0, .complex .f64 0 0, .float .f64 0, .complex .f64 0 0, .float .f64 0, .complex .f64 0 0, .float .f64 0, .complex .f64 0 0, .float .f64 0, .complex .f64 0 0, .float .f64 0, .complex .f64 0 0, .float .f64 0, .complex .f64 0 0, .float .f64 0, .complex .f64 0 0, .float .f64 0, .complex .f64 0 0, .float .f64 0, .complex .f64 0 0, .float .f64 0, .complex .f64 0 0, .float .f64 0] := by rw [dvs0]
/-- The disc's number and radius and whether none was taken yet, ahead of bit k, where bit b alone is set. -/
def wzF (b : Nat) (F : Nat → Dt) (k : Nat) : (Nat × Nat) × Nat × Bool := if 3 ≤ b ∧ b < k then (((F b).1.1, (F b).2.1.1), (F b).2.2, false) else ((4607182418800017408, 0), 0, true)
def BitL (l b : Nat) : Prop := ∀ k : Nat, 3 ≤ k → k ≤ 16 → bits .and .i64 ((l : Int) / 2 ^ (16 - k)) 1 = if k = b then 1 else 0
def RetDz (W : World) (b : Nat) (z : Nat × Nat) (e : Ending) (w' : World) : Prop := ∃ r, e = .returned (.tuple #[.agg #[.complex .f64 z.1 z.2, .float .f64 r], .int .i64 0]) ∧ (b < 3 → r = 0) ∧ Below W.heap.size W w'

set_option maxRecDepth 100000 in
set_option maxHeartbeats 12800000 in
theorem disc_one (k : Int) (n q l b : Nat) (mir : Bool) (z : Nat × Nat) (hn : n ≤ 16) (hq : jF k n / 16384 = q) (hl : leftF (jF k n) = l) (hm : mirF (jF k n) = mir) (hq4 : q < 4) (hqq : Hid (bits .and .i64 (q : Int) 3 = (q : Int)))
    (hb : BitL l b) (hz : ∀ F, Steps F 17 → (wzF b F 17).1 = z) (z1 : z.1 < 2 ^ 64) (z2 : z.2 < 2 ^ 64) (fz : Flt.Fin z.1 ∧ Flt.Fin z.2) (w : World) :
    Calls Tryz.prog 10 #[.int .i64 k, .int .i64 (n : Int)] w (RetDz w b (laidF mir q z)) := by
  have HC : Hid (cntF (n : Int) = 0) := Lib.hid (by unfold cntF; rw [if_neg (by omega), if_neg (by omega)])
  have K0 := (Mm.nil w).var (g := w.heap.size) rfl [.complex .f64 0 0, .float .f64 0] 30
  have HAT := Lib.hid (And.intro hq (And.intro hl hm))
  have HB := Lib.hid hb
  have HZ := Lib.hid hz
  clear hq hl hm hb hz
  go_enter Tryz.func10, Tryz.ntmps10
  go_upto_region 1 with (fail)
  generalize w.alloc (.cells #[.complex .f64 0 0, .float .f64 0] 30) = w0 at K0 ⊢
  go_wp2_with fail
  refine (counted_any _ _).mono ?_
  rintro e1 w1 ⟨rfl, rfl⟩
  rw [HC.out]
  go_wp2_with fail
  refine (discs_any _).mono ?_
  rintro e2 w2 ⟨F, hF, rfl, hb⟩
  have HF := Lib.hid hF
  clear hF
  have K2 := K0.next hb
  have hlt : w.heap.size < w2.heap.size := (K2.blk (g := w.heap.size) (vs := [.complex .f64 0 0, .float .f64 0]) (by simp)).1
  have K3 := K2.var (g := w2.heap.size) rfl (dvs F 17) 105
  have hST : (storeCells ⟨w2.heap.size, 0, none⟩ (dvs F 17) 0).run Tryz.prog (w2.alloc (.cells (dvs F0 3).toArray 105)) = .ok () (w2.alloc (.cells (dvs F 17).toArray 105)) :=
    run_storeCells_new w2 105 (dvs F0 3).toArray (dvs F 17).toArray (by rw [List.size_toArray, dvs_len]; exact info_row) (by rw [List.size_toArray, List.size_toArray, dvs_len, dvs_len]) (all_oneCell_toArray (fun v hv => by obtain ⟨i, _, rfl⟩ := List.mem_map.1 hv; exact dval_one.1))
  rw [dvs0a] at hST
  clear K0 K2 hb
  go_upto_region 5 with (fail)
  try generalize w2.alloc (.cells (dvs F 17).toArray 105) = w4 at K3 ⊢
  clear hST
  go_wp2_with fail
  refine (at_any k n hn _).mono ?_
  rintro e3 w5 ⟨rfl, hb⟩
  rw [HAT.out.1, HAT.out.2.1, HAT.out.2.2]
  have K5 := K3.next hb
  have hl5 : w2.heap.size < w5.heap.size := (K5.blk (g := w2.heap.size) (vs := dvs F 17) (by simp)).1
  have K6 := (K5.var (g := w5.heap.size) rfl [.int .i64 (q : Int), .int .i64 (l : Int), .bool mir] 103).var (g := w5.heap.size + 1) (by simp) [.complex .f64 4607182418800017408 0, .float .f64 0] 30
  clear K3 K5 hb
  go_upto_region 10 with (fail)
  generalize (w5.alloc (.cells #[.int .i64 (q : Int), .int .i64 (l : Int), .bool mir] 103)).alloc (.cells #[.complex .f64 4607182418800017408 0, .float .f64 0] 30) = w6 at K6 ⊢
  generalize w5.heap.size = g9 at K6 hl5 ⊢
  generalize w2.heap.size = g7 at K6 hl5 hlt ⊢
  clear w0 w2 w4 w5
  have HF0 := HZ.out F HF.out
  go_loopw [11, 12] (fun f i wr => ∃ j : Nat, 3 ≤ j ∧ j ≤ 17 ∧ f = .bool (wzF b F j).2.2 ∧ i = .int .i64 (j : Int) ∧
      Mm w [(g9 + 1, [.complex .f64 (wzF b F j).1.1 (wzF b F j).1.2, .float .f64 (wzF b F j).2.1]), (g9, [.int .i64 (q : Int), .int .i64 (l : Int), .bool mir]), (g7, dvs F 17), (w.heap.size, [.complex .f64 0 0, .float .f64 0])] [] wr) (fun _ i _ => 17 - (intOf i).toNat)
  case atStart =>
    have e : wzF b F 3 = ((4607182418800017408, 0), 0, true) := by unfold wzF; rw [if_neg (by omega)]
    exact ⟨3, by decide, by decide, by rw [e], rfl, by rw [e]; exact K6⟩
  case round =>
    clear K6
    obtain ⟨j, hj3, hj17, rfl, rfl, K⟩ := hrel
    obtain ⟨p1, p2⟩ := K.blk (g := g9) (vs := [.int .i64 (q : Int), .int .i64 (l : Int), .bool mir]) (by simp)
    obtain ⟨a1, a2⟩ := p2 0 _ rfl
    obtain ⟨a3, a4⟩ := p2 1 _ rfl
    obtain ⟨a5, a6⟩ := p2 2 _ rfl
    obtain ⟨c1, c2, c3, c4, c5⟩ := (K.blk (g := g9 + 1) (vs := [.complex .f64 (wzF b F j).1.1 (wzF b F j).1.2, .float .f64 (wzF b F j).2.1]) (by simp)).two
    obtain ⟨d1, d2, d3, d4, d5⟩ := (K.blk (g := w.heap.size) (vs := [.complex .f64 0 0, .float .f64 0]) (by simp)).two
    clear p2
    by_cases hlt' : j < 17
    · have jle : (j : Int) ≤ 16 := by omega
      have HJ := Lib.hid (And.intro hj3 hlt')
      have hbt := HB.out j hj3 (by omega)
      have w16 : wrap64 (16 - (j : Int)) = ((16 - j : Nat) : Int) := by unfold wrap64; omega
      by_cases hjb : j = b
      · subst hjb
        rw [if_pos rfl] at hbt
        have e0 : wzF j F j = ((4607182418800017408, 0), 0, true) := by unfold wzF; rw [if_neg (by omega)]
        have HNX : Hid (wzF j F (j + 1) = (((F j).1.1, (F j).2.1.1), (F j).2.2, false)) := Lib.hid (by unfold wzF; rw [if_pos (by omega)])
        simp only [e0] at c1 c2 c3 c4 c5 K ⊢
        clear e0
        obtain ⟨y, hy⟩ : ∃ y, F j = y := ⟨_, rfl⟩
        obtain ⟨⟨y1, y2⟩, ⟨y3, y4⟩, y5⟩ := y
        have hB := K.blk (g := g7) (vs := dvs F 17) (by simp)
        have hp1 := hB.2 (j * 2) _ (dvs_get (by omega))
        have hp2 := hB.2 (j * 2 + 1) _ (dvs_get (by omega))
        rw [show dval F 17 (j * 2) = .complex .f64 y1 y3 by unfold dval; rw [show j * 2 / 2 = j by omega, show j * 2 % 2 = 0 by omega, if_pos ⟨hj3, hlt'⟩, if_pos rfl, hy]] at hp1
        rw [show dval F 17 (j * 2 + 1) = .float .f64 y5 by unfold dval; rw [show (j * 2 + 1) / 2 = j by omega, show (j * 2 + 1) % 2 = 1 by omega, if_pos ⟨hj3, hlt'⟩, if_neg (by decide), hy]] at hp2
        obtain ⟨hp1, hp1f⟩ := hp1
        obtain ⟨hp2, hp2f⟩ := hp2
        rw [hy] at HNX
        have HR := Lib.hid ((K.set (j := 0) (by intro y hy; simp only [List.mem_cons, List.not_mem_nil, or_false] at hy; rcases hy with rfl | rfl | rfl <;> simp <;> omega) _ (.complex .f64 y1 y3) rfl (by simp)).set (j := 1) (by intro y hy; simp only [List.mem_cons, List.not_mem_nil, or_false] at hy; rcases hy with rfl | rfl | rfl <;> simp <;> omega) _ (.float .f64 y5) rfl (by simp))
        clear hy hB
        go_wp2_with fail
        exact ⟨⟨j + 1, by have := HJ.out; omega, by have := HJ.out; omega, by rw [HNX.out], rfl, by rw [HNX.out]; exact HR.out⟩, by have := HJ.out; simp [intOf]; omega⟩
      · have HNX : Hid (wzF b F (j + 1) = wzF b F j) := Lib.hid (by
          unfold wzF
          by_cases h : 3 ≤ b ∧ b < j
          · rw [if_pos h, if_pos ⟨h.1, by omega⟩]
          · rw [if_neg h, if_neg (by omega)])
        generalize wzF b F j = x at *
        obtain ⟨⟨x1, x2⟩, r, t⟩ := x
        simp only at c1 c2 c3 c4 c5 K ⊢
        rw [if_neg hjb] at hbt
        clear hlt' hj3 hj17
        go_wp2_with fail
        exact ⟨⟨j + 1, by have := HJ.out; omega, by have := HJ.out; omega, by rw [HNX.out], rfl, by rw [HNX.out]; exact K⟩, by have := HJ.out; simp [intOf]; omega⟩
    · obtain rfl : j = 17 := by omega
      have hnl : ¬ ((17 : Nat) : Int) ≤ 16 := by decide
      obtain ⟨x, hx⟩ : ∃ x, wzF b F 17 = x := ⟨_, rfl⟩
      have HR0 : Hid (b < 3 → x.2.1 = 0) := Lib.hid (fun h => by rw [← hx]; unfold wzF; rw [if_neg (by omega)])
      rw [hx] at HF0
      simp only [hx] at c1 c2 c3 c4 c5 K ⊢
      subst HF0
      obtain ⟨⟨x1, x2⟩, r, t⟩ := x
      simp only at c1 c2 c3 c4 c5 K z1 z2 fz HR0 ⊢
      clear hx hlt' hj3 hj17
      go_upto_region 18 with (fail)
      have n1 : ¬ g9 = w.heap.size := by omega
      have n2 : ¬ w.heap.size = g9 := by omega
      have n3 : ¬ g9 + 1 = w.heap.size := by omega
      have n4 : ¬ w.heap.size = g9 + 1 := by omega
      go_region_held3 (fun w' => w'.cell? ⟨g9, 0, none⟩ = some (.int .i64 (q : Int)) ∧ w'.cell? ⟨g9, 1, none⟩ = some (.int .i64 (l : Int)) ∧ w'.cell? ⟨g9, 2, none⟩ = some (.bool mir) ∧ w'.cell? ⟨g9 + 1, 0, none⟩ = some (.complex .f64 x1 x2) ∧ w'.cell? ⟨g9 + 1, 1, none⟩ = some (.float .f64 r))
        (go_keep)
        (first
          | (go_at_call 54; apply Calls.withMm (w0 := w); (case K => (repeat (first | (with_reducible exact K) | (with_reducible apply Mm.drewN) | (with_reducible apply Mm.drew) | (with_reducible apply Mm.varz)))); intro KX; (with_reducible refine (laid_any (q : Int) (l : Int) mir x1 x2 q z1 z2 fz.1 fz.2 hqq hq4 _).mono ?_); rintro eA wA ⟨rfl, hbA⟩; have KA := KX.next hbA; clear hbA KX; obtain ⟨d1, d2, d3, d4, d5⟩ := (KA.blk (g := w.heap.size) (vs := [.complex .f64 0 0, .float .f64 0]) (by simp)).two; obtain ⟨c1, c2, c3, c4, c5⟩ := (KA.blk (g := g9 + 1) (vs := [.complex .f64 x1 x2, .float .f64 r]) (by simp)).two; have a1 := ((KA.blk (g := g9) (vs := [.int .i64 (q : Int), .int .i64 (l : Int), .bool mir]) (by simp)).2 0 _ rfl).1; have a3 := ((KA.blk (g := g9) (vs := [.int .i64 (q : Int), .int .i64 (l : Int), .bool mir]) (by simp)).2 1 _ rfl).1; have a5 := ((KA.blk (g := g9) (vs := [.int .i64 (q : Int), .int .i64 (l : Int), .bool mir]) (by simp)).2 2 _ rfl).1)
          | fail)
      all_goals (go_wp2_with fail)
      all_goals
        have KE := ((KA.pick (L' := [(w.heap.size, [.complex .f64 0 0, .float .f64 0])]) (l' := []) (by simp) (by simp)).set (by simp) (j := 0) (.complex .f64 0 0) (.complex .f64 (laidF mir q (x1, x2)).1 (laidF mir q (x1, x2)).2) rfl (by simp)).set (by simp) (j := 1) (.float .f64 0) (.float .f64 r) rfl (by simp)
        replace KE : Mm w [(w.heap.size, [.complex .f64 (laidF mir q (x1, x2)).1 (laidF mir q (x1, x2)).2, .float .f64 r])] [] _ := KE
        generalize (World.setCell (World.setCell _ _ _) _ _) = wE at KE ⊢
        clear d1 d2 d3 d4 d5 c1 c2 c3 c4 c5 a1 a3 a5
        obtain ⟨d1, d2, d3, d4, d5⟩ := (KE.blk (g := w.heap.size) (vs := [.complex .f64 (laidF mir q (x1, x2)).1 (laidF mir q (x1, x2)).2, .float .f64 r]) (by simp)).two
        exact bodyPost_ret (v := .tuple #[.agg #[.complex .f64 (laidF mir q (x1, x2)).1 (laidF mir q (x1, x2)).2, .float .f64 r], .int .i64 0]) (by simp [results, Tryz.results10, go_sem, d1, d2]) rfl ⟨r, rfl, HR0.out, KE.1⟩
end Go.Proofs.YtdmdaoginojalaaGreatDoor
