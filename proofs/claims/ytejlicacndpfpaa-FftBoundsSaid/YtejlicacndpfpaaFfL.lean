/-
  What is so of whoever does something at all (polestarlaw21.alive); rows that are too long (fft.Energy).
-/
import Derived.Test.YtejlicacndpfpaaFfE
import Derived.Test.YtejlicacndpfpaaFfB
namespace Go.Proofs.Ytejlicacndpfpaa
open Go.RowKit

set_option maxRecDepth 100000 in
set_option maxHeartbeats 1600000 in
theorem energy_big (A : Option Addr) (N c : Nat) (w : World) (hN : 65536 < N) :
    Calls Try.prog 31 #[.slice A N c] w (fun e w' => e = .returned (.tuple #[.agg #[.float .f64 0, .float .f64 0], .int .i64 4]) ∧ Below w.heap.size w w') := by
  have hN' : (65536 : Int) < (N : Int) := by omega
  go_enter Try.func31, Try.ntmps31
  go_wp2_with fail
  exact bodyPost_ret (v := .tuple #[.agg #[.float .f64 0, .float .f64 0], .int .i64 4]) (by simp [results, Try.results31, go_sem]) rfl ⟨rfl, by first | exact (Below.refl _ _).alloc (Nat.le_refl _) _ | exact (((Below.refl _ _).alloc (Nat.le_refl _) _).setCell (Nat.le_refl _) _).setCell (Nat.le_refl _) _⟩
theorem IsOp.val {f : Nat → Nat → Option Nat} {x y z r : Nat} (h : IsOp f x y z) (e : f x y = some r) : z = r := by
  have := h.2
  rw [e] at this
  exact this
/-- The two elements 1 and 2 become 3 and -1. -/
theorem one_two {r1 r2 : Nat × Nat} (h : StepR (uF (jF 0 1)) (4607182418800017408, 0) (4611686018427387904, 0) r1 r2) :
    ((Ieee.double.order r1.1 4613937818241073152 == some .eq) && (Ieee.double.order r1.2 0 == some .eq)) = true ∧ ((Ieee.double.order r2.1 13830554455654793216 == some .eq) && (Ieee.double.order r2.2 0 == some .eq)) = true := by
  obtain ⟨t1, t2, hm, ha, hs⟩ := h
  rw [show uF (jF 0 1) = (4607182418800017408, 0) by decide +kernel] at hm
  obtain ⟨⟨p, q, m1, m2, m3⟩, ⟨p', q', m4, m5, m6⟩⟩ := hm
  obtain rfl := m1.val (r := 4611686018427387904) (by decide +kernel)
  obtain rfl := m2.val (r := 0) (by decide +kernel)
  obtain rfl := m3.val (r := 4611686018427387904) (by decide +kernel)
  obtain rfl := m4.val (r := 0) (by decide +kernel)
  obtain rfl := m5.val (r := 0) (by decide +kernel)
  obtain rfl := m6.val (r := 0) (by decide +kernel)
  have a1 := ha.1.val (r := 4613937818241073152) (by decide +kernel)
  have a2 := ha.2.val (r := 0) (by decide +kernel)
  have s1 := hs.1.val (r := 13830554455654793216) (by decide +kernel)
  have s2 := hs.2.val (r := 0) (by decide +kernel)
  rw [a1, a2, s1, s2]
  decide +kernel
theorem last_two : LastFew [(0, 0), (4613937818241073152, 0)] 2 := by
  intro i z h
  match i, h with
  | 0, h => injection h with h; subst h; exact ⟨rfl, .inl rfl, .inl rfl⟩
  | 1, h => injection h with h; subst h; exact ⟨rfl, .inr rfl, .inr rfl⟩
  | i + 2, h => exact absurd h (by simp)
theorem last_nought (N : Nat) : LastFew (List.replicate N (0, 0)) N := fun i z h => by
  have := List.mem_of_getElem? h
  rw [List.eq_of_mem_replicate this]
  exact ⟨rfl, .inl rfl, .inl rfl⟩
theorem own_two {w : World} {base g : Nat} {out : List (Nat × Nat)} (h : w.ownsRow base 111 1 (.slice (some ⟨g, 0, none⟩) 2 2) 2 (cxs out)) {r1 r2 : Nat × Nat} (ho : out = [r1, r2]) :
    w.cell? ⟨g, 0, none⟩ = some (.complex .f64 r1.1 r1.2) ∧ w.cell? ⟨g, 1, none⟩ = some (.complex .f64 r2.1 r2.2) := by
  subst ho
  exact ⟨cx_at h (j := 0) (by simp), cx_at h (j := 1) (by simp)⟩
set_option maxRecDepth 100000 in
set_option maxHeartbeats 3200000 in
theorem alive21 (w : World) : Calls Try.prog 32 #[] w (RetV w (.bool true)) := by
  have H3 : Hid (ffSize 3 = (0, 1)) := Lib.hid (by decide)
  go_enter Try.func32, Try.ntmps32
  go_wp2_with fail
  have r0 : Reads (w.alloc (.cells #[.complex .f64 4607182418800017408 0, .complex .f64 4611686018427387904 0] 111)) (w.alloc (.cells #[.complex .f64 4607182418800017408 0, .complex .f64 4611686018427387904 0] 111)).heap.size (some ⟨w.heap.size, 0, none⟩) 2 (cxs [(4607182418800017408, 0), (4611686018427387904, 0)]) := reads_new w 111 (cxs [(4607182418800017408, 0), (4611686018427387904, 0)])
  have hb0 : Below w.heap.size w (w.alloc (.cells #[.complex .f64 4607182418800017408 0, .complex .f64 4611686018427387904 0] 111)) := (Below.refl _ _).alloc (Nat.le_refl _) _
  generalize w.alloc (.cells #[.complex .f64 4607182418800017408 0, .complex .f64 4611686018427387904 0] 111) = w0 at r0 hb0 ⊢
  refine (forward_ok (some ⟨w.heap.size, 0, none⟩) 2 1 [(4607182418800017408, 0), (4611686018427387904, 0)] w0 r0 (by unfold Cok; decide) (by decide) (by decide)).mono ?_
  rintro e1 w1 ⟨g, out, rfl, hown, hl, hb1, hk⟩
  obtain ⟨r1, r2, ho, hst⟩ := (hk _ _ rfl).1 trivial
  obtain ⟨E1, E2⟩ := one_two hst
  obtain ⟨⟨a1, a2⟩, hr1⟩ : ∃ x, r1 = x := ⟨_, rfl⟩
  obtain ⟨⟨b1, b2⟩, hr2⟩ : ∃ x, r2 = x := ⟨_, rfl⟩
  subst hr1 hr2
  have hbw1 : Below w.heap.size w w1 := below_next hb0 hb1
  have HO := Lib.hid ho
  clear hk hst ho hl r0 hb0 hb1
  go_wp2_with fail
  refine (forward_no _ 3 3 1 _ (by decide) H3 (by decide)).mono ?_
  rintro e2 w2 ⟨rfl, rfl⟩
  go_upto_region 3 with (fail)
  have hown2 := own_kept hown ((Below.refl w1.heap.size w1).alloc (Nat.le_refl _) (.cells #[.complex .f64 4607182418800017408 0, .complex .f64 4611686018427387904 0, .complex .f64 4613937818241073152 0] 111))
  have hbw2 := hbw1.trans (((Below.refl w1.heap.size w1).alloc (Nat.le_refl _) (.cells #[.complex .f64 4607182418800017408 0, .complex .f64 4611686018427387904 0, .complex .f64 4613937818241073152 0] 111)).mono hbw1.size)
  generalize w1.alloc (.cells #[.complex .f64 4607182418800017408 0, .complex .f64 4611686018427387904 0, .complex .f64 4613937818241073152 0] 111) = w3 at hown2 hbw2 ⊢
  go_wp2_with fail
  have r3 : Reads (w3.alloc (.cells #[.complex .f64 0 0, .complex .f64 4613937818241073152 0] 111)) (w3.alloc (.cells #[.complex .f64 0 0, .complex .f64 4613937818241073152 0] 111)).heap.size (some ⟨w3.heap.size, 0, none⟩) 2 (cxs [(0, 0), (4613937818241073152, 0)]) := reads_new w3 111 (cxs [(0, 0), (4613937818241073152, 0)])
  have hown4 := own_kept hown2 ((Below.refl w3.heap.size w3).alloc (Nat.le_refl _) (.cells #[.complex .f64 0 0, .complex .f64 4613937818241073152 0] 111))
  have hbw4 := hbw2.trans (((Below.refl w3.heap.size w3).alloc (Nat.le_refl _) (.cells #[.complex .f64 0 0, .complex .f64 4613937818241073152 0] 111)).mono hbw2.size)
  generalize w3.alloc (.cells #[.complex .f64 0 0, .complex .f64 4613937818241073152 0] 111) = w4 at r3 hown4 hbw4 ⊢
  refine (energy_few (some ⟨w3.heap.size, 0, none⟩) 2 2 [(0, 0), (4613937818241073152, 0)] w4 r3 (by decide) last_two).mono ?_
  rintro e5 w5 ⟨x, rfl, hb5⟩
  have hown5 := own_kept hown4 hb5
  have hbw5 := below_next hbw4 hb5
  clear hown hown2 hown4 hbw1 hbw2 hbw4 r3 hb5
  go_upto_region 4 with (fail)
  have hown6 := own_kept hown5 ((Below.refl w5.heap.size w5).alloc (Nat.le_refl _) (.cells #[.float .f64 x, .float .f64 x] 69))
  have hbw6 := hbw5.trans (((Below.refl w5.heap.size w5).alloc (Nat.le_refl _) (.cells #[.float .f64 x, .float .f64 x] 69)).mono hbw5.size)
  generalize w5.alloc (.cells #[.float .f64 x, .float .f64 x] 69) = w6 at hown6 hbw6 ⊢
  obtain ⟨c1, c2⟩ := own_two hown6 HO.out
  simp only at E1 E2 c1 c2
  clear hown5 hbw5 hown6
  go_wp2_with fail
  go_ret
  exact ⟨rfl, hbw6⟩
end Go.Proofs.Ytejlicacndpfpaa
