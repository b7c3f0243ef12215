/-
  Are numbers too long (exact.Long, ratio.Long, ratio.Answer), at any length.
  A complex number that is too long (argand.Answer, beam.answered).
  The square of the range, or the limit (in mode.Depth).
-/
import Derived.Test.YtmmplomkginadaaGreatDoorExX
import Derived.Test.YtmmplomkginadaaGreatDoorAnD
import Derived.Test.YtmmplomkginadaaGreatDoorBmC
namespace Go.Proofs.YtmmplomkginadaaGreatDoor
open Go.RowKit

/-- Is a number of the fraction too long? -/
def lgB (f : LmE) : Bool := decide (2048 < f.1.2.2.1) || decide (2048 < f.2.2.2.1)
/-- Is one of them? -/
def lgAll (F : Nat → LmE) : Nat → Bool
  | 0 => false
  | n + 1 => lgAll F n || lgB (F n)
theorem lgAll_yes {F : Nat → LmE} {k : Nat} (h : lgB (F k) = true) : ∀ {N : Nat}, k < N → lgAll F N = true
  | 0, hk => absurd hk (by omega)
  | n + 1, hk => by
    rcases Nat.lt_or_ge k n with h1 | h1
    · unfold lgAll; rw [lgAll_yes h h1]; rfl
    · obtain rfl : k = n := by omega
      unfold lgAll; rw [h]; simp
theorem lgAll_no {F : Nat → LmE} : ∀ {N : Nat}, (∀ k, k < N → lgB (F k) = false) → lgAll F N = false
  | 0, _ => rfl
  | n + 1, h => by unfold lgAll; rw [lgAll_no (fun k hk => h k (by omega)), h n (by omega)]; rfl

set_option maxRecDepth 100000 in
theorem ex_long1_any (neg : Bool) (A : Option Addr) (n c : Nat) (b : Bool) (w : World) (hb : Hid (decide (2048 < n) = b)) : Calls Tryz.prog 235 #[.agg #[.bool neg, .slice A n c]] w (RetV w (.bool b)) := by
  have hl : decide ((2048 : Int) < (n : Int)) = b := by
    rw [← hb.out]
    by_cases h : 2048 < n
    · rw [decide_eq_true h, decide_eq_true (by omega)]
    · rw [decide_eq_false h, decide_eq_false (by omega)]
  go_enter Tryz.func235, Tryz.ntmps235
  cases b with
  | true =>
    have hl2 : (2048 : Int) < (n : Int) := of_decide_eq_true hl
    clear hl
    go_wp2_with fail
    go_ret
    exact ⟨rfl, (Below.refl _ _).alloc (Nat.le_refl _) _⟩
  | false =>
    have hl2 : ¬ (2048 : Int) < (n : Int) := of_decide_eq_false hl
    clear hl
    go_wp2_with fail
    go_ret
    exact ⟨rfl, (Below.refl _ _).alloc (Nat.le_refl _) _⟩

set_option maxRecDepth 100000 in
set_option maxHeartbeats 800000 in
theorem index_any (g : Nat) (neg : Bool) (A : Option Addr) (n c : Nat) (b : Bool) (v : Int) (w : World) (hg : g < w.heap.size) (c0 : w.cell? ⟨g, 0, none⟩ = some (.bool neg)) (c1 : w.cell? ⟨g, 1, none⟩ = some (.slice A n c)) (hb : Hid (decide (2048 < n) = b)) (hv : Hid ((if b then (0 : Int) else -1) = v)) :
    Calls Tryz.prog 292 #[.slice (some ⟨g, 0, none⟩) 1 1, .func (.func 235) #[] #[]] w (RetV w (.int .i64 v)) := by
  go_enter Tryz.func292, Tryz.ntmps292
  go_wp2_with fail
  go_loopw [8] (fun i wr => ∃ k : Nat, k ≤ 1 ∧ i = .int .i64 (k : Int) ∧ Below w.heap.size w wr ∧ (k = 1 → b = false)) (fun i _ => 1 - (intOf i).toNat)
  case atStart => exact ⟨0, Nat.zero_le _, rfl, Below.refl _ _, fun h => absurd h (by decide)⟩
  case round =>
    obtain ⟨k, hk, rfl, hb0, hbf⟩ := hrel
    match k, hk with
    | 0, _ =>
      clear hbf
      have d0 := (hb0.cell (p := ⟨g, 0, none⟩) hg).trans c0
      have d1 := (hb0.cell (p := ⟨g, 1, none⟩) hg).trans c1
      have hsz := hb0.size
      go_wp2_with fail
      refine (ex_long1_any neg A n c b _ hb).mono ?_
      rintro e1 w1 ⟨rfl, hb1⟩
      have hb2 := hb0.trans (hb1.mono hsz)
      cases b with
      | true =>
        go_wp2_with fail
        go_ret
        exact ⟨by rw [← hv.out]; rfl, hb2⟩
      | false =>
        go_wp2_with fail
        refine ⟨⟨1, by decide, rfl, hb2, by simp⟩, ?_⟩
        simp [intOf]
    | 1, _ =>
      obtain rfl := hbf rfl
      go_wp2_with fail
      go_ret
      exact ⟨by rw [← hv.out]; rfl, hb0⟩
theorem contains_any (g : Nat) (neg : Bool) (A : Option Addr) (n c : Nat) (b : Bool) (w : World) (hg : g < w.heap.size) (c0 : w.cell? ⟨g, 0, none⟩ = some (.bool neg)) (c1 : w.cell? ⟨g, 1, none⟩ = some (.slice A n c)) (hb : Hid (decide (2048 < n) = b)) :
    Calls Tryz.prog 234 #[.slice (some ⟨g, 0, none⟩) 1 1, .func (.func 235) #[] #[]] w (RetV w (.bool b)) := by
  go_enter Tryz.func234, Tryz.ntmps234
  go_wp2_with fail
  obtain ⟨v, hv⟩ : ∃ v, (if b then (0 : Int) else -1) = v := ⟨_, rfl⟩
  refine (index_any g neg A n c b v _ hg c0 c1 hb (Lib.hid hv)).mono ?_
  rintro e1 w1 ⟨rfl, hb1⟩
  cases b with
  | true =>
    obtain rfl : (0 : Int) = v := hv
    go_wp2_with fail
    go_ret
    exact ⟨rfl, hb1⟩
  | false =>
    obtain rfl : (-1 : Int) = v := hv
    go_wp2_with fail
    go_ret
    exact ⟨rfl, hb1⟩
theorem ex_long_any (g : Nat) (neg : Bool) (A : Option Addr) (n c : Nat) (b : Bool) (w : World) (hg : g < w.heap.size) (c0 : w.cell? ⟨g, 0, none⟩ = some (.bool neg)) (c1 : w.cell? ⟨g, 1, none⟩ = some (.slice A n c)) (hb : Hid (decide (2048 < n) = b)) :
    Calls Tryz.prog 121 #[.slice (some ⟨g, 0, none⟩) 1 1] w (RetV w (.bool b)) := by
  go_enter Tryz.func121, Tryz.ntmps121
  go_wp2_with fail
  refine (contains_any g neg A n c b _ hg c0 c1 hb).mono ?_
  rintro e1 w1 ⟨rfl, hb1⟩
  go_wp2_with fail
  go_ret
  exact ⟨rfl, hb1⟩

set_option maxRecDepth 100000 in
set_option maxHeartbeats 6400000 in
theorem rat_long_any (g N c : Nat) (F : Nat → LmE) (w : World) (hL : Lfs w g N F) (hN : N ≤ 1000) (_hc : N ≤ c) :
    Calls Tryz.prog 120 #[.slice (some ⟨g, 0, none⟩) N c] w (RetV w (.bool (lgAll F N))) := by
  go_enter Tryz.func120, Tryz.ntmps120
  go_wp2_with fail
  go_loopw [7] (fun i wr => ∃ k : Nat, k ≤ N ∧ i = .int .i64 (k : Int) ∧ Below w.heap.size w wr ∧ Hid (∀ j, j < k → lgB (F j) = false)) (fun i _ => N - (intOf i).toNat)
  case atStart => exact ⟨0, Nat.zero_le _, rfl, Below.refl _ _, Lib.hid (fun j hj => absurd hj (by omega))⟩
  case round =>
    obtain ⟨k, hk, rfl, hb, HN⟩ := hrel
    by_cases hlt : k < N
    · obtain ⟨hg1, hall⟩ := hL.next hb
      obtain ⟨⟨a0, a1, a2, a3⟩, _⟩ := hall k hlt
      obtain ⟨f, hf⟩ : ∃ f, F k = f := ⟨_, rfl⟩
      have HF := Lib.hid hf
      rw [hf] at a0 a1 a2 a3
      obtain ⟨⟨neg, A, n, c1, l⟩, neg', A', n', c1', l'⟩ := f
      simp only at a0 a1 a2 a3
      obtain ⟨b1, hb1⟩ : ∃ b, decide (2048 < n) = b := ⟨_, rfl⟩
      obtain ⟨b2, hb2⟩ : ∃ b, decide (2048 < n') = b := ⟨_, rfl⟩
      have HB : Hid (lgB (F k) = (b1 || b2)) := Lib.hid (by rw [hf]; unfold lgB; rw [← hb1, ← hb2])
      have HB1 := Lib.hid hb1
      have HB2 := Lib.hid hb2
      have hlt' : (k : Int) < (N : Int) := by omega
      have hk0 : (0 : Int) ≤ (k : Int) := Int.natCast_nonneg _
      have HLT := Lib.hid hlt
      have hsz := hb.size
      clear hall hf hlt hb1 hb2
      have K0 := (Mm.nil wr).var (g := wr.heap.size) rfl [.bool neg, .slice A n c1, .bool neg', .slice A' n' c1'] 26
      go_upto_region 4 with (fail)
      generalize wr.alloc (.cells #[.bool neg, .slice A n c1, .bool neg', .slice A' n' c1'] 26) = w0 at K0 ⊢
      obtain ⟨⟨qa0, qb0, qc0, qd0⟩, _, _⟩ := (K0.blk (g := wr.heap.size) (vs := [.bool neg, .slice A n c1, .bool neg', .slice A' n' c1']) (by simp)).four
      go_wp2_with fail
      refine (ex_long_any w0.heap.size neg A n c1 b1 _ (by simp) (by simp [go_sem]) (by simp [go_sem]) HB1).mono ?_
      rintro e1 w1 ⟨rfl, hb1⟩
      have K1 := K0.next (below_box hb1)
      obtain ⟨⟨qa1, qb1, qc1, qd1⟩, _, _⟩ := (K1.blk (g := wr.heap.size) (vs := [.bool neg, .slice A n c1, .bool neg', .slice A' n' c1']) (by simp)).four
      clear K0 hb1 qa0 qb0 qc0 qd0
      cases b1 with
      | true =>
        have hb3 := hb.trans (K1.1.mono hsz)
        have HR := Lib.hid (lgAll_yes (F := F) (k := k) (by rw [HB.out]; rfl) HLT.out)
        go_wp2_with fail
        go_ret
        exact ⟨by rw [HR.out]; rfl, hb3⟩
      | false =>
        go_wp2_with fail
        refine (ex_long_any w1.heap.size neg' A' n' c1' b2 _ (by simp) (by simp [go_sem]) (by simp [go_sem]) HB2).mono ?_
        rintro e2 w2 ⟨rfl, hb2⟩
        have K2 := K1.next (below_box hb2)
        have hb3 := hb.trans (K2.1.mono hsz)
        clear K1 K2 hb2
        cases b2 with
        | true =>
          have HR := Lib.hid (lgAll_yes (F := F) (k := k) (by rw [HB.out]; rfl) HLT.out)
          go_wp2_with fail
          go_ret
          exact ⟨by rw [HR.out]; rfl, hb3⟩
        | false =>
          have HN2 : Hid (∀ j, j < k + 1 → lgB (F j) = false) := Lib.hid (fun j hj => by
            rcases Nat.lt_or_ge j k with h | h
            · exact HN.out j h
            · obtain rfl : j = k := by omega
              rw [HB.out]; rfl)
          clear HN HB
          go_wp2_with fail
          go_roundw
          case rel => exact ⟨k + 1, HLT.out, rfl, hb3, HN2⟩
          case measure => have := HLT.out; simp [intOf]; omega
    · obtain rfl : k = N := by omega
      have hnl : ¬ (k : Int) < (k : Int) := by omega
      have HR := Lib.hid (lgAll_no HN.out)
      go_wp2_with fail
      go_ret
      exact ⟨by rw [HR.out]; rfl, hb⟩
theorem rat_answer_any (g N c : Nat) (F : Nat → LmE) (v : Int) (w : World) (hL : Lfs w g N F) (hN : N ≤ 1000) (hc : N ≤ c) (hv : Hid ((if lgAll F N then (4 : Int) else 0) = v)) :
    Calls Tryz.prog 243 #[.slice (some ⟨g, 0, none⟩) N c] w (RetV w (.int .i64 v)) := by
  obtain ⟨b, hb⟩ : ∃ b, lgAll F N = b := ⟨_, rfl⟩
  have HB := Lib.hid hb
  have HV : Hid ((if b then (4 : Int) else 0) = v) := Lib.hid (by rw [← hb]; exact hv.out)
  clear hb hv
  go_enter Tryz.func243, Tryz.ntmps243
  go_wp2_with fail
  refine (rat_long_any g N c F _ hL hN hc).mono ?_
  rintro e1 w1 ⟨rfl, hb1⟩
  rw [HB.out]
  cases b with
  | true =>
    obtain rfl : (4 : Int) = v := HV.out
    go_wp2_with fail
    go_ret
    exact ⟨rfl, hb1⟩
  | false =>
    obtain rfl : (0 : Int) = v := HV.out
    go_wp2_with fail
    go_ret
    exact ⟨rfl, hb1⟩
end Go.Proofs.YtmmplomkginadaaGreatDoor

namespace Go.Proofs.YtmmplomkginadaaGreatDoor
open Go.RowKit

theorem lg_of {w : World} {s z : Bool} {A B : Option Addr} {n c m d : Nat} {l k : List Nat} {x : Rat} (hI : IsInt w s A n c x.num) (hJ : IsInt w z B m d (x.den : Int)) (h : ¬ Sz x 2048) : lgB ((s, A, n, c, l), (z, B, m, d, k)) = true := by
  unfold lgB
  simp only [Bool.or_eq_true, decide_eq_true_eq]
  by_cases h1 : 2048 < n
  · exact .inl h1
  · by_cases h2 : 2048 < m
    · exact .inr h2
    · exact absurd (sz_of hI hJ (by omega) (by omega)) h

end Go.Proofs.YtmmplomkginadaaGreatDoor

namespace Go.Proofs.YtmmplomkginadaaGreatDoor
open Go.RowKit

theorem lfs_one (w : World) {g : Nat} (hg : w.heap.size = g) (t : TypeId) {a : LmE} (ha : LmE.at_ w a) : Lfs (w.alloc (.cells a.vs.toArray t)) g 1 (fun _ => a) := by
  have hB := Blk.new w hg a.vs t
  have hn : Below w.heap.size w (w.alloc (.cells a.vs.toArray t)) := (Below.refl _ _).alloc (Nat.le_refl _) _
  refine ⟨hB.1, fun i hi => ?_⟩
  match i, hi with
  | 0, _ => exact ⟨⟨(hB.2 0 _ rfl).1, (hB.2 1 _ rfl).1, (hB.2 2 _ rfl).1, (hB.2 3 _ rfl).1⟩, LmE.at_.below ha hn⟩

end Go.Proofs.YtmmplomkginadaaGreatDoor
