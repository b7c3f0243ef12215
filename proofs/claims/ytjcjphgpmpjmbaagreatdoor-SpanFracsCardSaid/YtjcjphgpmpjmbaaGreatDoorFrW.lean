/-
  Spans: the reference (what may be, what lies within, what both have, the least that has both).
  The references' spans (polestarref05): the floats at a fraction, the least span from one fraction to another one.
-/
import Derived.Test.YtjcjphgpmpjmbaaGreatDoorSpnW
import Derived.Test.YtjcjphgpmpjmbaaGreatDoorFrV
import Derived.Test.YtjcjphgpmpjmbaaGreatDoorSpnR
namespace Go.Proofs.YtjcjphgpmpjmbaaGreatDoor
open Go.RowKit

theorem ref5_finite_any (x : Nat) (w : World) : Calls Tryz.prog 75 #[.float .f64 x] w (RetV w (.bool (Flt.finB x))) := by
  have K : Hid (∀ t, IsOp Ieee.double.sub x x t → (Ieee.double.order t 0 == some .eq) = Flt.finB x) := Lib.hid (fun t h => sub_self h)
  go_enter Tryz.func75, Tryz.ntmps75
  go_wp2_with (refine wpList_fsub _ rfl rfl ?_; intro t d hs; have e := K.out _ hs; clear hs K)
  go_ret
  exact ⟨rfl, below_drewN (Below.refl _ _) _⟩

def okI (lo hi : Nat) : Int := if okS lo hi then 0 else 1
set_option maxRecDepth 100000 in
theorem ref_check_any (lo hi : Nat) (w : World) : Calls Tryz.prog 37 #[.agg #[.float .f64 lo, .float .f64 hi]] w (RetV w (.int .i64 (okI lo hi))) := by
  cases h1 : Flt.finB lo with
  | false =>
    have HF : Hid (okI lo hi = 1) := Lib.hid (by unfold okI okS; rw [h1]; rfl)
    rw [HF.out]
    go_enter Tryz.func37, Tryz.ntmps37
    go_wp2_with fail
    refine (ref5_finite_any lo _).mono ?_
    rintro e1 w1 ⟨rfl, hb1⟩
    rw [h1]
    go_wp2_with fail
    go_ret
    exact ⟨rfl, below_box hb1⟩
  | true =>
    cases h2 : Flt.finB hi with
    | false =>
      have HF : Hid (okI lo hi = 1) := Lib.hid (by unfold okI okS; rw [h1, h2]; rfl)
      rw [HF.out]
      go_enter Tryz.func37, Tryz.ntmps37
      go_wp2_with fail
      refine (ref5_finite_any lo _).mono ?_
      rintro e1 w1 ⟨rfl, hb1⟩
      rw [h1]
      have k0 := (bcell hb1).1 w.heap.size 0 (by simp)
      have k1 := (bcell hb1).1 w.heap.size 1 (by simp)
      go_wp2_with fail
      refine (ref5_finite_any hi _).mono ?_
      rintro e2 w2 ⟨rfl, hb2⟩
      rw [h2]
      go_wp2_with fail
      go_ret
      exact ⟨rfl, below_box (below_next hb1 hb2)⟩
    | true =>
      cases h3 : (Ieee.double.order lo hi == some .gt) with
      | true =>
        have HF : Hid (okI lo hi = 1) := Lib.hid (by unfold okI okS; rw [h1, h2, h3]; rfl)
        rw [HF.out]
        go_enter Tryz.func37, Tryz.ntmps37
        go_wp2_with fail
        refine (ref5_finite_any lo _).mono ?_
        rintro e1 w1 ⟨rfl, hb1⟩
        rw [h1]
        have k0 := (bcell hb1).1 w.heap.size 0 (by simp)
        have k1 := (bcell hb1).1 w.heap.size 1 (by simp)
        go_wp2_with fail
        refine (ref5_finite_any hi _).mono ?_
        rintro e2 w2 ⟨rfl, hb2⟩
        rw [h2]
        have hs := hb1.size
        have j0 := ((bcell hb2).1 w.heap.size 0 (by simp at hs ⊢ <;> omega)).trans k0
        have j1 := ((bcell hb2).1 w.heap.size 1 (by simp at hs ⊢ <;> omega)).trans k1
        go_wp2_with fail
        go_ret
        exact ⟨rfl, below_box (below_next hb1 hb2)⟩
      | false =>
        have HF : Hid (okI lo hi = 0) := Lib.hid (by unfold okI okS; rw [h1, h2, h3]; rfl)
        rw [HF.out]
        go_enter Tryz.func37, Tryz.ntmps37
        go_wp2_with fail
        refine (ref5_finite_any lo _).mono ?_
        rintro e1 w1 ⟨rfl, hb1⟩
        rw [h1]
        have k0 := (bcell hb1).1 w.heap.size 0 (by simp)
        have k1 := (bcell hb1).1 w.heap.size 1 (by simp)
        go_wp2_with fail
        refine (ref5_finite_any hi _).mono ?_
        rintro e2 w2 ⟨rfl, hb2⟩
        rw [h2]
        have hs := hb1.size
        have j0 := ((bcell hb2).1 w.heap.size 0 (by simp at hs ⊢ <;> omega)).trans k0
        have j1 := ((bcell hb2).1 w.heap.size 1 (by simp at hs ⊢ <;> omega)).trans k1
        go_wp2_with fail
        go_ret
        exact ⟨rfl, below_box (below_next hb1 hb2)⟩
end Go.Proofs.YtjcjphgpmpjmbaaGreatDoor

namespace Go.Proofs.YtjcjphgpmpjmbaaGreatDoor
open Go.RowKit

/-- The float is what a fraction comes to when it is rounded down; up. -/
def DownR (x : Rat) (d : Nat) : Prop := Down (x.num * ((2 ^ Flt.K74 : Nat) : Int)) x.den d
def UpR (x : Rat) (u : Nat) : Prop := Up (x.num * ((2 ^ Flt.K74 : Nat) : Int)) x.den u
def AtR (x : Rat) (d u : Nat) : Prop := DownR x d ∧ UpR x u ∧ pz d = d
theorem brk_at {x : Rat} {d u : Nat} (h : Brk (decide (x.num < 0)) (x.num.natAbs * 2 ^ (0 + 1074 : Int).toNat) (x.den * 2 ^ (-(0 + 1074) : Int).toNat) d u) : AtR x d u := by
  have e1 : (0 + 1074 : Int).toNat = Flt.K74 := rfl
  have e2 : (-(0 + 1074) : Int).toNat = 0 := rfl
  rw [e1, e2, Nat.pow_zero, Nat.mul_one] at h
  have hp := Nat.two_pow_pos Flt.K74
  obtain ⟨K, hK⟩ : ∃ K, 2 ^ Flt.K74 = K := ⟨_, rfl⟩
  unfold AtR DownR UpR
  rw [hK] at h hp ⊢
  clear hK e1 e2
  have hd := x.den_pos
  have hz : x.num * (K : Int) = if decide (x.num < 0) = true then -((x.num.natAbs * K : Nat) : Int) else ((x.num.natAbs * K : Nat) : Int) := by
    rw [Int.natCast_mul]
    by_cases hn : x.num < 0
    · rw [if_pos (decide_eq_true hn), ← Int.neg_mul]
      congr 1
      omega
    · rw [if_neg (by rw [decide_eq_false hn]; decide)]
      congr 1
      omega
  have hb := brk_down hd hz h
  refine ⟨hb.1, hb.2, ?_⟩
  obtain ⟨r, h1, h2, h3⟩ := h
  unfold pz
  by_cases hn : x.num < 0
  · rw [decide_eq_true hn] at h2
    simp only [if_true] at h2
    have hh : 0 < hiR (x.num.natAbs * K) x.den r := by
      unfold hiR
      split
      · rename_i he
        rcases Nat.eq_zero_or_pos r with k | k
        · subst k
          rw [Flt.val_zero, Nat.zero_mul] at he
          have : 0 < x.num.natAbs * K := Nat.mul_pos (by omega) hp
          omega
        · exact k
      · omega
    have hi : hiR (x.num.natAbs * K) x.den r ≤ Flt.inf := by
      have h4 := h1.1
      unfold hiR
      split <;> omega
    have hil := Flt.inf_lt
    have : Flt.rg d = hiR (x.num.natAbs * K) x.den r := by
      rw [h2]
      unfold Flt.rg
      omega
    rw [if_neg (by omega)]
  · rw [decide_eq_false hn] at h2
    simp only [Bool.false_eq_true, if_false] at h2
    split
    · rename_i h0
      have h4 := h1.1
      have hil := Flt.inf_lt
      rw [h2] at h0 ⊢
      unfold Flt.rg at h0
      omega
    · rfl
set_option maxRecDepth 100000 in
set_option maxHeartbeats 800000 in
theorem ref4_at_any (neg neg' : Bool) (A A' : Option Addr) (n c n' c' : Nat) (x : Rat) (m : Nat) (w : World) (hx : IsInt w neg A n c x.num) (hx' : IsInt w neg' A' n' c' (x.den : Int)) (sx : Sz x m) (hm : m ≤ 10000) :
    Calls Tryz.prog 110 #[.agg #[.bool neg, .slice A n c, .bool neg', .slice A' n' c']] w (RetPair w (AtR x)) := by
  have K0 := (((((Mm.nil w).int hx).int hx').var (g := w.heap.size) rfl [.bool neg, .slice A n c, .bool neg', .slice A' n' c'] 29))
  have hn := int_len hx sx.1
  have hn' := int_len hx' sx.2
  clear hx hx' sx
  go_enter Tryz.func110, Tryz.ntmps110
  go_wp2_with fail
  refine (ref_beside_frac neg neg' A A' n c n' c' x.num 0 x.den _ _ _ (K0.at_ (by simp)) (K0.at_ (by simp)) (by omega) (by omega) x.den_nz (by omega) (Lib.hid rfl) (Lib.hid rfl)).mono ?_
  rintro e1 w1 ⟨d, u, rfl, hB, hb1⟩
  have HB := Lib.hid (brk_at hB)
  have K1 := K0.next hb1
  clear hB hb1
  go_wp2_with fail
  go_ret2
  exact ⟨d, u, rfl, HB.out, K1.1⟩
def RetFl (W : World) (P : Nat → Prop) (e : Ending) (w' : World) : Prop := ∃ d, e = .returned (.float .f64 d) ∧ P d ∧ Below W.heap.size W w'
set_option maxRecDepth 100000 in
set_option maxHeartbeats 800000 in
theorem ref5_down_any (neg neg' : Bool) (A A' : Option Addr) (n c n' c' : Nat) (x : Rat) (m : Nat) (w : World) (hx : IsInt w neg A n c x.num) (hx' : IsInt w neg' A' n' c' (x.den : Int)) (sx : Sz x m) (hm : m ≤ 10000) :
    Calls Tryz.prog 68 #[.agg #[.bool neg, .slice A n c, .bool neg', .slice A' n' c']] w (RetFl w fun d => DownR x d ∧ pz d = d) := by
  have K0 := (((((Mm.nil w).int hx).int hx').var (g := w.heap.size) rfl [.bool neg, .slice A n c, .bool neg', .slice A' n' c'] 29))
  have SX := Lib.hid sx
  clear hx hx' sx
  go_enter Tryz.func68, Tryz.ntmps68
  go_wp2_with fail
  refine (ref4_at_any neg neg' A A' n c n' c' x m _ (K0.at_ (by simp)) (K0.at_ (by simp)) SX.out hm).mono ?_
  rintro e1 w1 ⟨d, u, rfl, hB, hb1⟩
  have HB := Lib.hid hB
  have K1 := K0.next hb1
  clear hB hb1
  go_wp2_with fail
  go_ret
  exact ⟨d, rfl, ⟨HB.out.1, HB.out.2.2⟩, K1.1⟩
theorem eq_nought {u : Nat} (h : ¬ Flt.Nan u) : (Ieee.double.order u 0 == some .eq) = decide (Flt.rg u = 0) := by
  rw [Flt.eq_spec h nan_zero, sv_zero]
  have := Flt.sv_zero_iff (x := u)
  by_cases k : Flt.rg u = 0
  · rw [decide_eq_true k, decide_eq_true (this.2 k)]
  · rw [decide_eq_false k, decide_eq_false (fun e => k (this.1 e))]
theorem up_not_nan' {num : Int} {den u : Nat} (h : Up num den u) : ¬ Flt.Nan u := fun k => by
  have := h.2.1
  unfold Flt.Nan at k
  omega
set_option maxRecDepth 100000 in
set_option maxHeartbeats 800000 in
theorem ref5_up_any (neg neg' : Bool) (A A' : Option Addr) (n c n' c' : Nat) (x : Rat) (m : Nat) (w : World) (hx : IsInt w neg A n c x.num) (hx' : IsInt w neg' A' n' c' (x.den : Int)) (sx : Sz x m) (hm : m ≤ 10000) :
    Calls Tryz.prog 69 #[.agg #[.bool neg, .slice A n c, .bool neg', .slice A' n' c']] w (RetFl w fun d => ∃ u, UpR x u ∧ d = pz u) := by
  have K0 := (((((Mm.nil w).int hx).int hx').var (g := w.heap.size) rfl [.bool neg, .slice A n c, .bool neg', .slice A' n' c'] 29))
  have SX := Lib.hid sx
  clear hx hx' sx
  go_enter Tryz.func69, Tryz.ntmps69
  go_wp2_with fail
  refine (ref4_at_any neg neg' A A' n c n' c' x m _ (K0.at_ (by simp)) (K0.at_ (by simp)) SX.out hm).mono ?_
  rintro e1 w1 ⟨d, u, rfl, hB, hb1⟩
  have K1 := K0.next hb1
  have hq := eq_nought (up_not_nan' hB.2.1)
  have HU := Lib.hid hB.2.1
  clear hB hb1
  by_cases h0 : Flt.rg u = 0
  · have HZ : Hid (0 = pz u) := Lib.hid (by unfold pz; rw [if_pos h0])
    rw [decide_eq_true h0] at hq
    clear h0
    go_wp2_with fail
    go_ret
    exact ⟨0, rfl, ⟨u, HU.out, HZ.out⟩, K1.1⟩
  · have HZ : Hid (u = pz u) := Lib.hid (by unfold pz; rw [if_neg h0])
    rw [decide_eq_false h0] at hq
    clear h0
    go_wp2_with fail
    go_ret
    exact ⟨u, rfl, ⟨u, HU.out, HZ.out⟩, K1.1⟩
end Go.Proofs.YtjcjphgpmpjmbaaGreatDoor
