/-
  The references' spans (polestarref05): the floats at a fraction, the least span from one fraction to another one.
-/
import Derived.Test.YtcjpocepgkfkaaaGreatFrV
import Derived.Test.YtcjpocepgkfkaaaGreatSpnR
import Derived.Test.YtcjpocepgkfkaaaGreatSpnY
namespace Go.Proofs.YtcjpocepgkfkaaaGreat
open Go.RowKit

/-- The float is what a fraction comes to when it is rounded down; up. -/
def DownR (x : Rat) (d : Nat) : Prop := Down (x.num * ((2 ^ Flt.K74 : Nat) : Int)) x.den d
def UpR (x : Rat) (u : Nat) : Prop := Up (x.num * ((2 ^ Flt.K74 : Nat) : Int)) x.den u
def AtR (x : Rat) (d u : Nat) : Prop := DownR x d ∧ UpR x u ∧ pz d = d
theorem brk_at {x : Rat} {d u : Nat} (h : Brk (decide (x.num < 0)) (x.num.natAbs * 2 ^ (0 + 1074 : Int).toNat) (x.den * 2 ^ (-(0 + 1074) : Int).toNat) d u) : AtR x d u := by
  have e1 : (0 + 1074 : Int).toNat = Flt.K74 := rfl
  have e2 : (-(0 + 1074) : Int).toNat = 0 := rfl
  rw [e1, e2, Nat.pow_zero, Nat.mul_one] at h
  have hp := Nat.two_pow_pos Flt.K74
  obtain ⟨K, hK⟩ : ∃ K, 2 ^ Flt.K74 = K := ⟨_, rfl⟩
  unfold AtR DownR UpR
  rw [hK] at h hp ⊢
  clear hK e1 e2
  have hd := x.den_pos
  have hz : x.num * (K : Int) = if decide (x.num < 0) = true then -((x.num.natAbs * K : Nat) : Int) else ((x.num.natAbs * K : Nat) : Int) := by
    rw [Int.natCast_mul]
    by_cases hn : x.num < 0
    · rw [if_pos (decide_eq_true hn), ← Int.neg_mul]
      congr 1
      omega
    · rw [if_neg (by rw [decide_eq_false hn]; decide)]
      congr 1
      omega
  have hb := brk_down hd hz h
  refine ⟨hb.1, hb.2, ?_⟩
  obtain ⟨r, h1, h2, h3⟩ := h
  unfold pz
  by_cases hn : x.num < 0
  · rw [decide_eq_true hn] at h2
    simp only [if_true] at h2
    have hh : 0 < hiR (x.num.natAbs * K) x.den r := by
      unfold hiR
      split
      · rename_i he
        rcases Nat.eq_zero_or_pos r with k | k
        · subst k
          rw [Flt.val_zero, Nat.zero_mul] at he
          have : 0 < x.num.natAbs * K := Nat.mul_pos (by omega) hp
          omega
        · exact k
      · omega
    have hi : hiR (x.num.natAbs * K) x.den r ≤ Flt.inf := by
      have h4 := h1.1
      unfold hiR
      split <;> omega
    have hil := Flt.inf_lt
    have : Flt.rg d = hiR (x.num.natAbs * K) x.den r := by
      rw [h2]
      unfold Flt.rg
      omega
    rw [if_neg (by omega)]
  · rw [decide_eq_false hn] at h2
    simp only [Bool.false_eq_true, if_false] at h2
    split
    · rename_i h0
      have h4 := h1.1
      have hil := Flt.inf_lt
      rw [h2] at h0 ⊢
      unfold Flt.rg at h0
      omega
    · rfl
set_option maxRecDepth 100000 in
set_option maxHeartbeats 800000 in
theorem ref4_at_any (neg neg' : Bool) (A A' : Option Addr) (n c n' c' : Nat) (x : Rat) (m : Nat) (w : World) (hx : IsInt w neg A n c x.num) (hx' : IsInt w neg' A' n' c' (x.den : Int)) (sx : Sz x m) (hm : m ≤ 10000) :
    Calls Tryz.prog 69 #[.agg #[.bool neg, .slice A n c, .bool neg', .slice A' n' c']] w (RetPair w (AtR x)) := by
  have K0 := (((((Mm.nil w).int hx).int hx').var (g := w.heap.size) rfl [.bool neg, .slice A n c, .bool neg', .slice A' n' c'] 49))
  have hn := int_len hx sx.1
  have hn' := int_len hx' sx.2
  clear hx hx' sx
  go_enter Tryz.func69, Tryz.ntmps69
  go_wp2_with fail
  refine (ref_beside_frac neg neg' A A' n c n' c' x.num 0 x.den _ _ _ (K0.at_ (by simp)) (K0.at_ (by simp)) (by omega) (by omega) x.den_nz (by omega) (Lib.hid rfl) (Lib.hid rfl)).mono ?_
  rintro e1 w1 ⟨d, u, rfl, hB, hb1⟩
  have HB := Lib.hid (brk_at hB)
  have K1 := K0.next hb1
  clear hB hb1
  go_wp2_with fail
  go_ret2
  exact ⟨d, u, rfl, HB.out, K1.1⟩
def RetFl (W : World) (P : Nat → Prop) (e : Ending) (w' : World) : Prop := ∃ d, e = .returned (.float .f64 d) ∧ P d ∧ Below W.heap.size W w'
set_option maxRecDepth 100000 in
set_option maxHeartbeats 800000 in
theorem ref5_down_any (neg neg' : Bool) (A A' : Option Addr) (n c n' c' : Nat) (x : Rat) (m : Nat) (w : World) (hx : IsInt w neg A n c x.num) (hx' : IsInt w neg' A' n' c' (x.den : Int)) (sx : Sz x m) (hm : m ≤ 10000) :
    Calls Tryz.prog 45 #[.agg #[.bool neg, .slice A n c, .bool neg', .slice A' n' c']] w (RetFl w fun d => DownR x d ∧ pz d = d) := by
  have K0 := (((((Mm.nil w).int hx).int hx').var (g := w.heap.size) rfl [.bool neg, .slice A n c, .bool neg', .slice A' n' c'] 49))
  have SX := Lib.hid sx
  clear hx hx' sx
  go_enter Tryz.func45, Tryz.ntmps45
  go_wp2_with fail
  refine (ref4_at_any neg neg' A A' n c n' c' x m _ (K0.at_ (by simp)) (K0.at_ (by simp)) SX.out hm).mono ?_
  rintro e1 w1 ⟨d, u, rfl, hB, hb1⟩
  have HB := Lib.hid hB
  have K1 := K0.next hb1
  clear hB hb1
  go_wp2_with fail
  go_ret
  exact ⟨d, rfl, ⟨HB.out.1, HB.out.2.2⟩, K1.1⟩
theorem eq_nought {u : Nat} (h : ¬ Flt.Nan u) : (Ieee.double.order u 0 == some .eq) = decide (Flt.rg u = 0) := by
  rw [Flt.eq_spec h nan_zero, sv_zero]
  have := Flt.sv_zero_iff (x := u)
  by_cases k : Flt.rg u = 0
  · rw [decide_eq_true k, decide_eq_true (this.2 k)]
  · rw [decide_eq_false k, decide_eq_false (fun e => k (this.1 e))]
theorem up_not_nan' {num : Int} {den u : Nat} (h : Up num den u) : ¬ Flt.Nan u := fun k => by
  have := h.2.1
  unfold Flt.Nan at k
  omega
set_option maxRecDepth 100000 in
set_option maxHeartbeats 800000 in
theorem ref5_up_any (neg neg' : Bool) (A A' : Option Addr) (n c n' c' : Nat) (x : Rat) (m : Nat) (w : World) (hx : IsInt w neg A n c x.num) (hx' : IsInt w neg' A' n' c' (x.den : Int)) (sx : Sz x m) (hm : m ≤ 10000) :
    Calls Tryz.prog 46 #[.agg #[.bool neg, .slice A n c, .bool neg', .slice A' n' c']] w (RetFl w fun d => ∃ u, UpR x u ∧ d = pz u) := by
  have K0 := (((((Mm.nil w).int hx).int hx').var (g := w.heap.size) rfl [.bool neg, .slice A n c, .bool neg', .slice A' n' c'] 49))
  have SX := Lib.hid sx
  clear hx hx' sx
  go_enter Tryz.func46, Tryz.ntmps46
  go_wp2_with fail
  refine (ref4_at_any neg neg' A A' n c n' c' x m _ (K0.at_ (by simp)) (K0.at_ (by simp)) SX.out hm).mono ?_
  rintro e1 w1 ⟨d, u, rfl, hB, hb1⟩
  have K1 := K0.next hb1
  have hq := eq_nought (up_not_nan' hB.2.1)
  have HU := Lib.hid hB.2.1
  clear hB hb1
  by_cases h0 : Flt.rg u = 0
  · have HZ : Hid (0 = pz u) := Lib.hid (by unfold pz; rw [if_pos h0])
    rw [decide_eq_true h0] at hq
    clear h0
    go_wp2_with fail
    go_ret
    exact ⟨0, rfl, ⟨u, HU.out, HZ.out⟩, K1.1⟩
  · have HZ : Hid (u = pz u) := Lib.hid (by unfold pz; rw [if_neg h0])
    rw [decide_eq_false h0] at hq
    clear h0
    go_wp2_with fail
    go_ret
    exact ⟨u, rfl, ⟨u, HU.out, HZ.out⟩, K1.1⟩
end Go.Proofs.YtcjpocepgkfkaaaGreat
