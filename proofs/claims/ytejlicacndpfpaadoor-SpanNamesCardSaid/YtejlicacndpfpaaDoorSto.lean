/-
  The floats beside any fraction, or the refusal (round.Frac, polestarref04.Frac).
  Floats stored into memory: the laws that the kit has for integers, Booleans, slices.
-/
import Derived.Test.YtejlicacndpfpaaDoorExY
import Derived.Test.YtejlicacndpfpaaDoorRoot
import Derived.Test.YtejlicacndpfpaaDoorZero
namespace Go.Proofs.YtejlicacndpfpaaDoor
open Go.RowKit

def RetFe (W : World) (neg : Bool) (l : List Nat) (neg' : Bool) (l' : List Nat) (e : Ending) (w' : World) : Prop :=
  ∃ d u, e = .returned (.tuple #[.float .f64 d, .float .f64 u, .int .i64 (chkFr neg l neg' l')]) ∧ (okFr neg l neg' l' → Brk (decide (sgnd neg (Lm.lv l) < 0)) (Lm.lv l * 2 ^ Flt.K74) (Lm.lv l') d u) ∧ (¬ okFr neg l neg' l' → d = 0 ∧ u = 0) ∧ Below W.heap.size W w'
theorem okFr_den {neg : Bool} {l : List Nat} {neg' : Bool} {l' : List Nat} (h : okFr neg l neg' l') : sgnd neg' (Lm.lv l') = (Lm.lv l' : Int) ∧ 0 < Lm.lv l' := by
  have h3 := h.2.2.1
  unfold sgnd at h3 ⊢
  split at h3
  · omega
  · rename_i k
    rw [if_neg k]
    exact ⟨rfl, by omega⟩
set_option maxRecDepth 100000 in
set_option maxHeartbeats 1600000 in
theorem round_frac (neg neg' : Bool) (A A' : Option Addr) (n c n' c' : Nat) (l l' : List Nat) (w : World) (ha : Sl w A n c l) (hb : Sl w A' n' c' l') (hn : n ≤ 1000000000) (hn' : n' ≤ 1000000000) :
    Calls Tryd.prog 17 #[.agg #[.bool neg, .slice A n c, .bool neg', .slice A' n' c']] w (RetFe w neg l neg' l') := by
  by_cases hok : okFr neg l neg' l'
  · have HC : Hid (chkFr neg l neg' l' = 0) := Lib.hid (chkFr_ok hok)
    obtain ⟨hd1, hd2⟩ := okFr_den hok
    have hI1 : IsInt w neg A n c (sgnd neg (Lm.lv l)) := ⟨l, ha, hok.1.2.1, hok.1.2.2, rfl⟩
    have hI2 : IsInt w neg' A' n' c' (Lm.lv l' : Int) := by rw [← hd1]; exact ⟨l', hb, hok.2.1.2.1, hok.2.1.2.2, rfl⟩
    have hl1 : n ≤ 2048 := by have := hok.1.1; have := ha.len; omega
    have hl2 : n' ≤ 2048 := by have := hok.2.1.1; have := hb.len; omega
    have K0 := (((Mm.nil w).int hI1).int hI2).var (g := w.heap.size) rfl [.bool neg, .slice A n c, .bool neg', .slice A' n' c'] 26
    have ha0 := ha.below K0.1
    have hb0 := hb.below K0.1
    obtain ⟨z, hz⟩ : ∃ z, sgnd neg (Lm.lv l) = z := ⟨_, rfl⟩
    rw [hz] at K0
    obtain ⟨D, hD⟩ : ∃ D, Lm.lv l' = D := ⟨_, rfl⟩
    rw [hD] at K0 hd2
    have HZ := Lib.hid hz
    have HD := Lib.hid hD
    have HOK := Lib.hid hok
    clear hok hd1 hI1 hI2 ha hb hz hD
    go_enter Tryd.func17, Tryd.ntmps17
    go_wp2_with fail
    refine (ratio_check neg neg' A A' n c n' c' l l' _ ha0 hb0 hn hn').mono ?_
    rintro e1 w1 ⟨rfl, hb1⟩
    rw [HC.out]
    have K1 := K0.next hb1
    clear K0 ha0 hb0 hb1
    obtain ⟨⟨qa1, qb1, qc1, qd1⟩, ⟨qe1, qf1, qg1, qh1⟩, qi1⟩ := (K1.blk (g := w.heap.size) (vs := [.bool neg, .slice A n c, .bool neg', .slice A' n' c']) (by simp)).four
    go_wp2_with fail
    refine (edge_at_any neg neg' A A' n c n' c' z D _ (K1.at_ (by simp)) (K1.at_ (by simp)) (by omega) (by omega) hd2).mono ?_
    rintro e2 w2 ⟨d, u, rfl, hB, hb2⟩
    have HB := Lib.hid hB
    have K2 := K1.next hb2
    clear hB hb2 K1
    go_wp2_with fail
    go_ret3
    refine ⟨d, u, by rw [HC.out]; rfl, fun _ => ?_, fun h => absurd HOK.out h, K2.1⟩
    have h := HB.out
    rw [HZ.out, HD.out, show Lm.lv l = z.natAbs by rw [← HZ.out, sgnd_abs]]
    exact h
  · have HC : Hid (chkFr neg l neg' l' = 1) := Lib.hid (chkFr_no hok)
    have HOK := Lib.hid hok
    have K0 := (Mm.nil w).var (g := w.heap.size) rfl [.bool neg, .slice A n c, .bool neg', .slice A' n' c'] 26
    have ha0 := ha.below K0.1
    have hb0 := hb.below K0.1
    clear hok ha hb
    go_enter Tryd.func17, Tryd.ntmps17
    go_wp2_with fail
    refine (ratio_check neg neg' A A' n c n' c' l l' _ ha0 hb0 hn hn').mono ?_
    rintro e1 w1 ⟨rfl, hb1⟩
    rw [HC.out]
    have K1 := K0.next hb1
    clear K0 ha0 hb0 hb1
    go_wp2_with fail
    go_ret3
    exact ⟨0, 0, by rw [HC.out]; rfl, fun h => absurd h HOK.out, fun _ => ⟨rfl, rfl⟩, K1.1⟩
end Go.Proofs.YtejlicacndpfpaaDoor

namespace Go.Proofs.YtejlicacndpfpaaDoor
open Go.RowKit

@[go_sem] theorem run_store_float {P : Program} {w : World} {a : Addr} {m : Mode} (k : FloatKind) (x : Nat) : (store a (.float k x) m).run P w = stored P w a (.float k x) m := run_store P w a _ m rfl
end Go.Proofs.YtejlicacndpfpaaDoor
