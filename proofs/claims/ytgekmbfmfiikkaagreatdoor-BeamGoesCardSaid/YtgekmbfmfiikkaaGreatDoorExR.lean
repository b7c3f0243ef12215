/-
  The program's whole numbers (package exact): limbs by limbs (divide).
-/
import Derived.Test.YtgekmbfmfiikkaaGreatDoorExQ
import Derived.WalkMore
import Derived.Deep.LoopGhost
import Derived.Deep.CutBlock
import Derived.Deep.CutRange
namespace Go.Proofs.YtgekmbfmfiikkaaGreatDoor
open Go.RowKit
theorem own_low {w : World} {base base' : Nat} {e : TypeId} {v : Value} {n : Nat} {xs : List Value} (h : w.ownsRow base e 1 v n xs) (hb : base' ≤ base) : w.ownsRow base' e 1 v n xs := by
 refine ⟨h.1, ?_⟩
 rcases h.2 with hn | ⟨g, cap, cur, hv, hg, rest⟩
 ·exact .inl hn
 ·exact .inr ⟨g, cap, cur, hv, Nat.le_trans hb hg, rest⟩
theorem sl_cell {w : World} {g n c : Nat} {l : List Nat} (h : Sl w (some ⟨g, 0, none⟩) n c l) {k : Nat} (hk : k < l.length) : w.cell? ⟨g, k, none⟩ = some (.int .u32 (l[k] : Nat)) ∧ l[k] < 4294967296 := by
 obtain ⟨ad, e, _, hl, hc, hb⟩ := h.at_ (k := k) (by rw [← h.len]; exact hk)
 injection e with e
 subst e
 rw [Addr.add_lit, Nat.zero_add] at hc
 exact ⟨hc, hb⟩
theorem sl_some {w : World} {g n c : Nat} {l : List Nat} (h : Sl w (some ⟨g, 0, none⟩) n c l) {k x : Nat} (hk : l[k]? = some x) : w.cell? ⟨g, k, none⟩ = some (.int .u32 (x : Nat)) ∧ x < 4294967296 := by
 obtain ⟨hl, rfl⟩ := List.getElem?_eq_some_iff.1 hk
 exact sl_cell h hl
theorem own_some {w : World} {base : Nat} {e : TypeId} {g cap n : Nat} {out : List Nat} (h : w.ownsRow base e 1 (.slice (some ⟨g, 0, none⟩) n cap) n (u32s out)) {j x : Nat} (hj : out[j]? = some x) : w.cell? ⟨g, j, none⟩ = some (.int .u32 (x : Nat)) := by
 obtain ⟨hl, rfl⟩ := List.getElem?_eq_some_iff.1 hj
 exact own_at h hl
theorem ex_less_of (B g N i m cc q : Nat) (z : Int) (A : Option Addr) (cd : Nat) (L D : List Nat) (w : World) (hL : w.ownsRow B 164 1 (.slice (some ⟨g, 0, none⟩) N N) N (u32s L)) (hok0 : Lm.ok L) (hD : Sl w A m cd D) (hne : ∀ ad, A = some ad → ad.block ≠ g)
  (hi : i + m + 1 ≤ N) (hN : N ≤ 1000000000) (hq : q < 4294967296) (hz : z = (q : Int)) :
  Calls Tryz.prog 338 #[.slice (some ⟨g, i, none⟩) (m + 1) cc, .slice A m cd, .int .u64 z] w (RetLess w B g N i m q L D) := by
 subst hz
 exact ex_less_any B g N i m cc q A cd L D w hL hok0 hD hne hi hN hq
theorem mul_in {G d : Nat} (hG : G < 4294967296) (hd : d < 4294967296) : IntKind.u64.wrap ((G : Int) * (d : Int)) = ((G * d : Nat) : Int) := by
 have h : G * d ≤ 4294967295 * 4294967295 := Nat.mul_le_mul (by omega) (by omega)
 rw [← Int.natCast_mul]
 exact IntWalk.u64_in _ (by omega)
theorem round_next {L L0 L1 Q : List Nat} {i m N Dv P G li : Nat} (hN : i + m + 3 ≤ N) (hL1 : L1.length = N) (hL0 : L0.length = N) (hQ : i < Q.length) (hD : 0 < Dv) (a1 : Lm.lv ((L1.drop i).take (m + 2 + 1)) = P % Dv)
  (hdr : L1.drop (i + (m + 2) + 1) = L.drop (i + (m + 2) + 1)) (htk : L1.take i = L.take i) (hli : L[i]? = some li) (hP : P = li + 4294967296 * Lm.lv (L.drop (i + 1))) (hz : Lm.lv (L.drop (i + (m + 2) + 1)) = 0) (hG : G = P / Dv)
  (k6 : L.take (i + 1) = L0.take (i + 1)) (k7 : Lm.lv (L0.drop (i + 1)) = Dv * Lm.lv (Q.drop (i + 1)) + Lm.lv (L.drop (i + 1))) :
  Lm.lv (L1.drop i) < Dv ∧ L1.take i = L0.take i ∧ Lm.lv (L0.drop i) = Dv * Lm.lv ((Q.set i G).drop i) + Lm.lv (L1.drop i) := by
 have e1 : Lm.lv (L1.drop i) = P % Dv := by
  have h1 := Lm.lv_take_drop (L1.drop i) (m + 2 + 1) (by rw [List.length_drop]; omega)
  rw [List.drop_drop, show i + (m + 2 + 1) = i + (m + 2) + 1 by omega, hdr, hz, Nat.mul_zero, Nat.add_zero, a1] at h1
  exact h1
 have e2 : L.take i = L0.take i := by
  have h1 := congrArg (List.take i) k6
  rw [List.take_take, List.take_take, show min i (i + 1) = i by omega] at h1
  exact h1
 have e3 : L0[i]'(by omega) = li := by
  have h1 := congrArg (fun t : List Nat => t[i]?) k6
  simp only [List.getElem?_take, if_pos (Nat.lt_succ_self i)] at h1
  rw [hli, List.getElem?_eq_getElem (by omega)] at h1
  injection h1 with h1
  exact h1.symm
 refine ⟨by rw [e1]; exact Nat.mod_lt _ hD, by rw [htk, e2], ?_⟩
 rw [e1]
 refine divide_step (by omega) hQ k7 ?_
 rw [e3, B_eq, ← hP, hG]
 exact (Nat.div_add_mod P Dv).symm
theorem add_end_g (B : Nat) {S M x c W Dv r : Nat} (h : S + M * c = W + Dv) (hx : W + M * x + Dv = M * B + r) (hS : S < M) (hr : r < M) : c + x = B ∧ S = r := by
 have h1 : S + M * (c + x) = M * B + r := by rw [Nat.mul_add]; omega
 have h2 : c + x = B := by
  rcases Nat.lt_trichotomy (c + x) B with h3 | h3 | h3
  ·exfalso
   have h4 : M * (c + x + 1) ≤ M * B := Nat.mul_le_mul_left _ h3
   rw [Nat.mul_add, Nat.mul_one] at h4
   omega
  ·exact h3
  ·exfalso
   have h4 : M * (B + 1) ≤ M * (c + x) := Nat.mul_le_mul_left _ h3
   rw [Nat.mul_add, Nat.mul_one] at h4
   omega
 rw [h2] at h1
 exact ⟨h2, by omega⟩
theorem back_end {L1 out D : List Nat} {i m N Dv x c r : Nat} (hN : i + m + 3 ≤ N) (hL1 : L1.length = N) (hout : out.length = N) (hx : L1[i + (m + 2)]? = some x) (hok : Lm.ok out) (hD : D.length = m + 2) (hDv : Lm.lv D = Dv) (hDB : Dv < Lm.B ^ (m + 2)) (hr : r < Dv)
  (_h1 : out.drop (i + (m + 2)) = L1.drop (i + (m + 2))) (h3 : Lm.lv ((out.drop i).take (m + 2)) + Lm.B ^ (m + 2) * c = Lm.lv ((L1.drop i).take (m + 2)) + Lm.lv (D.take (m + 2)))
  (hw : Lm.lv ((L1.drop i).take (m + 2 + 1)) + Dv = Lm.B ^ (m + 2 + 1) + r) :
  c + x = 4294967296 ∧ Lm.lv (((out.set (i + (m + 2)) 0).drop i).take (m + 2 + 1)) = r := by
 rw [Lm.lv_take_ge D _ (by omega), hDv] at h3
 have e1 := Lm.lv_take_succ (L1.drop i) (m + 2) (by rw [List.length_drop]; omega)
 rw [List.getElem_drop] at e1
 have e0 : L1[i + (m + 2)]'(by omega) = x := by
  obtain ⟨h, e⟩ := List.getElem?_eq_some_iff.1 hx
  exact e
 rw [e0] at e1
 rw [e1, show Lm.B ^ (m + 2 + 1) = Lm.B ^ (m + 2) * Lm.B from Nat.pow_succ ..] at hw
 have hS := lv_take_lt (Lm.ok_drop hok i) (k := m + 2) (by rw [List.length_drop]; omega)
 have hkl : m + 2 < (out.drop i).length := by rw [List.length_drop]; omega
 have e4 : (out.set (i + (m + 2)) 0).drop i = (out.drop i).set (m + 2) 0 := by
  rw [List.drop_set, if_neg (by omega), show i + (m + 2) - i = m + 2 by omega]
 have e5 := Lm.lv_take_succ ((out.drop i).set (m + 2) 0) (m + 2) (by rw [List.length_set]; exact hkl)
 rw [List.take_set_of_le (Nat.le_refl _), List.getElem_set_self, Nat.mul_zero, Nat.add_zero] at e5
 rw [e4, e5]
 generalize Lm.B ^ (m + 2) = K at *
 have hE := add_end_g Lm.B h3 hw hS (Nat.lt_trans hr hDB)
 exact ⟨hE.1.trans B_eq, hE.2⟩
theorem down_row {out Lc : List Nat} {k m s y x h : Nat} (hs : s < 32) (hk : k < m) (hlo : out.length = m) (hlc : Lc.length = m) (hxb : x < 4294967296) (h1 : out.drop k = Lc.drop k) (h2 : Lm.lv (out.take k) + Lm.B ^ k * (Lm.lv (Lc.drop k) / 2 ^ s) = Lm.lv Lc / 2 ^ s)
  (hx : out[k]'(by omega) = x) (hh : h = Lm.lv (Lc.drop (k + 1)) % 4294967296) (hy : y = (h * 4294967296 + x) / 2 ^ s % 4294967296) :
  (out.set k y).drop (k + 1) = Lc.drop (k + 1) ∧ Lm.lv ((out.set k y).take (k + 1)) + Lm.B ^ (k + 1) * (Lm.lv (Lc.drop (k + 1)) / 2 ^ s) = Lm.lv Lc / 2 ^ s := by
 have hLx : Lc[k]'(by omega) = x := by
  have e := congrArg (fun t : List Nat => t[0]?) h1
  simp only [List.getElem?_drop, Nat.add_zero] at e
  rw [List.getElem?_eq_getElem (by omega), List.getElem?_eq_getElem (by omega)] at e
  injection e with e
  rw [← e, hx]
 refine ⟨?_, ?_⟩
 ·rw [List.drop_set_of_lt (by omega), ← List.drop_drop, h1, List.drop_drop]
 ·have e1 := Lm.lv_take_succ (out.set k y) k (by rw [List.length_set]; omega)
  rw [List.take_set_of_le (Nat.le_refl _), List.getElem_set_self] at e1
  have e2 := Lm.lv_drop Lc (show k < Lc.length by omega)
  rw [hLx, B_eq] at e2
  have e3 := (down_limb (x := x) (Y := Lm.lv (Lc.drop (k + 1))) hs rfl).resolve_right (Nat.not_le.2 hxb)
  rw [← hh, ← hy, ← e2] at e3
  rw [← h2, e1, ← e3, Nat.pow_succ, Nat.add_assoc, Nat.mul_assoc, ← Nat.mul_add, show Lm.B * (Lm.lv (Lc.drop (k + 1)) / 2 ^ s) = 4294967296 * (Lm.lv (Lc.drop (k + 1)) / 2 ^ s) from rfl]
theorem next_limb {Lc : List Nat} {k : Nat} (hok : Lm.ok Lc) : Lm.lv (Lc.drop (k + 1)) % 4294967296 = (Lc[k + 1]?).getD 0 := by
 rcases Nat.lt_or_ge (k + 1) Lc.length with h | h
 ·have e2 := Lm.lv_drop Lc h
  rw [B_eq] at e2
  have h3 : Lc[k + 1] < 4294967296 := Lm.ok_get hok h
  rw [e2, List.getElem?_eq_getElem h]
  show (Lc[k + 1] + 4294967296 * Lm.lv (Lc.drop (k + 1 + 1))) % 4294967296 = Lc[k + 1]
  omega
 ·rw [List.drop_of_length_le h, List.getElem?_eq_none h]
  rfl
theorem quo_end {a d q l P Dv : Nat} (hP : 0 < P) (h2 : d * P = Dv) (h : a * P = Dv * q + l) (hl : l < Dv) : a = d * q + l / P ∧ l / P < d := by
 subst h2
 have e1 : d * P * q = P * (d * q) := by rw [Nat.mul_comm d, Nat.mul_assoc]
 rw [e1, Nat.mul_comm] at h
 have h3 : P * (d * q) ≤ P * a := by omega
 obtain ⟨t, ht⟩ := Nat.exists_eq_add_of_le (Nat.le_of_mul_le_mul_left h3 hP)
 rw [ht, Nat.mul_add] at h
 have hl2 : l = P * t := by omega
 rw [hl2, Nat.mul_div_cancel_left _ hP]
 refine ⟨ht, ?_⟩
 rw [hl2, Nat.mul_comm d] at hl
 exact Nat.lt_of_mul_lt_mul_left hl
theorem three_q {w w1 : World} {base g1 g2 g3 N M m cd : Nat} {L Q D : List Nat} {i : Nat} (hL : w1.ownsRow base 164 1 (.slice (some ⟨g1, 0, none⟩) N N) N (u32s L)) (hQ : w1.ownsRow base 164 1 (.slice (some ⟨g3, 0, none⟩) M M) M (u32s Q))
  (hD : Sl w1 (some ⟨g2, 0, none⟩) m cd D) (hb : Below w.heap.size w w1) (hg : g3 < w1.heap.size) (h12 : g1 < g2) (h23 : g2 < g3) (h1 : w.heap.size ≤ g1) (X : Int) (d : Nat) (hX : X = (d : Int)) :
  (w1.setCell ⟨g3, i, none⟩ (.int .u32 X)).ownsRow base 164 1 (.slice (some ⟨g1, 0, none⟩) N N) N (u32s L) ∧ (w1.setCell ⟨g3, i, none⟩ (.int .u32 X)).ownsRow base 164 1 (.slice (some ⟨g3, 0, none⟩) M M) M (u32s (Q.set i d)) ∧
  Sl (w1.setCell ⟨g3, i, none⟩ (.int .u32 X)) (some ⟨g2, 0, none⟩) m cd D ∧ Below w.heap.size w (w1.setCell ⟨g3, i, none⟩ (.int .u32 X)) ∧ g3 < (w1.setCell ⟨g3, i, none⟩ (.int .u32 X)).heap.size := by
 have gs := grown_set (World.grownBy.refl w1 (some g3)) i (.int .u32 X)
 exact ⟨hL.kept gs (.inr (by simp [Value.ownBlock]; omega)), own_store hQ d hX, sl_grown hD gs (fun ad e => by injection e with e; subst e; exact Nat.ne_of_lt h23), hb.grown gs hb.size (fun k e => by injection e with e; subst e; omega), Nat.lt_of_lt_of_le hg gs.size⟩
theorem three_l {w w1 : World} {base g1 g2 g3 N M m cd : Nat} {L Q D : List Nat} {i : Nat} (hL : w1.ownsRow base 164 1 (.slice (some ⟨g1, 0, none⟩) N N) N (u32s L)) (hQ : w1.ownsRow base 164 1 (.slice (some ⟨g3, 0, none⟩) M M) M (u32s Q))
  (hD : Sl w1 (some ⟨g2, 0, none⟩) m cd D) (hb : Below w.heap.size w w1) (hg : g3 < w1.heap.size) (h12 : g1 < g2) (h23 : g2 < g3) (h1 : w.heap.size ≤ g1) (X : Int) (d : Nat) (hX : X = (d : Int)) :
  (w1.setCell ⟨g1, i, none⟩ (.int .u32 X)).ownsRow base 164 1 (.slice (some ⟨g1, 0, none⟩) N N) N (u32s (L.set i d)) ∧ (w1.setCell ⟨g1, i, none⟩ (.int .u32 X)).ownsRow base 164 1 (.slice (some ⟨g3, 0, none⟩) M M) M (u32s Q) ∧
  Sl (w1.setCell ⟨g1, i, none⟩ (.int .u32 X)) (some ⟨g2, 0, none⟩) m cd D ∧ Below w.heap.size w (w1.setCell ⟨g1, i, none⟩ (.int .u32 X)) ∧ g3 < (w1.setCell ⟨g1, i, none⟩ (.int .u32 X)).heap.size := by
 have gs := grown_set (World.grownBy.refl w1 (some g1)) i (.int .u32 X)
 exact ⟨own_store hL d hX, hQ.kept gs (.inr (by simp [Value.ownBlock]; omega)), sl_grown hD gs (fun ad e => by injection e with e; subst e; exact Nat.ne_of_gt h12), hb.grown gs hb.size (fun k e => by injection e with e; subst e; omega), Nat.lt_of_lt_of_le hg gs.size⟩
theorem two_l {w w1 : World} {base g1 g3 N c M : Nat} {L Q : List Nat} {i : Nat} (hL : w1.ownsRow base 164 1 (.slice (some ⟨g1, 0, none⟩) N c) N (u32s L)) (hQ : w1.ownsRow base 164 1 (.slice (some ⟨g3, 0, none⟩) M M) M (u32s Q))
  (hb : Below w.heap.size w w1) (h13 : g1 < g3) (h1 : w.heap.size ≤ g1) (X : Int) (d : Nat) (hX : X = (d : Int)) :
  (w1.setCell ⟨g1, i, none⟩ (.int .u32 X)).ownsRow base 164 1 (.slice (some ⟨g1, 0, none⟩) N c) N (u32s (L.set i d)) ∧ (w1.setCell ⟨g1, i, none⟩ (.int .u32 X)).ownsRow base 164 1 (.slice (some ⟨g3, 0, none⟩) M M) M (u32s Q) ∧ Below w.heap.size w (w1.setCell ⟨g1, i, none⟩ (.int .u32 X)) := by
 have gs := grown_set (World.grownBy.refl w1 (some g1)) i (.int .u32 X)
 exact ⟨own_store hL d hX, hQ.kept gs (.inr (by simp [Value.ownBlock]; omega)), hb.grown gs hb.size (fun k e => by injection e with e; subst e; omega)⟩
theorem shr_cast (r s : Nat) : (r : Int) / 2 ^ s % 4294967296 = ((r / 2 ^ s % 4294967296 : Nat) : Int) := by
 rw [show (2 : Int) ^ s = ((2 ^ s : Nat) : Int) by rw [Int.natCast_pow]; rfl, Int.natCast_emod, Int.natCast_ediv]
 rfl
end Go.Proofs.YtgekmbfmfiikkaaGreatDoor
