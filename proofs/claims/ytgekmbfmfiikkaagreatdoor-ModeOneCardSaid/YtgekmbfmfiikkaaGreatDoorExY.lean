/-
  The floats beside a fraction (edge.At).
-/
import Derived.Test.YtgekmbfmfiikkaaGreatDoorMeg
import Derived.Test.YtgekmbfmfiikkaaGreatDoorExZ
namespace Go.Proofs.YtgekmbfmfiikkaaGreatDoor
open Go.RowKit
theorem isInt_bare {w : World} {neg : Bool} {A : Option Addr} {n c : Nat} {z : Int} (h : IsInt w neg A n c z) : IsInt w false A n c (z.natAbs : Int) := by
 obtain ⟨l, h1, h2, _, rfl⟩ := h
 exact ⟨l, h1, h2, fun _ => rfl, by rw [sgnd_abs]; rfl⟩
theorem ex_double_of (neg : Bool) (A : Option Addr) (n c s : Nat) (x v : Int) (w : World) (hx : IsInt w neg A n c x) (hn : n ≤ 100000000) (hs : s ≤ 1000000000) (hv : v = (s : Int)) :
  Calls Tryz.prog 214 #[.agg #[.bool neg, .slice A n c], .int .i64 v] w (RetInt w (x * ((2 ^ s : Nat) : Int))) := by
 subst hv
 exact ex_double_any neg A n c s x w hx hn hs
def lims (l : List Nat) (k : Nat) : List Value := [.int .u64 ((if 0 < k then l.getD 0 0 else 0 : Nat) : Int), .int .u64 ((if 1 < k then l.getD 1 0 else 0 : Nat) : Int), .int .u64 ((if 2 < k then l.getD 2 0 else 0 : Nat) : Int)]
theorem lims_get (l : List Nat) {k : Nat} (h : k < 3) : (lims l k)[k]? = some (.int .u64 0) := by
 match k, h with
 | 0, _ => rfl
 | 1, _ => rfl
 | 2, _ => rfl
theorem lims_set (l : List Nat) {k : Nat} (h : k < 3) : (lims l k).set k (.int .u64 ((l.getD k 0 : Nat) : Int)) = lims l (k + 1) := by
 match k, h with
 | 0, _ => rfl
 | 1, _ => rfl
 | 2, _ => rfl
theorem lims_all {w : World} {g k : Nat} {l : List Nat} (h : Blk w g (lims l k)) (hk : l.length = k) : w.cell? ⟨g, 0, none⟩ = some (.int .u64 ((l.getD 0 0 : Nat) : Int)) ∧ w.cell? ⟨g, 1, none⟩ = some (.int .u64 ((l.getD 1 0 : Nat) : Int)) ∧ w.cell? ⟨g, 2, none⟩ = some (.int .u64 ((l.getD 2 0 : Nat) : Int)) := by
 have e : ∀ j, (if j < k then l.getD j 0 else 0) = l.getD j 0 := fun j => by
  split
  ·rfl
  ·rw [List.getD_eq_getElem?_getD, List.getElem?_eq_none (by omega)]; rfl
 have h0 := (h.2 0 _ rfl).1
 have h1 := (h.2 1 _ rfl).1
 have h2 := (h.2 2 _ rfl).1
 rw [e] at h0 h1 h2
 exact ⟨h0, h1, h2⟩
theorem lv_three {l : List Nat} (hok : Lm.ok l) (hl : l.length ≤ 3) : l.getD 0 0 < 4294967296 ∧ l.getD 1 0 < 4294967296 ∧ l.getD 2 0 < 4294967296 ∧ Lm.lv l = l.getD 2 0 * 18446744073709551616 + (l.getD 1 0 * 4294967296 + l.getD 0 0) := by
 have hB : Lm.B = 4294967296 := rfl
 match l, hok, hl with
 | [], _, _ => simp [Lm.lv]
 | [a], h, _ => have ha := h a (by simp); rw [hB] at ha; simp [Lm.lv]; omega
 | [a, b], h, _ => have ha := h a (by simp); have hb := h b (by simp); rw [hB] at ha hb; simp [Lm.lv, hB]; omega
 | [a, b, c], h, _ => have ha := h a (by simp); have hb := h b (by simp); have hc := h c (by simp); rw [hB] at ha hb hc; simp [Lm.lv, hB]; omega
 | _ :: _ :: _ :: _ :: _, _, h => simp at h
set_option maxRecDepth 100000 in
set_option maxHeartbeats 3200000 in
theorem edge_at_any (neg neg' : Bool) (A A' : Option Addr) (n c n' c' : Nat) (z : Int) (D : Nat) (w : World) (hx : IsInt w neg A n c z) (hy : IsInt w neg' A' n' c' (D : Int)) (hn : n ≤ 2048) (hn' : n' ≤ 2048) (hD : 0 < D) :
  Calls Tryz.prog 244 #[.agg #[.bool neg, .slice A n c, .bool neg', .slice A' n' c']] w (RetPair w (Brk (decide (z < 0)) (z.natAbs * 2 ^ Flt.K74) D)) := by
 have K0 := ((((Mm.nil w).int hx).int hy).int (isInt_bare hx)).var (g := w.heap.size) rfl [.bool neg, .slice A n c, .bool neg', .slice A' n' c'] 26
 by_cases hz : z = 0
 ·have E1 : Hid (z.sign = 0) := Lib.hid (by rw [hz]; rfl)
  have HB : Hid (Brk (decide (z < 0)) (z.natAbs * 2 ^ Flt.K74) D 0 0) := Lib.hid (by
   rw [hz, show (0 : Int).natAbs = 0 from rfl, Nat.zero_mul, show decide ((0 : Int) < 0) = false from rfl]
   have e : hiR 0 D 0 = 0 := by unfold hiR; rw [Flt.val_zero, Nat.zero_mul, if_pos rfl]
   exact ⟨0, (dn_zero D hD).1, rfl, by rw [e]; rfl⟩)
  clear hx hy hz
  go_enter Tryz.func244, Tryz.ntmps244
  go_wp2_with fail
  refine (ex_sign_any neg A n c z _ (K0.at_ (by simp))).mono ?_
  rintro e1 w1 ⟨rfl, hb1⟩
  rw [E1.out]
  go_wp2_with fail
  go_ret2
  exact ⟨0, 0, rfl, HB.out, (K0.next hb1).1⟩
 ·obtain ⟨S, hS⟩ : ∃ S, z.sign = S := ⟨_, rfl⟩
  have hS0 : (S == 0) = false := by rw [beq_eq_false_iff_ne, ← hS]; exact fun h => hz (Int.sign_eq_zero_iff_zero.1 h)
  have E1 := Lib.hid hS
  obtain ⟨Z, hZ⟩ : ∃ Z, z.natAbs = Z := ⟨_, rfl⟩
  have hZ0 : 0 < Z := by omega
  have HN := isInt_neg hx
  obtain ⟨LP, hLP⟩ : ∃ L, bitLen z.natAbs = L := ⟨_, rfl⟩
  obtain ⟨LQ, hLQ⟩ : ∃ L, bitLen (D : Int).natAbs = L := ⟨_, rfl⟩
  have hLPb := bitLen_le hx hLP
  have hLQb := bitLen_le hy hLQ
  rw [hZ] at K0 hLP ⊢
  rw [Int.natAbs_natCast] at hLQ
  have HLP := Lib.hid hLP
  have HLQ := Lib.hid hLQ
  have HZ := Lib.hid hZ
  have HNN : Hid (neg = decide (z < 0)) := Lib.hid HN
  clear hx hy hz hS hLP hLQ hZ HN
  go_enter Tryz.func244, Tryz.ntmps244
  go_wp2_with fail
  refine (ex_sign_any neg A n c z _ (K0.at_ (by simp))).mono ?_
  rintro e1 w1 ⟨rfl, hb1⟩
  rw [E1.out]
  have K1 := K0.next hb1
  clear K0 hb1
  obtain ⟨⟨_, _, _, _⟩, ⟨_, _, _, _⟩, _⟩ := (K1.blk (g := w.heap.size) (by repeat constructor)).four
  go_upto_region 3 with fail
  go_cut [4, 5] from 6 to 74 (fun s4 s5 wx => ∃ g4 g5 : Nat, s4 = .pointer (some ⟨g4, 0, none⟩) ∧ s5 = .pointer (some ⟨g5, 0, none⟩) ∧ w.heap.size < g4 ∧ w.heap.size < g5 ∧ g4 ≠ g5 ∧
   Mm w [(g4, [.bool false, .slice A n c]), (g5, [.bool neg', .slice A' n' c']), (w.heap.size, [.bool neg, .slice A n c, .bool neg', .slice A' n' c'])] [(false, A, n, c, (Z : Int)), (neg', A', n', c', (D : Int))] wx)
  case first =>
   go_region
   all_goals (go_wp2_with fail)
   all_goals go_meet
   all_goals (refine ⟨_, _, rfl, rfl, by omega, by omega, by omega, ?_⟩)
   all_goals (first
    | (with_reducible have KE := (((K1.var (g := w1.heap.size) rfl [.bool false, .slice A n c] 24).var (g := w1.heap.size + 1) (by simp) [.bool neg', .slice A' n' c'] 24).drew).pick (L' := [(w1.heap.size, [.bool false, .slice A n c]), (w1.heap.size + 1, [.bool neg', .slice A' n' c']), (w.heap.size, [.bool neg, .slice A n c, .bool neg', .slice A' n' c'])]) (l' := [(false, A, n, c, (Z : Int)), (neg', A', n', c', (D : Int))]) (by simp) (by simp); with_reducible exact KE)
    | (with_reducible have KE := (((K1.var (g := w1.heap.size) rfl [.bool neg', .slice A' n' c'] 24).var (g := w1.heap.size + 1) (by simp) [.bool false, .slice A n c] 24).drew).pick (L' := [(w1.heap.size + 1, [.bool false, .slice A n c]), (w1.heap.size, [.bool neg', .slice A' n' c']), (w.heap.size, [.bool neg, .slice A n c, .bool neg', .slice A' n' c'])]) (l' := [(false, A, n, c, (Z : Int)), (neg', A', n', c', (D : Int))]) (by simp) (by simp); with_reducible exact KE))
  case rest =>
   obtain ⟨g4, g5, rfl, rfl, hg4, hg5, hg45, K2⟩ := hcut
   clear K1
   have hne0 : ¬ g4 = g5 := by omega
   have hne1 : ¬ g5 = g4 := by omega
   have hne2 : ¬ g4 = w.heap.size := by omega
   have hne3 : ¬ w.heap.size = g4 := by omega
   have hne4 : ¬ g5 = w.heap.size := by omega
   have hne5 : ¬ w.heap.size = g5 := by omega
   obtain ⟨⟨_, _, _, _⟩, ⟨_, _, _, _⟩, _⟩ := (K2.blk (g := w.heap.size) (by repeat constructor)).four
   obtain ⟨_, _, _, _, _⟩ := (K2.blk (g := g4) (by repeat constructor)).two
   obtain ⟨_, _, _, _, _⟩ := (K2.blk (g := g5) (by repeat constructor)).two
   generalize wc = w2 at *
   go_upto_region 4 with fail
   go_cut [6] from 7 to 74 (fun s6 wx => s6 = .int .i64 ((LQ : Int) - (LP : Int) + 64) ∧ Mm w [(g4, [.bool false, .slice A n c]), (g5, [.bool neg', .slice A' n' c']), (w.heap.size, [.bool neg, .slice A n c, .bool neg', .slice A' n' c'])] [(false, A, n, c, (Z : Int)), (neg', A', n', c', (D : Int))] wx)
   case first =>
    have HW : Hid (IntKind.i64.wrap (IntKind.i64.wrap ((LQ : Int) - (LP : Int)) + 64) = (LQ : Int) - (LP : Int) + 64) := Lib.hid (by
     rw [IntWalk.i64_in ((LQ : Int) - (LP : Int)) (by omega), IntWalk.i64_in ((LQ : Int) - (LP : Int) + 64) (by omega)])
    go_region_held3 (fun w' => w'.cell? ⟨g4, 0, none⟩ = some (.bool false) ∧ w'.cell? ⟨g4, 1, none⟩ = some (.slice A n c) ∧ w'.cell? ⟨g5, 0, none⟩ = some (.bool neg') ∧ w'.cell? ⟨g5, 1, none⟩ = some (.slice A' n' c'))
     (go_keep)
     (first
      | (go_at_call 216; apply Calls.withMm (w0 := w); (case K => with_reducible repeat (first | exact K2 | apply Mm.drew | apply Mm.drewN)); intro KX; (with_reducible refine (ex_bits_of neg' A' n' c' (D : Int) LQ _ ?_ (by omega) ?_).mono ?_); (with_reducible exact KX.at_ (by simp)); (exact HLQ); rintro e3 w3 ⟨rfl, hb3⟩; (with_reducible have K3 := KX.next hb3); obtain ⟨xa, xb, xc, xd, xe⟩ := (K3.blk (g := g4) (by repeat constructor)).two; obtain ⟨xa', xb', xc', xd', xe'⟩ := (K3.blk (g := g5) (by repeat constructor)).two; clear KX hb3)
      | (go_at_call 216; apply Calls.withMm (w0 := w); (case K => with_reducible repeat (first | exact K3 | apply Mm.drew | apply Mm.drewN)); intro KX; (with_reducible refine (ex_bits_of false A n c (Z : Int) LP _ ?_ (by omega) ?_).mono ?_); (with_reducible exact KX.at_ (by simp)); (exact HLP); rintro e4 w4 ⟨rfl, hb4⟩; (with_reducible have K4 := KX.next hb4); obtain ⟨ya, yb, yc, yd, ye⟩ := (K4.blk (g := g4) (by repeat constructor)).two; obtain ⟨ya', yb', yc', yd', ye'⟩ := (K4.blk (g := g5) (by repeat constructor)).two; clear KX hb4))
    go_wp2_with fail
    go_meet
    exact ⟨by rw [HW.out], K4⟩
   case rest =>
    obtain ⟨rfl, K5⟩ := hcut
    clear K2
    obtain ⟨bz1, bz2, bz3⟩ := bitLen_spec (x := Z) (by omega)
    obtain ⟨bd1, bd2, bd3⟩ := bitLen_spec (x := D) (by omega)
    rw [HLP.out] at bz1 bz2 bz3
    rw [HLQ.out] at bd1 bd2 bd3
    have HBZ := Lib.hid (And.intro bz2 bz3)
    have HBD := Lib.hid (And.intro bd2 bd3)
    clear bz2 bz3 bd2 bd3
    generalize wc = w5 at *
    obtain ⟨_, _, _, _, _⟩ := (K5.blk (g := g4) (by repeat constructor)).two
    obtain ⟨_, _, _, _, _⟩ := (K5.blk (g := g5) (by repeat constructor)).two
    rcases Int.lt_or_le ((LQ : Int) - (LP : Int) + 64) 0 with hs | hs
    ·obtain ⟨s, hs'⟩ : ∃ s : Nat, (LQ : Int) - (LP : Int) + 64 = -(s : Int) := ⟨(-((LQ : Int) - (LP : Int) + 64)).toNat, by omega⟩
     rw [hs']
     have hsb : s ≤ 1000000000 := by omega
     have hsn : ¬ (0 : Int) ≤ -(s : Int) := by omega
     have hs0 : ¬ s = 0 := by omega
     have hsd : decide (s = 0) = false := decide_eq_false hs0
     obtain ⟨Q, hQ⟩ : ∃ Q, D * 2 ^ s = Q := ⟨_, rfl⟩
     have HP := Lib.hid hQ
     have HQB := Lib.hid (quo_bits (P := Z) (Q := Q) (b := LQ + s) (by omega) (by rw [show LQ + s + 63 = LP - 1 by omega]; exact HBZ.out.1) (by rw [show LQ + s + 64 = LP by omega]; exact HBZ.out.2) (by rw [← hQ, show LQ + s - 1 = LQ - 1 + s by omega, Nat.pow_add]; exact Nat.mul_le_mul_right _ HBD.out.1) (by rw [← hQ, Nat.pow_add]; exact Nat.mul_lt_mul_of_pos_right HBD.out.2 (Nat.two_pow_pos _)) rfl)
     have HS := Lib.hid hs'
     clear hQ hs hs'
     go_wp2_with fail
     refine (ex_double_of neg' A' n' c' s (D : Int) _ _ (K5.at_ (by simp)) (by omega) hsb ?_).mono ?_
     ·first | rfl | (rw [IntWalk.i64_in _ (by omega)]; omega) | omega
     rintro e6 w6 ⟨np, Ap, mp, dp, rfl, I6, hb6⟩
     rw [← Int.natCast_mul, HP.out] at I6
     have K6 := (K5.next hb6).int I6
     have hmp : mp ≤ n := int_len I6 (by
      rw [Int.natAbs_natCast]
      have h1 : Q < 2 ^ (LQ + s) := by rw [← HP.out, Nat.pow_add]; exact Nat.mul_lt_mul_of_pos_right HBD.out.2 (Nat.two_pow_pos _)
      exact Nat.lt_of_lt_of_le h1 (Nat.pow_le_pow_right (by decide) (by have := HS.out; omega)))
     clear K5 I6 hb6
     obtain ⟨vap6, vbp6, vcp6, vdp6, vep6⟩ := (K6.blk (g := g4) (by repeat constructor)).two
     obtain ⟨vaq6, vbq6, vcq6, vdq6, veq6⟩ := (K6.blk (g := g5) (by repeat constructor)).two
     have K7 := (K6.pick (L' := [(g5, [.bool neg', .slice A' n' c']), (g4, [.bool false, .slice A n c]), (w.heap.size, [.bool neg, .slice A n c, .bool neg', .slice A' n' c'])]) (l' := [(np, Ap, mp, dp, (Q : Int)), (false, A, n, c, (Z : Int))]) (by simp) (by simp)).set2 (by simp <;> omega) np Ap mp dp
     clear K6
     have hQ0 : (Q : Int) ≠ 0 := by have := HQB.out.1; omega
     go_wp2_with fail
     refine (ex_Divide_any false np A Ap n c mp dp (Z : Int) (Q : Int) _ (K7.at_ (by simp)) (K7.at_ (by simp)) (by omega) (by omega) hQ0).mono ?_
     rintro e8 w8 ⟨nn, An, mn, cn, nr, Ar, mr, cr, rfl, IN, IR, hb8⟩
     rw [← Int.ofNat_tdiv] at IN
     rw [← Int.ofNat_tmod] at IR
     have K8 := (K7.next hb8).int IR
     obtain ⟨N, hN⟩ : ∃ N, Z / Q = N := ⟨_, rfl⟩
     obtain ⟨R, hR⟩ : ∃ R, Z % Q = R := ⟨_, rfl⟩
     have HDM : Hid (Q * N + R = Z) := Lib.hid (by rw [← hN, ← hR]; exact Nat.div_add_mod _ _)
     rw [hN] at IN HQB
     rw [hR] at K8
     have HR := Lib.hid hR
     have hmn : mn ≤ 3 := int_len IN (by
      rw [Int.natAbs_natCast]
      exact Nat.lt_of_lt_of_le HQB.out.2.2.2.2 (Nat.pow_le_pow_right (by decide) (by decide)))
     obtain ⟨ln, hln, cln, _, hlv⟩ := IN
     have hlv : Lm.lv ln = N := by have h := congrArg Int.natAbs hlv; rw [sgnd_abs, Int.natAbs_natCast] at h; exact h.symm
     have HLV := Lib.hid hlv
     clear hN hR hlv cln IR hb8 K7
     have K9 := (((K8.pick (L' := [(w.heap.size, [.bool neg, .slice A n c, .bool neg', .slice A' n' c'])]) (l' := [(nr, Ar, mr, cr, (R : Int))]) (by simp) (by simp)).box (.cells #[.bool nn, .slice An mn cn] 24)).var (g := w8.heap.size + 1) (by simp) [.bool nr, .slice Ar mr cr] 24).var (g := w8.heap.size + 1 + 1) (by simp) (lims ln 0) 306
     have hl9 := ((hln.alloc (.cells #[.bool nn, .slice An mn cn] 24)).alloc (.cells #[.bool nr, .slice Ar mr cr] 24)).alloc (.cells (lims ln 0).toArray 306)
     have hz8 : w.heap.size < w8.heap.size := by have := K8.1.size; have := (K8.blk (g := w.heap.size) (vs := [.bool neg, .slice A n c, .bool neg', .slice A' n' c']) (by simp)).1; omega
     clear K8 hln
     go_wp2_with fail
     go_loopw [10, 11, 46] (fun s10 s11 ix wr => ∃ k : Nat, k ≤ mn ∧ ix = .int .i64 (k : Int) ∧ Sl wr An mn cn ln ∧ Mm w [(w8.heap.size + 1 + 1, lims ln k), (w8.heap.size + 1, [.bool nr, .slice Ar mr cr]), (w.heap.size, [.bool neg, .slice A n c, .bool neg', .slice A' n' c'])] [(nr, Ar, mr, cr, (R : Int))] wr)
      (fun _ _ ix _ => mn - (intOf ix).toNat)
     case atStart => exact ⟨0, Nat.zero_le _, rfl, hl9, K9⟩
     case round =>
      clear hl9 K9
      obtain ⟨k, hk, rfl, hl9, K9⟩ := hrel
      by_cases hkm : k = mn
      ·subst hkm
       have hB := K9.blk (g := w8.heap.size + 1 + 1) (vs := lims ln k) (by simp)
       obtain ⟨t0, t1, t2⟩ := lims_all hB (by have := hl9.len; omega)
       have t9z := hB.1
       obtain ⟨⟨qa9, qb9, qc9, qd9⟩, ⟨qe9, qf9, qg9, qh9⟩, qi9⟩ := (K9.blk (g := w.heap.size) (by repeat constructor)).four
       obtain ⟨var9, vbr9, vcr9, vdr9, ver9⟩ := (K9.blk (g := w8.heap.size + 1) (by repeat constructor)).two
       obtain ⟨l0, hl0⟩ : ∃ x, ln.getD 0 0 = x := ⟨_, rfl⟩
       obtain ⟨l1, hl1⟩ : ∃ x, ln.getD 1 0 = x := ⟨_, rfl⟩
       obtain ⟨l2, hl2⟩ : ∃ x, ln.getD 2 0 = x := ⟨_, rfl⟩
       rw [hl0] at t0
       rw [hl1] at t1
       rw [hl2] at t2
       have HL3 : Hid (l0 < 4294967296 ∧ l1 < 4294967296 ∧ l2 < 4294967296 ∧ N = l2 * 18446744073709551616 + (l1 * 4294967296 + l0)) := Lib.hid (by
        rw [← hl0, ← hl1, ← hl2, ← HLV.out]
        exact lv_three hl9.ok (by have := hl9.len; omega))
       clear hl0 hl1 hl2 hB
       have EA : Hid (bits .or .u64 (IntKind.u64.wrap ((l1 : Int) * 4294967296)) (l0 : Int) = ((l1 * 4294967296 + l0 : Nat) : Int)) := Lib.hid (by
        obtain ⟨h1, h2, _⟩ := HL3.out
        rw [IntWalk.u64_in ((l1 : Int) * 4294967296) (by omega)]
        exact or_hi h2 h1)
       have EB : Hid (((R : Int).sign != 0) = decide (Z ≠ N * Q)) := Lib.hid (by
        have h := HDM.out
        rw [Nat.mul_comm] at h
        by_cases h0 : R = 0
        ·rw [h0] at h ⊢
         rw [decide_eq_false (by intro h2; exact h2 h.symm)]
         rfl
        ·rw [decide_eq_true (by intro h2; omega), Int.sign_eq_one_of_pos (by omega)]
         rfl)
       have EC : Hid (IntKind.i64.wrap (s : Int) = (s : Int)) := Lib.hid (by rw [IntWalk.i64_in _ (by omega)])
       have h11 : l2 < 18446744073709551616 := by have := HL3.out.2.2.1; omega
       have h12 : l1 * 4294967296 + l0 < 18446744073709551616 := by have := HL3.out.1; have := HL3.out.2.1; omega
       have h13 : N = l2 * 2 ^ 64 + (l1 * 4294967296 + l0) := HL3.out.2.2.2
       have h14 : N ≠ 0 := by have := HQB.out.2.2.2.1; omega
       have h15 : decide (Z ≠ N * Q) = true → 2 ^ 53 ≤ N := fun _ => by have := HQB.out.2.2.2.1; omega
       have h16 : -2000000 ≤ (s : Int) := by have := HS.out; omega
       have h17 : (s : Int) ≤ 2000000 := by have := HS.out; omega
       go_wp2_with fail
       go_region_held3 (fun w' => w'.cell? ⟨w.heap.size, 0, none⟩ = some (.bool neg) ∧ w'.cell? ⟨w8.heap.size + 1 + 1, 0, none⟩ = some (.int .u64 (l0 : Int)) ∧ w'.cell? ⟨w8.heap.size + 1 + 1, 1, none⟩ = some (.int .u64 (l1 : Int)) ∧ w'.cell? ⟨w8.heap.size + 1 + 1, 2, none⟩ = some (.int .u64 (l2 : Int)) ∧ w'.cell? ⟨w8.heap.size + 1, 0, none⟩ = some (.bool nr) ∧ w'.cell? ⟨w8.heap.size + 1, 1, none⟩ = some (.slice Ar mr cr))
        (go_keep)
        (first
         | (go_at_call 174; apply Calls.withMm (w0 := w); (case K => with_reducible repeat (first | exact K9 | apply Mm.drew | apply Mm.drewN)); intro KX; (with_reducible refine (ex_sign_any nr Ar mr cr (R : Int) _ ?_).mono ?_); (with_reducible exact KX.at_ (by simp)); rintro e10 w10 ⟨rfl, hb10⟩; (with_reducible have K10 := KX.next hb10); obtain ⟨⟨ua, ub, uc, ud⟩, ⟨ue, uf, ug, uh⟩, ui⟩ := (K10.blk (g := w.heap.size) (by repeat constructor)).four; obtain ⟨sa, sb, sc, sd, se⟩ := (K10.blk (g := w8.heap.size + 1) (by repeat constructor)).two; have hc10 := (bcell hb10).1; have r0 := (hc10 _ 0 t9z).trans t0; have r1 := (hc10 _ 1 t9z).trans t1; have r2 := (hc10 _ 2 t9z).trans t2; have t10z := Nat.lt_of_lt_of_le t9z hb10.size; clear KX hb10 hc10)
         | (go_at_call 310; apply Calls.withMm (w0 := w); (case K => with_reducible repeat (first | exact K10 | apply Mm.drew | apply Mm.drewN)); intro KX; rw [EA.out, EB.out, EC.out]; (with_reducible refine (edge_size l2 (l1 * 4294967296 + l0) Z Q N (s : Int) neg (decide (Z ≠ N * Q)) _ ?_ ?_ ?_ ?_ HQB.out.1 HQB.out.2.1 HQB.out.2.2.1 ?_ ?_ ?_ ?_).mono ?_); (exact h11); (exact h12); (exact h13); (exact h14); (exact rfl); (exact h15); (exact h16); (exact h17); rintro e11 w11 ⟨d, u, rfl, hB, hb11⟩; (with_reducible have K11 := KX.next hb11); obtain ⟨⟨ma, mb, mc, md⟩, ⟨me, mf, mg, mh⟩, mi⟩ := (K11.blk (g := w.heap.size) (by repeat constructor)).four; obtain ⟨pa, pb, pc, pd, pe⟩ := (K11.blk (g := w8.heap.size + 1) (by repeat constructor)).two; have hc11 := (bcell hb11).1; have p0 := (hc11 _ 0 t10z).trans r0; have p1 := (hc11 _ 1 t10z).trans r1; have p2 := (hc11 _ 2 t10z).trans r2; have HBK := Lib.hid hB; clear KX hb11 hc11 hB))
       go_wp2_with fail
       go_ret2
       have hR := HBK.out
       rw [← HP.out] at hR
       have hR := (at_cross hZ0 hD neg d u).2 hR
       rw [HNN.out] at hR
       exact ⟨d, u, rfl, hR, K11.1⟩
      ·have hlt : k < mn := by omega
       obtain ⟨ad, rfl, hbd, hld, hcd, hxd⟩ := hl9.at_ hlt
       have hB := K9.blk (g := w8.heap.size + 1 + 1) (vs := lims ln k) (by simp)
       obtain ⟨tc, tf⟩ := hB.2 k (.int .u64 0) (lims_get ln (by omega))
       have hB1 := hB.1
       obtain ⟨x, hx⟩ : ∃ x, ln[k] = x := ⟨_, rfl⟩
       rw [hx] at hcd hxd
       have HX := Lib.hid hx
       have hk0 : (0 : Int) ≤ (k : Int) := Int.natCast_nonneg _
       have hk3 : (k : Int) < 3 := by omega
       have hkl : (k : Int) < (mn : Int) := by omega
       clear hx hkm hB
       go_wp2_with fail
       refine ⟨⟨k + 1, hlt, congrArg (Value.int .i64) (by omega), hl9.store _ tc (by simp), ?_⟩, ?_⟩
       ·have KE := K9.set (by simp <;> omega) (.int .u64 0) (.int .u64 (x : Int)) (lims_get ln (by omega)) (by simp)
        have e : (lims ln k).set k (.int .u64 (x : Int)) = lims ln (k + 1) := by
         rw [← lims_set ln (by omega), List.getD_eq_getElem?_getD, List.getElem?_eq_getElem hld, Option.getD_some, HX.out]
        rw [e] at KE
        exact KE
       ·simp [intOf] <;> omega
    ·obtain ⟨s, hs'⟩ : ∃ s : Nat, (LQ : Int) - (LP : Int) + 64 = (s : Int) := ⟨((LQ : Int) - (LP : Int) + 64).toNat, by omega⟩
     rw [hs']
     have hsb : s ≤ 1000000000 := by omega
     obtain ⟨P, hP⟩ : ∃ P, Z * 2 ^ s = P := ⟨_, rfl⟩
     have HP := Lib.hid hP
     have HQB := Lib.hid (quo_bits (P := P) (Q := D) (b := LQ) bd1 (by rw [← hP, show LQ + 63 = LP - 1 + s by omega, Nat.pow_add]; exact Nat.mul_le_mul_right _ HBZ.out.1) (by rw [← hP, show LQ + 64 = LP + s by omega, Nat.pow_add]; exact Nat.mul_lt_mul_of_pos_right HBZ.out.2 (Nat.two_pow_pos _)) HBD.out.1 HBD.out.2 rfl)
     have HS := Lib.hid hs'
     clear hP hs hs'
     go_wp2_with fail
     refine (ex_double_any false A n c s (Z : Int) _ (K5.at_ (by simp)) (by omega) hsb).mono ?_
     rintro e6 w6 ⟨np, Ap, mp, dp, rfl, I6, hb6⟩
     rw [← Int.natCast_mul, HP.out] at I6
     have K6 := (K5.next hb6).int I6
     have hmp : mp ≤ n' + 2 := int_len I6 (by
      rw [Int.natAbs_natCast]
      have h1 : P < 2 ^ (LQ + 64) := by rw [← HP.out, show LQ + 64 = LP + s by have := HS.out; omega, Nat.pow_add]; exact Nat.mul_lt_mul_of_pos_right HBZ.out.2 (Nat.two_pow_pos _)
      exact Nat.lt_of_lt_of_le h1 (Nat.pow_le_pow_right (by decide) (by omega)))
     clear K5 I6 hb6
     obtain ⟨vap6, vbp6, vcp6, vdp6, vep6⟩ := (K6.blk (g := g4) (by repeat constructor)).two
     obtain ⟨vaq6, vbq6, vcq6, vdq6, veq6⟩ := (K6.blk (g := g5) (by repeat constructor)).two
     have K7 := (K6.pick (L' := [(g4, [.bool false, .slice A n c]), (g5, [.bool neg', .slice A' n' c']), (w.heap.size, [.bool neg, .slice A n c, .bool neg', .slice A' n' c'])]) (l' := [(np, Ap, mp, dp, (P : Int)), (neg', A', n', c', (D : Int))]) (by simp) (by simp)).set2 (by simp <;> omega) np Ap mp dp
     clear K6
     go_wp2_with fail
     refine (ex_Divide_any np neg' Ap A' mp dp n' c' (P : Int) (D : Int) _ (K7.at_ (by simp)) (K7.at_ (by simp)) (by omega) (by omega) (by omega)).mono ?_
     rintro e8 w8 ⟨nn, An, mn, cn, nr, Ar, mr, cr, rfl, IN, IR, hb8⟩
     rw [← Int.ofNat_tdiv] at IN
     rw [← Int.ofNat_tmod] at IR
     have K8 := (K7.next hb8).int IR
     obtain ⟨N, hN⟩ : ∃ N, P / D = N := ⟨_, rfl⟩
     obtain ⟨R, hR⟩ : ∃ R, P % D = R := ⟨_, rfl⟩
     have HDM : Hid (D * N + R = P) := Lib.hid (by rw [← hN, ← hR]; exact Nat.div_add_mod _ _)
     rw [hN] at IN HQB
     rw [hR] at K8
     have HR := Lib.hid hR
     have hmn : mn ≤ 3 := int_len IN (by
      rw [Int.natAbs_natCast]
      exact Nat.lt_of_lt_of_le HQB.out.2.2.2.2 (Nat.pow_le_pow_right (by decide) (by decide)))
     obtain ⟨ln, hln, cln, _, hlv⟩ := IN
     have hlv : Lm.lv ln = N := by have h := congrArg Int.natAbs hlv; rw [sgnd_abs, Int.natAbs_natCast] at h; exact h.symm
     have HLV := Lib.hid hlv
     clear hN hR hlv cln IR hb8 K7
     have K9 := (((K8.pick (L' := [(w.heap.size, [.bool neg, .slice A n c, .bool neg', .slice A' n' c'])]) (l' := [(nr, Ar, mr, cr, (R : Int))]) (by simp) (by simp)).box (.cells #[.bool nn, .slice An mn cn] 24)).var (g := w8.heap.size + 1) (by simp) [.bool nr, .slice Ar mr cr] 24).var (g := w8.heap.size + 1 + 1) (by simp) (lims ln 0) 306
     have hl9 := ((hln.alloc (.cells #[.bool nn, .slice An mn cn] 24)).alloc (.cells #[.bool nr, .slice Ar mr cr] 24)).alloc (.cells (lims ln 0).toArray 306)
     have hz8 : w.heap.size < w8.heap.size := by have := K8.1.size; have := (K8.blk (g := w.heap.size) (vs := [.bool neg, .slice A n c, .bool neg', .slice A' n' c']) (by simp)).1; omega
     clear K8 hln
     go_wp2_with fail
     go_loopw [10, 11, 46] (fun s10 s11 ix wr => ∃ k : Nat, k ≤ mn ∧ ix = .int .i64 (k : Int) ∧ Sl wr An mn cn ln ∧ Mm w [(w8.heap.size + 1 + 1, lims ln k), (w8.heap.size + 1, [.bool nr, .slice Ar mr cr]), (w.heap.size, [.bool neg, .slice A n c, .bool neg', .slice A' n' c'])] [(nr, Ar, mr, cr, (R : Int))] wr)
      (fun _ _ ix _ => mn - (intOf ix).toNat)
     case atStart => exact ⟨0, Nat.zero_le _, rfl, hl9, K9⟩
     case round =>
      clear hl9 K9
      obtain ⟨k, hk, rfl, hl9, K9⟩ := hrel
      by_cases hkm : k = mn
      ·subst hkm
       have hB := K9.blk (g := w8.heap.size + 1 + 1) (vs := lims ln k) (by simp)
       obtain ⟨t0, t1, t2⟩ := lims_all hB (by have := hl9.len; omega)
       have t9z := hB.1
       obtain ⟨⟨qa9, qb9, qc9, qd9⟩, ⟨qe9, qf9, qg9, qh9⟩, qi9⟩ := (K9.blk (g := w.heap.size) (by repeat constructor)).four
       obtain ⟨var9, vbr9, vcr9, vdr9, ver9⟩ := (K9.blk (g := w8.heap.size + 1) (by repeat constructor)).two
       obtain ⟨l0, hl0⟩ : ∃ x, ln.getD 0 0 = x := ⟨_, rfl⟩
       obtain ⟨l1, hl1⟩ : ∃ x, ln.getD 1 0 = x := ⟨_, rfl⟩
       obtain ⟨l2, hl2⟩ : ∃ x, ln.getD 2 0 = x := ⟨_, rfl⟩
       rw [hl0] at t0
       rw [hl1] at t1
       rw [hl2] at t2
       have HL3 : Hid (l0 < 4294967296 ∧ l1 < 4294967296 ∧ l2 < 4294967296 ∧ N = l2 * 18446744073709551616 + (l1 * 4294967296 + l0)) := Lib.hid (by
        rw [← hl0, ← hl1, ← hl2, ← HLV.out]
        exact lv_three hl9.ok (by have := hl9.len; omega))
       clear hl0 hl1 hl2 hB
       have EA : Hid (bits .or .u64 (IntKind.u64.wrap ((l1 : Int) * 4294967296)) (l0 : Int) = ((l1 * 4294967296 + l0 : Nat) : Int)) := Lib.hid (by
        obtain ⟨h1, h2, _⟩ := HL3.out
        rw [IntWalk.u64_in ((l1 : Int) * 4294967296) (by omega)]
        exact or_hi h2 h1)
       have EB : Hid (((R : Int).sign != 0) = decide (P ≠ N * D)) := Lib.hid (by
        have h := HDM.out
        rw [Nat.mul_comm] at h
        by_cases h0 : R = 0
        ·rw [h0] at h ⊢
         rw [decide_eq_false (by intro h2; exact h2 h.symm)]
         rfl
        ·rw [decide_eq_true (by intro h2; omega), Int.sign_eq_one_of_pos (by omega)]
         rfl)
       have EC : Hid (IntKind.i64.wrap (-(s : Int)) = (-(s : Int))) := Lib.hid (by rw [IntWalk.i64_in _ (by omega)])
       have h11 : l2 < 18446744073709551616 := by have := HL3.out.2.2.1; omega
       have h12 : l1 * 4294967296 + l0 < 18446744073709551616 := by have := HL3.out.1; have := HL3.out.2.1; omega
       have h13 : N = l2 * 2 ^ 64 + (l1 * 4294967296 + l0) := HL3.out.2.2.2
       have h14 : N ≠ 0 := by have := HQB.out.2.2.2.1; omega
       have h15 : decide (P ≠ N * D) = true → 2 ^ 53 ≤ N := fun _ => by have := HQB.out.2.2.2.1; omega
       have h16 : -2000000 ≤ (-(s : Int)) := by have := HS.out; omega
       have h17 : (-(s : Int)) ≤ 2000000 := by have := HS.out; omega
       go_wp2_with fail
       go_region_held3 (fun w' => w'.cell? ⟨w.heap.size, 0, none⟩ = some (.bool neg) ∧ w'.cell? ⟨w8.heap.size + 1 + 1, 0, none⟩ = some (.int .u64 (l0 : Int)) ∧ w'.cell? ⟨w8.heap.size + 1 + 1, 1, none⟩ = some (.int .u64 (l1 : Int)) ∧ w'.cell? ⟨w8.heap.size + 1 + 1, 2, none⟩ = some (.int .u64 (l2 : Int)) ∧ w'.cell? ⟨w8.heap.size + 1, 0, none⟩ = some (.bool nr) ∧ w'.cell? ⟨w8.heap.size + 1, 1, none⟩ = some (.slice Ar mr cr))
        (go_keep)
        (first
         | (go_at_call 174; apply Calls.withMm (w0 := w); (case K => with_reducible repeat (first | exact K9 | apply Mm.drew | apply Mm.drewN)); intro KX; (with_reducible refine (ex_sign_any nr Ar mr cr (R : Int) _ ?_).mono ?_); (with_reducible exact KX.at_ (by simp)); rintro e10 w10 ⟨rfl, hb10⟩; (with_reducible have K10 := KX.next hb10); obtain ⟨⟨ua, ub, uc, ud⟩, ⟨ue, uf, ug, uh⟩, ui⟩ := (K10.blk (g := w.heap.size) (by repeat constructor)).four; obtain ⟨sa, sb, sc, sd, se⟩ := (K10.blk (g := w8.heap.size + 1) (by repeat constructor)).two; have hc10 := (bcell hb10).1; have r0 := (hc10 _ 0 t9z).trans t0; have r1 := (hc10 _ 1 t9z).trans t1; have r2 := (hc10 _ 2 t9z).trans t2; have t10z := Nat.lt_of_lt_of_le t9z hb10.size; clear KX hb10 hc10)
         | (go_at_call 310; apply Calls.withMm (w0 := w); (case K => with_reducible repeat (first | exact K10 | apply Mm.drew | apply Mm.drewN)); intro KX; rw [EA.out, EB.out, EC.out]; (with_reducible refine (edge_size l2 (l1 * 4294967296 + l0) P D N (-(s : Int)) neg (decide (P ≠ N * D)) _ ?_ ?_ ?_ ?_ HQB.out.1 HQB.out.2.1 HQB.out.2.2.1 ?_ ?_ ?_ ?_).mono ?_); (exact h11); (exact h12); (exact h13); (exact h14); (exact rfl); (exact h15); (exact h16); (exact h17); rintro e11 w11 ⟨d, u, rfl, hB, hb11⟩; (with_reducible have K11 := KX.next hb11); obtain ⟨⟨ma, mb, mc, md⟩, ⟨me, mf, mg, mh⟩, mi⟩ := (K11.blk (g := w.heap.size) (by repeat constructor)).four; obtain ⟨pa, pb, pc, pd, pe⟩ := (K11.blk (g := w8.heap.size + 1) (by repeat constructor)).two; have hc11 := (bcell hb11).1; have p0 := (hc11 _ 0 t10z).trans r0; have p1 := (hc11 _ 1 t10z).trans r1; have p2 := (hc11 _ 2 t10z).trans r2; have HBK := Lib.hid hB; clear KX hb11 hc11 hB))
       go_wp2_with fail
       go_ret2
       have hR := HBK.out
       rw [← HP.out] at hR
       have hR := (at_cross hZ0 hD neg d u).1 hR
       rw [HNN.out] at hR
       exact ⟨d, u, rfl, hR, K11.1⟩
      ·have hlt : k < mn := by omega
       obtain ⟨ad, rfl, hbd, hld, hcd, hxd⟩ := hl9.at_ hlt
       have hB := K9.blk (g := w8.heap.size + 1 + 1) (vs := lims ln k) (by simp)
       obtain ⟨tc, tf⟩ := hB.2 k (.int .u64 0) (lims_get ln (by omega))
       have hB1 := hB.1
       obtain ⟨x, hx⟩ : ∃ x, ln[k] = x := ⟨_, rfl⟩
       rw [hx] at hcd hxd
       have HX := Lib.hid hx
       have hk0 : (0 : Int) ≤ (k : Int) := Int.natCast_nonneg _
       have hk3 : (k : Int) < 3 := by omega
       have hkl : (k : Int) < (mn : Int) := by omega
       clear hx hkm hB
       go_wp2_with fail
       refine ⟨⟨k + 1, hlt, congrArg (Value.int .i64) (by omega), hl9.store _ tc (by simp), ?_⟩, ?_⟩
       ·have KE := K9.set (by simp <;> omega) (.int .u64 0) (.int .u64 (x : Int)) (lims_get ln (by omega)) (by simp)
        have e : (lims ln k).set k (.int .u64 (x : Int)) = lims ln (k + 1) := by
         rw [← lims_set ln (by omega), List.getD_eq_getElem?_getD, List.getElem?_eq_getElem hld, Option.getD_some, HX.out]
        rw [e] at KE
        exact KE
       ·simp [intOf] <;> omega
end Go.Proofs.YtgekmbfmfiikkaaGreatDoor
