/-
  What may be: two or four fractions, a matrix, a beam.
  The program's fractions (package ratio): products, quotients, sums, differences; held against one another.
  The fractions (frac): may one be, what a float is worth, two against one another.
  A fraction in memory of its own (ratio.Copy), the answer of an operation (frac.answered).
  The operations of frac: always, do, Add, Sub, Mul, of fractions that may be where the answer is short.
  Whether sizes, taken together, are too many to be copied (polestarlaw01.Beyond).
-/
import Derived.Test.YtgekmbfmfiikkaaGreatDoorMeg
import Derived.Test.YtgekmbfmfiikkaaGreatDoorOwH
import Derived.Test.YtgekmbfmfiikkaaGreatDoorRaL
import Derived.Test.YtgekmbfmfiikkaaGreatDoorTzF
import Derived.Test.YtgekmbfmfiikkaaGreatDoorZero
set_option maxHeartbeats 3200000
set_option maxRecDepth 100000
namespace Go.Proofs.YtgekmbfmfiikkaaGreatDoor
open Go.RowKit
def two (a b : LmE) : Nat → LmE := fun i => if i = 0 then a else b
def four (a b c d : LmE) : Nat → LmE := fun i => if i = 0 then a else if i = 1 then b else if i = 2 then c else d
theorem lfs_two (w : World) {g : Nat} (hg : w.heap.size = g) (t : TypeId) {a b : LmE} (ha : LmE.at_ w a) (hb : LmE.at_ w b) : Lfs (w.alloc (.cells (a.vs ++ b.vs).toArray t)) g 2 (two a b) := by
 have hB := Blk.new w hg (a.vs ++ b.vs) t
 have hn : Below w.heap.size w (w.alloc (.cells (a.vs ++ b.vs).toArray t)) := (Below.refl _ _).alloc (Nat.le_refl _) _
 refine ⟨hB.1, fun i hi => ?_⟩
 match i, hi with
 | 0, _ => exact ⟨⟨(hB.2 0 _ rfl).1, (hB.2 1 _ rfl).1, (hB.2 2 _ rfl).1, (hB.2 3 _ rfl).1⟩, LmE.at_.below ha hn⟩
 | 1, _ => exact ⟨⟨(hB.2 4 _ rfl).1, (hB.2 5 _ rfl).1, (hB.2 6 _ rfl).1, (hB.2 7 _ rfl).1⟩, LmE.at_.below hb hn⟩
theorem lfs_four (w : World) {g : Nat} (hg : w.heap.size = g) (t : TypeId) {a b c d : LmE} (ha : LmE.at_ w a) (hb : LmE.at_ w b) (hc : LmE.at_ w c) (hd : LmE.at_ w d) : Lfs (w.alloc (.cells (a.vs ++ b.vs ++ c.vs ++ d.vs).toArray t)) g 4 (four a b c d) := by
 have hB := Blk.new w hg (a.vs ++ b.vs ++ c.vs ++ d.vs) t
 have hn : Below w.heap.size w (w.alloc (.cells (a.vs ++ b.vs ++ c.vs ++ d.vs).toArray t)) := (Below.refl _ _).alloc (Nat.le_refl _) _
 refine ⟨hB.1, fun i hi => ?_⟩
 match i, hi with
 | 0, _ => exact ⟨⟨(hB.2 0 _ rfl).1, (hB.2 1 _ rfl).1, (hB.2 2 _ rfl).1, (hB.2 3 _ rfl).1⟩, LmE.at_.below ha hn⟩
 | 1, _ => exact ⟨⟨(hB.2 4 _ rfl).1, (hB.2 5 _ rfl).1, (hB.2 6 _ rfl).1, (hB.2 7 _ rfl).1⟩, LmE.at_.below hb hn⟩
 | 2, _ => exact ⟨⟨(hB.2 8 _ rfl).1, (hB.2 9 _ rfl).1, (hB.2 10 _ rfl).1, (hB.2 11 _ rfl).1⟩, LmE.at_.below hc hn⟩
 | 3, _ => exact ⟨⟨(hB.2 12 _ rfl).1, (hB.2 13 _ rfl).1, (hB.2 14 _ rfl).1, (hB.2 15 _ rfl).1⟩, LmE.at_.below hd hn⟩
theorem okAll_two (a b : LmE) : okAll (two a b) 2 = (okB a && okB b) := by simp [okAll, two]
theorem okAll_four (a b c d : LmE) : okAll (four a b c d) 4 = (okB a && okB b && okB c && okB d) := by simp [okAll, four]
noncomputable def rv (f : LmE) : Rat := Rat.divInt (sgnd f.1.1 (Lm.lv f.1.2.2.2.2)) (sgnd f.2.1 (Lm.lv f.2.2.2.2.2))
theorem ok_num {f : LmE} (h : okB f = true) : (rv f).num = sgnd f.1.1 (Lm.lv f.1.2.2.2.2) ∧ ((rv f).den : Int) = sgnd f.2.1 (Lm.lv f.2.2.2.2.2) := by
 have ho := (okB_iff f).1 h
 have h3 := ho.2.2.1
 have hg : (1 : Nat) = Nat.gcd (sgnd f.1.1 (Lm.lv f.1.2.2.2.2)).natAbs (sgnd f.2.1 (Lm.lv f.2.2.2.2.2)).natAbs := by rw [sgnd_abs, sgnd_abs]; exact ho.2.2.2.symm
 have e1 := low_num (p := sgnd f.1.1 (Lm.lv f.1.2.2.2.2)) (q := sgnd f.2.1 (Lm.lv f.2.2.2.2.2)) (by omega) hg
 have e2 := low_den (p := sgnd f.1.1 (Lm.lv f.1.2.2.2.2)) (q := sgnd f.2.1 (Lm.lv f.2.2.2.2.2)) (by omega) hg
 unfold tn at e1 e2
 rw [if_neg (by omega), Int.natCast_one, Int.tdiv_one] at e1 e2
 exact ⟨e1.symm, e2.symm⟩
theorem ok_ints {w : World} {f : LmE} (h : okB f = true) (ha : LmE.at_ w f) :
  IsInt w f.1.1 f.1.2.1 f.1.2.2.1 f.1.2.2.2.1 (rv f).num ∧ IsInt w f.2.1 f.2.2.1 f.2.2.2.1 f.2.2.2.2.1 ((rv f).den : Int) ∧ Sz (rv f) 2048 := by
 obtain ⟨e1, e2⟩ := ok_num h
 have ho := (okB_iff f).1 h
 have h1 : IsInt w f.1.1 f.1.2.1 f.1.2.2.1 f.1.2.2.2.1 (rv f).num := ⟨_, ha.1, ho.1.2.1, ho.1.2.2, e1⟩
 have h2 : IsInt w f.2.1 f.2.2.1 f.2.2.2.1 f.2.2.2.2.1 ((rv f).den : Int) := ⟨_, ha.2.1, ho.2.1.2.1, ho.2.1.2.2, e2⟩
 refine ⟨h1, h2, sz_of h1 h2 ?_ ?_⟩
 ·rw [← ha.1.len]; exact ho.1.1
 ·rw [← ha.2.1.len]; exact ho.2.1.1
noncomputable def okM (a b c d : LmE) : Bool := okB a && okB b && okB c && okB d && decide (rv a * rv d - rv b * rv c = 1)
noncomputable def chkBm (a b : LmE) : Int := if okB a && okB b then (if 0 < rv b then 0 else 8) else 1
theorem rat_num_sign (x : Rat) : (0 < x → x.num.sign = 1) ∧ (¬ 0 < x → x.num.sign = 0 ∨ x.num.sign = -1) := by
 have h := rcmp_sign x 0
 have e : x.num * (((0 : Rat).den : Nat) : Int) - (0 : Rat).num * (x.den : Int) = x.num := by
  rw [show (0 : Rat).num = 0 from rfl, show (0 : Rat).den = 1 from rfl]
  omega
 rw [e] at h
 rw [h]
 unfold rcmp
 constructor
 ·intro hp
  rw [if_neg (by grind), if_pos hp]
 ·intro hp
  by_cases hn : x < 0
  ·rw [if_pos hn]; exact .inr rfl
  ·rw [if_neg hn, if_neg hp]; exact .inl rfl
theorem rcmp_eq (x y : Rat) : (rcmp x y == 0) = decide (x = y) := by
 unfold rcmp
 by_cases h1 : x < y
 ·rw [if_pos h1, decide_eq_false (fun e => by rw [e] at h1; exact Rat.lt_irrefl h1)]; rfl
 ·rw [if_neg h1]
  by_cases h2 : y < x
  ·rw [if_pos h2, decide_eq_false (fun e => by rw [e] at h2; exact Rat.lt_irrefl h2)]; rfl
  ·rw [if_neg h2, decide_eq_true (Rat.le_antisymm (Rat.not_lt.1 h2) (Rat.not_lt.1 h1))]; rfl
end Go.Proofs.YtgekmbfmfiikkaaGreatDoor
namespace Go.Proofs.YtgekmbfmfiikkaaGreatDoor
open Go.RowKit
theorem icmp_rcmp (x y : Rat) : icmp (x.num * (y.den : Int)) (y.num * (x.den : Int)) = rcmp x y := by
 rw [← rcmp_sign]
 obtain ⟨h1, h2, h3⟩ := icmp_facts (x.num * (y.den : Int)) (y.num * (x.den : Int))
 rcases Int.lt_trichotomy (x.num * (y.den : Int)) (y.num * (x.den : Int)) with h | h | h
 ·rw [h1 h, Int.sign_eq_neg_one_of_neg (by omega)]
 ·rw [h3 h, h, Int.sub_self]; rfl
 ·rw [h2 h, Int.sign_eq_one_of_pos (by omega)]
theorem rat_cmp_any (neg neg' : Bool) (A A' : Option Addr) (n c n' c' : Nat) (nfg nfg' : Bool) (C C' : Option Addr) (p q p' q' : Nat) (x y : Rat) (v : Int) (m k : Nat) (w : World) (hx : IsInt w neg A n c x.num) (hx' : IsInt w neg' A' n' c' (x.den : Int)) (hy : IsInt w nfg C p q y.num) (hy' : IsInt w nfg' C' p' q' (y.den : Int)) (sx : Sz x m) (sy : Sz y k) (hm : m + k < 1000000) (hv : Hid (rcmp x y = v)) :
  Calls Tryz.prog 142 #[.agg #[.bool neg, .slice A n c, .bool neg', .slice A' n' c'], .agg #[.bool nfg, .slice C p q, .bool nfg', .slice C' p' q']] w (RetV w (.int .i64 v)) := by
 have K0 := ((((((Mm.nil w).int hx).int hx').int hy).int hy').var (g := w.heap.size) rfl [.bool neg, .slice A n c, .bool neg', .slice A' n' c'] 26).var (g := w.heap.size + 1) (by simp) [.bool nfg, .slice C p q, .bool nfg', .slice C' p' q'] 26
 have hn := int_len hx sx.1
 have hn' := int_len hx' sx.2
 have hp := int_len hy sy.1
 have hp' := int_len hy' sy.2
 have HP1 : Hid ((x.num * (y.den : Int)).natAbs < 2 ^ (32 * (m + k))) := Lib.hid (by rw [Int.natAbs_mul]; exact mul_lt_pow sx.1 sy.2)
 have HP2 : Hid ((y.num * (x.den : Int)).natAbs < 2 ^ (32 * (m + k))) := Lib.hid (by rw [Int.natAbs_mul, Nat.add_comm m k]; exact mul_lt_pow sy.1 sx.2)
 have HP3 : Hid ((x.num * (y.den : Int) - y.num * (x.den : Int)).natAbs < 2 ^ (32 * (m + k + 1))) := Lib.hid (by
  have h3 := add_lt_pow HP1.out HP2.out
  have h4 : (x.num * (y.den : Int) - y.num * (x.den : Int)).natAbs ≤ (x.num * (y.den : Int)).natAbs + (y.num * (x.den : Int)).natAbs := by omega
  omega)
 have HS : Hid (icmp (x.num * (y.den : Int)) (y.num * (x.den : Int)) = v) := Lib.hid (by rw [icmp_rcmp]; exact hv.out)
 clear hv HP3
 clear hx hx' hy hy' sx sy
 go_enter Tryz.func142, Tryz.ntmps142
 go_wp2_with fail
 generalize ((w.alloc (.cells #[.bool neg, .slice A n c, .bool neg', .slice A' n' c'] 26)).alloc (.cells #[.bool nfg, .slice C p q, .bool nfg', .slice C' p' q'] 26)) = w0 at K0 ⊢
 obtain ⟨⟨_, _, _, _⟩, ⟨_, _, _, _⟩, _⟩ := (K0.blk (g := w.heap.size) (by repeat constructor)).four
 obtain ⟨⟨_, _, _, _⟩, ⟨_, _, _, _⟩, _⟩ := (K0.blk (g := w.heap.size + 1) (by repeat constructor)).four
 go_region_held3 (fun w' => w'.cell? ⟨w.heap.size, 0, none⟩ = some (.bool neg) ∧ w'.cell? ⟨w.heap.size, 1, none⟩ = some (.slice A n c) ∧ w'.cell? ⟨w.heap.size, 2, none⟩ = some (.bool neg') ∧ w'.cell? ⟨w.heap.size, 3, none⟩ = some (.slice A' n' c') ∧ w'.cell? ⟨w.heap.size + 1, 0, none⟩ = some (.bool nfg) ∧ w'.cell? ⟨w.heap.size + 1, 1, none⟩ = some (.slice C p q) ∧ w'.cell? ⟨w.heap.size + 1, 2, none⟩ = some (.bool nfg') ∧ w'.cell? ⟨w.heap.size + 1, 3, none⟩ = some (.slice C' p' q'))
  (go_keep)
  (first
   | (go_at_call 221; apply Calls.withMm (w0 := w); (case K => with_reducible repeat (first | exact K0 | apply Mm.drew | apply Mm.drewN)); intro KX; (with_reducible refine (ex_times_any neg nfg' A C' n c p' q' x.num (y.den : Int) _ ?_ ?_ (by omega) (by omega)).mono ?_); (with_reducible exact KX.at_ (by simp)); (with_reducible exact KX.at_ (by simp)); rintro e1 w1 ⟨neg1, A1, n1, c1, rfl, I1, hb1⟩; (with_reducible have K1 := (KX.next hb1).int I1); have hn1 : n1 ≤ 1000000 := Nat.le_trans (int_len I1 HP1.out) (by omega); have Q1x := (K1.blk (g := w.heap.size) (by repeat constructor)).four; obtain ⟨⟨qa1x, qb1x, qc1x, qd1x⟩, ⟨qe1x, qf1x, qg1x, qh1x⟩, qi1x⟩ := Q1x; have Q1y := (K1.blk (g := w.heap.size + 1) (by repeat constructor)).four; obtain ⟨⟨qa1y, qb1y, qc1y, qd1y⟩, ⟨qe1y, qf1y, qg1y, qh1y⟩, qi1y⟩ := Q1y; clear KX I1 hb1)
   | (go_at_call 221; apply Calls.withMm (w0 := w); (case K => with_reducible repeat (first | exact K1 | apply Mm.drew | apply Mm.drewN)); intro KX; (with_reducible refine (ex_times_any nfg neg' C A' p q n' c' y.num (x.den : Int) _ ?_ ?_ (by omega) (by omega)).mono ?_); (with_reducible exact KX.at_ (by simp)); (with_reducible exact KX.at_ (by simp)); rintro e2 w2 ⟨neg2, A2, n2, c2, rfl, I2, hb2⟩; (with_reducible have K2 := (KX.next hb2).int I2); have hn2 : n2 ≤ 1000000 := Nat.le_trans (int_len I2 HP2.out) (by omega); have Q2x := (K2.blk (g := w.heap.size) (by repeat constructor)).four; obtain ⟨⟨qa2x, qb2x, qc2x, qd2x⟩, ⟨qe2x, qf2x, qg2x, qh2x⟩, qi2x⟩ := Q2x; have Q2y := (K2.blk (g := w.heap.size + 1) (by repeat constructor)).four; obtain ⟨⟨qa2y, qb2y, qc2y, qd2y⟩, ⟨qe2y, qf2y, qg2y, qh2y⟩, qi2y⟩ := Q2y; clear KX I2 hb2)
   | (go_at_call 220; apply Calls.withMm (w0 := w); (case K => with_reducible repeat (first | exact K2 | apply Mm.drew | apply Mm.drewN)); intro KX; (with_reducible refine (ex_cmp_of neg1 neg2 A1 A2 n1 c1 n2 c2 (x.num * (y.den : Int)) (y.num * (x.den : Int)) v _ ?_ ?_ (by omega) (by omega) HS).mono ?_); (with_reducible exact KX.at_ (by simp)); (with_reducible exact KX.at_ (by simp)); rintro e3 w3 ⟨rfl, hb3⟩; (with_reducible have K3 := (KX.next hb3)); have Q3x := (K3.blk (g := w.heap.size) (by repeat constructor)).four; obtain ⟨⟨qa3x, qb3x, qc3x, qd3x⟩, ⟨qe3x, qf3x, qg3x, qh3x⟩, qi3x⟩ := Q3x; have Q3y := (K3.blk (g := w.heap.size + 1) (by repeat constructor)).four; obtain ⟨⟨qa3y, qb3y, qc3y, qd3y⟩, ⟨qe3y, qf3y, qg3y, qh3y⟩, qi3y⟩ := Q3y; clear KX hb3))
 all_goals (go_wp2_with fail)
 all_goals go_ret
 all_goals exact ⟨rfl, K3.1⟩
theorem rat_times_any (neg neg' : Bool) (A A' : Option Addr) (n c n' c' : Nat) (nfg nfg' : Bool) (C C' : Option Addr) (p q p' q' : Nat) (x y : Rat) (r : Rat) (m k : Nat) (w : World) (hx : IsInt w neg A n c x.num) (hx' : IsInt w neg' A' n' c' (x.den : Int)) (hy : IsInt w nfg C p q y.num) (hy' : IsInt w nfg' C' p' q' (y.den : Int)) (sx : Sz x m) (sy : Sz y k) (hm : m + k < 1000000) (hr : Hid (x * y = r)) :
  Calls Tryz.prog 140 #[.agg #[.bool neg, .slice A n c, .bool neg', .slice A' n' c'], .agg #[.bool nfg, .slice C p q, .bool nfg', .slice C' p' q']] w (RetFr w r) :=
 (owr_times_any neg neg' A A' n c n' c' nfg nfg' C C' p q p' q' x y r m k w hx hx' hy hy' sx sy hm hr).mono fun _ _ h => h.fg
theorem rat_plus_any (neg neg' : Bool) (A A' : Option Addr) (n c n' c' : Nat) (nfg nfg' : Bool) (C C' : Option Addr) (p q p' q' : Nat) (x y : Rat) (r : Rat) (m k : Nat) (w : World) (hx : IsInt w neg A n c x.num) (hx' : IsInt w neg' A' n' c' (x.den : Int)) (hy : IsInt w nfg C p q y.num) (hy' : IsInt w nfg' C' p' q' (y.den : Int)) (sx : Sz x m) (sy : Sz y k) (hm : m + k < 1000000) (hr : Hid (x + y = r)) :
  Calls Tryz.prog 141 #[.agg #[.bool neg, .slice A n c, .bool neg', .slice A' n' c'], .agg #[.bool nfg, .slice C p q, .bool nfg', .slice C' p' q']] w (RetFr w r) :=
 (owr_plus_any neg neg' A A' n c n' c' nfg nfg' C C' p q p' q' x y r m k w hx hx' hy hy' sx sy hm hr).mono fun _ _ h => h.fg
theorem rat_minus_any (neg neg' : Bool) (A A' : Option Addr) (n c n' c' : Nat) (nfg nfg' : Bool) (C C' : Option Addr) (p q p' q' : Nat) (x y : Rat) (r : Rat) (m k : Nat) (w : World) (hx : IsInt w neg A n c x.num) (hx' : IsInt w neg' A' n' c' (x.den : Int)) (hy : IsInt w nfg C p q y.num) (hy' : IsInt w nfg' C' p' q' (y.den : Int)) (sx : Sz x m) (sy : Sz y k) (hm : m + k < 1000000) (hr : Hid (x - y = r)) :
  Calls Tryz.prog 139 #[.agg #[.bool neg, .slice A n c, .bool neg', .slice A' n' c'], .agg #[.bool nfg, .slice C p q, .bool nfg', .slice C' p' q']] w (RetFr w r) :=
 (owr_minus_any neg neg' A A' n c n' c' nfg nfg' C C' p q p' q' x y r m k w hx hx' hy hy' sx sy hm hr).mono fun _ _ h => h.fg
end Go.Proofs.YtgekmbfmfiikkaaGreatDoor
namespace Go.Proofs.YtgekmbfmfiikkaaGreatDoor
open Go.RowKit
def OkF (w : World) (f : LmE) (r : Rat) : Prop := LmE.at_ w f ∧ okB f = true ∧ rv f = r
theorem OkF.next {w w' : World} {f : LmE} {r : Rat} (h : OkF w f r) (hb : Below w.heap.size w w') : OkF w' f r := ⟨LmE.at_.below h.1 hb, h.2⟩
theorem okF_of {w : World} {neg neg' : Bool} {A A' : Option Addr} {n c n' c' : Nat} {r : Rat} (I : IsInt w neg A n c r.num) (J : IsInt w neg' A' n' c' (r.den : Int)) (hs : Sz r 2048) :
  ∃ l l', OkF w ((neg, A, n, c, l), (neg', A', n', c', l')) r := by
 have h1 := int_len I hs.1
 have h2 := int_len J hs.2
 obtain ⟨l, S1, c1, g1, z1⟩ := I
 obtain ⟨l', S2, c2, g2, z2⟩ := J
 have hd : 0 < sgnd neg' (Lm.lv l') := by rw [← z2]; have := r.den_nz; omega
 have hg : Nat.gcd (Lm.lv l) (Lm.lv l') = 1 := by
  have e1 : r.num.natAbs = Lm.lv l := by rw [z1, sgnd_abs]
  have e2 : r.den = Lm.lv l' := by
   have : ((r.den : Int)).natAbs = Lm.lv l' := by rw [z2, sgnd_abs]
   simpa using this
  rw [← e1, ← e2]
  exact r.reduced
 refine ⟨l, l', ⟨S1, S2, Nat.le_trans h1 (by decide), Nat.le_trans h2 (by decide)⟩, (okB_iff _).2 ⟨⟨by show l.length ≤ 2048; have := S1.len; omega, c1, g1⟩, ⟨by show l'.length ≤ 2048; have := S2.len; omega, c2, g2⟩, hd, hg⟩, ?_⟩
 show Rat.divInt (sgnd neg (Lm.lv l)) (sgnd neg' (Lm.lv l')) = r
 rw [← z1, ← z2]
 exact Rat.num_divInt_den r
theorem OkF.ints {w : World} {neg : Bool} {A : Option Addr} {n c : Nat} {l : List Nat} {neg' : Bool} {A' : Option Addr} {n' c' : Nat} {l' : List Nat} {r : Rat} (h : OkF w ((neg, A, n, c, l), (neg', A', n', c', l')) r) : IsInt w neg A n c r.num ∧ IsInt w neg' A' n' c' (r.den : Int) ∧ Sz r 2048 := by
 have := ok_ints h.2.1 h.1
 rw [h.2.2] at this
 exact this
end Go.Proofs.YtgekmbfmfiikkaaGreatDoor
namespace Go.Proofs.YtgekmbfmfiikkaaGreatDoor
open Go.RowKit
theorem rat_copy_any (neg neg' : Bool) (A A' : Option Addr) (n c n' c' : Nat) (r : Rat) (w : World) (hx : IsInt w neg A n c r.num) (hx' : IsInt w neg' A' n' c' (r.den : Int)) (hn : n ≤ 2048) (hn' : n' ≤ 2048) :
  Calls Tryz.prog 150 #[.agg #[.bool neg, .slice A n c, .bool neg', .slice A' n' c']] w (RetFr w r) :=
 (owr_copy_any neg neg' A A' n c n' c' r w hx hx' hn hn').mono fun _ _ h => h.fg
def RetFo (W : World) (x : Rat) (e : Ending) (w' : World) : Prop :=
 ∃ (neg : Bool) (A : Option Addr) (n c : Nat) (neg' : Bool) (A' : Option Addr) (n' c' : Nat), e = .returned (.tuple #[.agg #[.bool neg, .slice A n c, .bool neg', .slice A' n' c'], .int .i64 0]) ∧ IsInt w' neg A n c x.num ∧ IsInt w' neg' A' n' c' (x.den : Int) ∧ Below W.heap.size W w'
theorem frac_answered_any (neg neg' : Bool) (A A' : Option Addr) (n c n' c' : Nat) (r : Rat) (w : World) (hx : IsInt w neg A n c r.num) (hx' : IsInt w neg' A' n' c' (r.den : Int)) (hs : Sz r 2048) :
  Calls Tryz.prog 253 #[.agg #[.bool neg, .slice A n c, .bool neg', .slice A' n' c']] w (RetFo w r) := by
 have hn := int_len hx hs.1
 have hn' := int_len hx' hs.2
 have K0 := (((((Mm.nil w).int hx).int hx').var (g := w.heap.size) rfl [.bool neg, .slice A n c, .bool neg', .slice A' n' c'] 26).var (g := w.heap.size + 1) (by simp) [.bool false, .slice none 0 0, .bool false, .slice none 0 0] 26)
 clear hx hx' hs
 go_enter Tryz.func253, Tryz.ntmps253
 go_wp2_with fail
 refine (rat_answer_no (w.heap.size + 1 + 1) neg neg' A A' n c n' c' _ (by simp) (by simp [go_sem]) (by simp [go_sem]) (by simp [go_sem]) (by simp [go_sem]) hn hn').mono ?_
 rintro e1 w1 ⟨rfl, hb1⟩
 have K1 := (K0.box (.cells #[.bool neg, .slice A n c, .bool neg', .slice A' n' c'] 26)).next hb1
 clear K0 hb1
 obtain ⟨⟨_, _, _, _⟩, _, _⟩ := (K1.blk (g := w.heap.size) (by repeat constructor)).four
 go_wp2_with fail
 refine (rat_copy_any neg neg' A A' n c n' c' r _ (K1.at_ (by simp)) (K1.at_ (by simp)) hn hn').mono ?_
 rintro e2 w2 ⟨neg2, A2, n2, c2, neg3, A3, n3, c3, rfl, I2, J2, hb2⟩
 have K2 := ((K1.next hb2).int J2).int I2
 clear K1 hb2 I2 J2
 obtain ⟨⟨ra3, rb3, rc3, rd3⟩, ⟨_, _, _, _⟩, _⟩ := (K2.blk (g := w.heap.size + 1) (by repeat constructor)).four
 go_wp2_with fail
 have KE := (K2.pick (L' := [(w.heap.size + 1, [.bool false, .slice none 0 0, .bool false, .slice none 0 0])]) (l' := [(neg2, A2, n2, c2, r.num), (neg3, A3, n3, c3, (r.den : Int))]) (by simp) (by simp)).set4 (by simp <;> omega) neg2 A2 n2 c2 neg3 A3 n3 c3
 exact bodyPost_ret (v := .tuple #[.agg #[.bool neg2, .slice A2 n2 c2, .bool neg3, .slice A3 n3 c3], .int .i64 0]) (by simp [results, Tryz.results253, go_sem, ra3, rb3, rc3, rd3]) rfl ⟨_, _, _, _, _, _, _, _, rfl, KE.at_ (by simp), KE.at_ (by simp), KE.1⟩
end Go.Proofs.YtgekmbfmfiikkaaGreatDoor
namespace Go.Proofs.YtgekmbfmfiikkaaGreatDoor
open Go.RowKit
def RetFk (W : World) (x : Rat) (e : Ending) (w' : World) : Prop :=
 ∃ (neg : Bool) (A : Option Addr) (n c : Nat) (l : List Nat) (neg' : Bool) (A' : Option Addr) (n' c' : Nat) (l' : List Nat), e = .returned (.tuple #[.agg #[.bool neg, .slice A n c, .bool neg', .slice A' n' c'], .int .i64 0]) ∧ OkF w' ((neg, A, n, c, l), (neg', A', n', c', l')) x ∧ Below W.heap.size W w'
end Go.Proofs.YtgekmbfmfiikkaaGreatDoor
namespace Go.Proofs.YtgekmbfmfiikkaaGreatDoor
open Go.RowKit
def nats (l : List Nat) : List Value := l.map fun (x : Nat) => Value.int .i64 (x : Int)
theorem nats_get {l : List Nat} {k : Nat} {u : Value} (h : (nats l)[k]? = some u) : ∃ hk : k < l.length, u = .int .i64 (l[k] : Nat) := by
 unfold nats at h
 rw [List.getElem?_map] at h
 rcases Nat.lt_or_ge k l.length with hk | hk
 ·rw [List.getElem?_eq_getElem hk] at h
  exact ⟨hk, by simpa using h.symm⟩
 ·rw [List.getElem?_eq_none hk] at h; cases h
theorem sum_take_succ (l : List Nat) (k : Nat) (h : k < l.length) : (l.take (k + 1)).sum = (l.take k).sum + l[k] := by
 rw [List.take_succ_eq_append_getElem h, List.sum_append]
 simp
theorem sum_take_le (l : List Nat) (k : Nat) : (l.take k).sum ≤ l.sum := by
 have h : l.sum = (l.take k).sum + (l.drop k).sum := by rw [← List.sum_append, List.take_append_drop]
 omega
theorem beyond_any (A : Option Addr) (n c : Nat) (l : List Nat) (w : World) (h : Reads w w.heap.size A n (nats l)) (hn : n ≤ 1000000) (hl : l.sum ≤ 9223372036854775807) :
  Calls Tryz.prog 8 #[.slice A n c] w fun e w' => e = .returned (.bool (decide (1048576 < l.sum))) ∧ w = w' := by
 have hlen : l.length = n := by have := h.1; unfold nats at this; simpa using this
 have HS := Lib.hid (sum_take_le l)
 have HL := Lib.hid hl
 have HLEN := Lib.hid hlen
 clear hl hlen
 go_enter Tryz.func8, Tryz.ntmps8
 go_wp2_with fail
 go_loopw [3, 4] (fun s i wr => ∃ k : Nat, k ≤ n ∧ s = .int .i64 (((l.take k).sum : Nat) : Int) ∧ (l.take k).sum ≤ 1048576 ∧ i = .int .i64 (k : Int) ∧ wr = w) (fun _ i _ => n - (intOf i).toNat)
 case atStart => exact ⟨0, Nat.zero_le _, rfl, by simp, rfl, rfl⟩
 case round =>
  obtain ⟨k, hk, rfl, hs, rfl, rfl⟩ := hrel
  by_cases hlt : k < n
  ·obtain ⟨ad, v, rfl, hb, hv, hc⟩ := h.at_ hlt
   obtain ⟨hkl, rfl⟩ := nats_get hv
   have hx : (l.take (k + 1)).sum ≤ 9223372036854775807 := Nat.le_trans (sum_take_le l _) HL.out
   have hsum := sum_take_succ l k hkl
   have hle := HS.out (k + 1)
   obtain ⟨x, hxx⟩ : ∃ x, l[k] = x := ⟨_, rfl⟩
   obtain ⟨s, hss⟩ : ∃ s, (l.take k).sum = s := ⟨_, rfl⟩
   rw [hsum, hxx, hss] at hx
   rw [hxx] at hc hsum
   rw [hss] at hs hsum
   rw [hss]
   have HSUM := Lib.hid hsum
   have hlt' : (k : Int) < (n : Int) := by omega
   have hk0 : (0 : Int) ≤ (k : Int) := Int.natCast_nonneg _
   have HLE := Lib.hid hle
   clear hv hsum hss hxx hle
   by_cases hbig : 1048576 < s + x
   ·have hbig' : (1048576 : Int) < (s : Int) + (x : Int) := by omega
    have E : Hid (decide (1048576 < l.sum) = true) := Lib.hid (decide_eq_true (by have := HLE.out; have := HSUM.out; omega))
    go_wp2_with fail
    go_ret
    exact ⟨by rw [E.out]; rfl, rfl⟩
   ·have hbig' : ¬ (1048576 : Int) < (s : Int) + (x : Int) := by omega
    go_wp2_with fail
    go_roundw
    case rel => exact ⟨k + 1, hlt, by rw [HSUM.out]; go_num, by rw [HSUM.out]; omega, by go_num, trivial⟩
    case measure => simp [intOf]; omega
  ·obtain rfl : k = n := by omega
   have E : Hid (decide (1048576 < l.sum) = false) := Lib.hid (decide_eq_false (by rw [List.take_of_length_le (by rw [HLEN.out]; exact Nat.le_refl _)] at hs; omega))
   go_wp2_with fail
   go_ret
   exact ⟨by rw [E.out]; rfl, rfl⟩
theorem nats_new (w : World) (t : TypeId) (l : List Nat) : Reads (w.alloc (.cells (nats l).toArray t)) (w.alloc (.cells (nats l).toArray t)).heap.size (some ⟨w.heap.size, 0, none⟩) l.length (nats l) := by
 have h := reads_new w t (nats l)
 have e : (nats l).length = l.length := by unfold nats; simp
 rw [e] at h
 exact h
end Go.Proofs.YtgekmbfmfiikkaaGreatDoor
