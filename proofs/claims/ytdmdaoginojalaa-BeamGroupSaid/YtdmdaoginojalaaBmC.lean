/-
  Answers that are short enough (ratio.Long, Answer, argand.Answer, beam.answered).
-/
import Derived.Test.YtdmdaoginojalaaAnC
import Derived.Test.YtdmdaoginojalaaChk
import Derived.Test.YtdmdaoginojalaaMay
namespace Go.Proofs.Ytdmdaoginojalaa
open Go.RowKit

def Short (F : Nat → LmE) (N : Nat) : Prop := ∀ i, i < N → (F i).1.2.2.1 ≤ 2048 ∧ (F i).2.2.2.1 ≤ 2048
set_option maxRecDepth 100000 in
set_option maxHeartbeats 6400000 in
theorem rat_long_all (g N c : Nat) (F : Nat → LmE) (w : World) (hL : Lfs w g N F) (hN : N ≤ 1000) (_hc : N ≤ c) (hs : Short F N) :
    Calls Try.prog 77 #[.slice (some ⟨g, 0, none⟩) N c] w (RetV w (.bool false)) := by
  have HS := Lib.hid hs
  clear hs
  go_enter Try.func77, Try.ntmps77
  go_wp2_with fail
  go_loopw [7] (fun i wr => ∃ k : Nat, k ≤ N ∧ i = .int .i64 (k : Int) ∧ Below w.heap.size w wr) (fun i _ => N - (intOf i).toNat)
  case atStart => exact ⟨0, Nat.zero_le _, rfl, Below.refl _ _⟩
  case round =>
    obtain ⟨k, hk, rfl, hb⟩ := hrel
    by_cases hlt : k < N
    · obtain ⟨hg1, hall⟩ := hL.next hb
      obtain ⟨⟨a0, a1, a2, a3⟩, _⟩ := hall k hlt
      obtain ⟨hn, hn'⟩ := HS.out k hlt
      obtain ⟨f, hf⟩ : ∃ f, F k = f := ⟨_, rfl⟩
      rw [hf] at a0 a1 a2 a3 hn hn'
      obtain ⟨⟨neg, A, n, c1, l⟩, neg', A', n', c1', l'⟩ := f
      simp only at a0 a1 a2 a3 hn hn'
      have hlt' : (k : Int) < (N : Int) := by omega
      have hk0 : (0 : Int) ≤ (k : Int) := Int.natCast_nonneg _
      have HLT := Lib.hid hlt
      have hsz := hb.size
      clear hall hf hlt
      have K0 := (Mm.nil wr).var (g := wr.heap.size) rfl [.bool neg, .slice A n c1, .bool neg', .slice A' n' c1'] 26
      go_upto_region 4 with (fail)
      generalize wr.alloc (.cells #[.bool neg, .slice A n c1, .bool neg', .slice A' n' c1'] 26) = w0 at K0 ⊢
      obtain ⟨⟨qa0, qb0, qc0, qd0⟩, _, _⟩ := (K0.blk (g := wr.heap.size) (vs := [.bool neg, .slice A n c1, .bool neg', .slice A' n' c1']) (by simp)).four
      go_wp2_with fail
      refine (ex_long_no w0.heap.size neg A n c1 _ (by simp) (by simp [go_sem]) (by simp [go_sem]) hn).mono ?_
      rintro e1 w1 ⟨rfl, hb1⟩
      have K1 := K0.next (below_box hb1)
      obtain ⟨⟨qa1, qb1, qc1, qd1⟩, _, _⟩ := (K1.blk (g := wr.heap.size) (vs := [.bool neg, .slice A n c1, .bool neg', .slice A' n' c1']) (by simp)).four
      clear K0 hb1 qa0 qb0 qc0 qd0
      go_wp2_with fail
      refine (ex_long_no w1.heap.size neg' A' n' c1' _ (by simp) (by simp [go_sem]) (by simp [go_sem]) hn').mono ?_
      rintro e2 w2 ⟨rfl, hb2⟩
      have K2 := K1.next (below_box hb2)
      have hb3 := hb.trans (K2.1.mono hsz)
      clear K1 K2 hb2
      go_wp2_with fail
      go_roundw
      case rel => exact ⟨k + 1, HLT.out, rfl, hb3⟩
      case measure => have := HLT.out; simp [intOf]; omega
    · obtain rfl : k = N := by omega
      have hnl : ¬ (k : Int) < (k : Int) := by omega
      go_wp2_with fail
      go_ret
      exact ⟨rfl, hb⟩
theorem rat_answer_all (g N c : Nat) (F : Nat → LmE) (w : World) (hL : Lfs w g N F) (hN : N ≤ 1000) (hc : N ≤ c) (hs : Short F N) :
    Calls Try.prog 90 #[.slice (some ⟨g, 0, none⟩) N c] w (RetV w (.int .i64 0)) := by
  go_enter Try.func90, Try.ntmps90
  go_wp2_with fail
  refine (rat_long_all g N c F _ hL hN hc hs).mono ?_
  rintro e1 w1 ⟨rfl, hb1⟩
  go_wp2_with fail
  go_ret
  exact ⟨rfl, hb1⟩

set_option maxRecDepth 100000 in
set_option maxHeartbeats 6400000 in
theorem arg_answer_one (g : Nat) (sa : Bool) (Aa : Option Addr) (na ca : Nat) (la : List Nat) (za : Bool) (Ba : Option Addr) (ma da : Nat) (ka : List Nat) (sb : Bool) (Ab : Option Addr) (nb cb : Nat) (lb : List Nat) (zb : Bool) (Bb : Option Addr) (mb db : Nat) (kb : List Nat) (w : World) (ha : LmE.at_ w ((sa, Aa, na, ca, la), (za, Ba, ma, da, ka))) (hb : LmE.at_ w ((sb, Ab, nb, cb, lb), (zb, Bb, mb, db, kb))) (h1 : na ≤ 2048) (h2 : ma ≤ 2048) (h3 : nb ≤ 2048) (h4 : mb ≤ 2048) (hB : Blk w g [.bool sa, .slice Aa na ca, .bool za, .slice Ba ma da, .bool sb, .slice Ab nb cb, .bool zb, .slice Bb mb db]) :
    Calls Try.prog 60 #[.slice (some ⟨g, 0, none⟩) 1 1] w (RetV w (.int .i64 0)) := by
  have HS : Hid (Short (two ((sa, Aa, na, ca, la), (za, Ba, ma, da, ka)) ((sb, Ab, nb, cb, lb), (zb, Bb, mb, db, kb))) 2) := Lib.hid (fun i hi => by
    match i, hi with
    | 0, _ => exact ⟨h1, h2⟩
    | 1, _ => exact ⟨h3, h4⟩)
  clear h1 h2 h3 h4
  go_enter Try.func60, Try.ntmps60
  go_wp2_with fail
  go_loopw [7] (fun i wr => ∃ k : Nat, k ≤ 1 ∧ i = .int .i64 (k : Int) ∧ Below w.heap.size w wr) (fun i _ => 1 - (intOf i).toNat)
  case atStart => exact ⟨0, Nat.zero_le _, rfl, Below.refl _ _⟩
  case round =>
    obtain ⟨k, hk, rfl, hb9⟩ := hrel
    match k, hk with
    | 0, _ =>
      have hB1 := hB.next hb9
      obtain ⟨e0, e1, e2, e3, e4, e5, e6, e7⟩ := hB1.c8
      have hsz := hb9.size
      have K0 := (Mm.nil wr).var (g := wr.heap.size) rfl [.bool sa, .slice Aa na ca, .bool za, .slice Ba ma da, .bool sb, .slice Ab nb cb, .bool zb, .slice Bb mb db] 30
      have ha0 := ha.below (hb9.trans (K0.1.mono hsz))
      have hb0 := hb.below (hb9.trans (K0.1.mono hsz))
      go_upto_region 4 with (fail)
      generalize wr.alloc (.cells #[.bool sa, .slice Aa na ca, .bool za, .slice Ba ma da, .bool sb, .slice Ab nb cb, .bool zb, .slice Bb mb db] 30) = w0 at K0 ha0 hb0 ⊢
      clear e0 e1 e2 e3 e4 e5 e6 e7
      obtain ⟨e0, e1, e2, e3, e4, e5, e6, e7⟩ := (K0.blk (g := wr.heap.size) (vs := [.bool sa, .slice Aa na ca, .bool za, .slice Ba ma da, .bool sb, .slice Ab nb cb, .bool zb, .slice Bb mb db]) (by simp)).c8
      have hL := Lib.hid (lfs_two w0 rfl 26 ha0 hb0)
      go_wp2_with fail
      refine (rat_long_all w0.heap.size 2 2 (two ((sa, Aa, na, ca, la), (za, Ba, ma, da, ka)) ((sb, Ab, nb, cb, lb), (zb, Bb, mb, db, kb))) _ hL.out (by decide) (by decide) HS.out).mono ?_
      rintro e9 w9 ⟨rfl, hb2⟩
      have hb3 := hb9.trans ((K0.1.trans ((below_box hb2).mono K0.1.size)).mono hsz)
      clear K0 hb2 hL ha0 hb0
      go_wp2_with fail
      refine ⟨⟨1, by decide, rfl, hb3⟩, ?_⟩
      simp [intOf]
    | 1, _ =>
      go_wp2_with fail
      go_ret
      exact ⟨rfl, hb9⟩

/-- A complex number that may be, and no refusal. -/
def RetGk (W : World) (x y : Rat) (e : Ending) (w' : World) : Prop :=
  ∃ (sa : Bool) (Aa : Option Addr) (na ca : Nat) (la : List Nat) (za : Bool) (Ba : Option Addr) (ma da : Nat) (ka : List Nat) (sb : Bool) (Ab : Option Addr) (nb cb : Nat) (lb : List Nat) (zb : Bool) (Bb : Option Addr) (mb db : Nat) (kb : List Nat), e = .returned (.tuple #[.agg #[.bool sa, .slice Aa na ca, .bool za, .slice Ba ma da, .bool sb, .slice Ab nb cb, .bool zb, .slice Bb mb db], .int .i64 0]) ∧ OkF w' ((sa, Aa, na, ca, la), (za, Ba, ma, da, ka)) x ∧ OkF w' ((sb, Ab, nb, cb, lb), (zb, Bb, mb, db, kb)) y ∧ Below W.heap.size W w'
/-- A complex number that may be. -/
def RetGv (W : World) (x y : Rat) (e : Ending) (w' : World) : Prop :=
  ∃ (sa : Bool) (Aa : Option Addr) (na ca : Nat) (la : List Nat) (za : Bool) (Ba : Option Addr) (ma da : Nat) (ka : List Nat) (sb : Bool) (Ab : Option Addr) (nb cb : Nat) (lb : List Nat) (zb : Bool) (Bb : Option Addr) (mb db : Nat) (kb : List Nat), e = .returned (.agg #[.bool sa, .slice Aa na ca, .bool za, .slice Ba ma da, .bool sb, .slice Ab nb cb, .bool zb, .slice Bb mb db]) ∧ OkF w' ((sa, Aa, na, ca, la), (za, Ba, ma, da, ka)) x ∧ OkF w' ((sb, Ab, nb, cb, lb), (zb, Bb, mb, db, kb)) y ∧ Below W.heap.size W w'
set_option maxRecDepth 100000 in
set_option maxHeartbeats 6400000 in
theorem beam_answered_ok (sa za : Bool) (Aa Ba : Option Addr) (na ca ma da : Nat) (xa : Rat) (sb zb : Bool) (Ab Bb : Option Addr) (nb cb mb db : Nat) (xb : Rat) (w : World) (ia : IsInt w sa Aa na ca xa.num) (ja : IsInt w za Ba ma da (xa.den : Int)) (ya : Sz xa 2048) (ib : IsInt w sb Ab nb cb xb.num) (jb : IsInt w zb Bb mb db (xb.den : Int)) (yb : Sz xb 2048) :
    Calls Try.prog 27 #[.agg #[.bool sa, .slice Aa na ca, .bool za, .slice Ba ma da, .bool sb, .slice Ab nb cb, .bool zb, .slice Bb mb db]] w (RetGk w xa xb) := by
  obtain ⟨la, ka, oa⟩ := okF_of ia ja ya
  obtain ⟨lb, kb, ob⟩ := okF_of ib jb yb
  have na2 := int_len ia ya.1
  have ma2 := int_len ja (by rw [Int.natAbs_natCast]; exact ya.2)
  have nb2 := int_len ib yb.1
  have mb2 := int_len jb (by rw [Int.natAbs_natCast]; exact yb.2)
  have K0 := ((Mm.nil w).var (g := w.heap.size) rfl [.bool sa, .slice Aa na ca, .bool za, .slice Ba ma da, .bool sb, .slice Ab nb cb, .bool zb, .slice Bb mb db] 30).var (g := w.heap.size + 1) (by simp) [.bool false, .slice none 0 0, .bool false, .slice none 0 0, .bool false, .slice none 0 0, .bool false, .slice none 0 0] 30
  have o1 := oa.next (K0.1.trans (((Below.refl _ _).alloc (Nat.le_refl _) (.cells #[.bool sa, .slice Aa na ca, .bool za, .slice Ba ma da, .bool sb, .slice Ab nb cb, .bool zb, .slice Bb mb db] 30)).mono K0.1.size))
  have o2 := ob.next (K0.1.trans (((Below.refl _ _).alloc (Nat.le_refl _) (.cells #[.bool sa, .slice Aa na ca, .bool za, .slice Ba ma da, .bool sb, .slice Ab nb cb, .bool zb, .slice Bb mb db] 30)).mono K0.1.size))
  have hA := Lib.hid (fun W (K : Blk W (w.heap.size + 1 + 1) [.bool sa, .slice Aa na ca, .bool za, .slice Ba ma da, .bool sb, .slice Ab nb cb, .bool zb, .slice Bb mb db]) (a1 : OkF W ((sa, Aa, na, ca, la), (za, Ba, ma, da, ka)) xa) (b1 : OkF W ((sb, Ab, nb, cb, lb), (zb, Bb, mb, db, kb)) xb) => arg_answer_one (w.heap.size + 1 + 1) sa Aa na ca la za Ba ma da ka sb Ab nb cb lb zb Bb mb db kb W a1.1 b1.1 na2 ma2 nb2 mb2 K)
  clear ia ja ya ib jb yb na2 ma2 nb2 mb2 oa ob
  have h01 : ¬ w.heap.size = w.heap.size + 1 := by omega
  have h10 : ¬ w.heap.size + 1 = w.heap.size := by omega
  go_enter Try.func27, Try.ntmps27
  go_wp2_with fail
  have K1 := K0.var (g := w.heap.size + 1 + 1) (by simp) [.bool sa, .slice Aa na ca, .bool za, .slice Ba ma da, .bool sb, .slice Ab nb cb, .bool zb, .slice Bb mb db] 30
  generalize ((w.alloc (.cells #[.bool sa, .slice Aa na ca, .bool za, .slice Ba ma da, .bool sb, .slice Ab nb cb, .bool zb, .slice Bb mb db] 30)).alloc (.cells #[.bool false, .slice none 0 0, .bool false, .slice none 0 0, .bool false, .slice none 0 0, .bool false, .slice none 0 0] 30)).alloc (.cells #[.bool sa, .slice Aa na ca, .bool za, .slice Ba ma da, .bool sb, .slice Ab nb cb, .bool zb, .slice Bb mb db] 30) = w0 at K1 o1 o2 ⊢
  clear K0
  refine (hA.out _ (K1.blk (by simp)) o1 o2).mono ?_
  rintro e1 w1 ⟨rfl, hb1⟩
  have K2 := K1.next hb1
  replace o1 := o1.next hb1
  replace o2 := o2.next hb1
  clear K1 hb1 hA
  obtain ⟨e0, e1, e2, e3, e4, e5, e6, e7⟩ := (K2.blk (g := w.heap.size) (vs := [.bool sa, .slice Aa na ca, .bool za, .slice Ba ma da, .bool sb, .slice Ab nb cb, .bool zb, .slice Bb mb db]) (by simp)).c8
  obtain ⟨f0, f1, f2, f3, f4, f5, f6, f7⟩ := (K2.blk (g := w.heap.size + 1) (vs := [.bool false, .slice none 0 0, .bool false, .slice none 0 0, .bool false, .slice none 0 0, .bool false, .slice none 0 0]) (by simp)).c8
  obtain ⟨g0, g1, g2, g3, g4, g5, g6, g7, _⟩ := (K2.blk (g := w.heap.size + 1) (vs := [.bool false, .slice none 0 0, .bool false, .slice none 0 0, .bool false, .slice none 0 0, .bool false, .slice none 0 0]) (by simp)).f8
  go_wp2_with fail
  have KE := ((((K2.int o1.ints.1).int o1.ints.2.1).int o2.ints.1).int o2.ints.2.1)
  have K3 := (KE.pick (L' := [(w.heap.size + 1, [.bool false, .slice none 0 0, .bool false, .slice none 0 0, .bool false, .slice none 0 0, .bool false, .slice none 0 0])]) (l' := [(sa, Aa, na, ca, xa.num), (za, Ba, ma, da, (xa.den : Int)), (sb, Ab, nb, cb, xb.num), (zb, Bb, mb, db, (xb.den : Int))]) (by simp) (by simp)).set8 (by simp) sa Aa na ca za Ba ma da sb Ab nb cb zb Bb mb db
  obtain ⟨la2, ka2, oa2⟩ := okF_of (K3.at_ (neg := sa) (A := Aa) (n := na) (c := ca) (z := xa.num) (by simp)) (K3.at_ (neg := za) (A := Ba) (n := ma) (c := da) (z := (xa.den : Int)) (by simp)) o1.ints.2.2
  obtain ⟨lb2, kb2, ob2⟩ := okF_of (K3.at_ (neg := sb) (A := Ab) (n := nb) (c := cb) (z := xb.num) (by simp)) (K3.at_ (neg := zb) (A := Bb) (n := mb) (c := db) (z := (xb.den : Int)) (by simp)) o2.ints.2.2
  exact bodyPost_ret (v := .tuple #[.agg #[.bool sa, .slice Aa na ca, .bool za, .slice Ba ma da, .bool sb, .slice Ab nb cb, .bool zb, .slice Bb mb db], .int .i64 0]) (by simp [results, Try.results27, go_sem, f0, f1, f2, f3, f4, f5, f6, f7]) rfl ⟨_, _, _, _, _, _, _, _, _, _, _, _, _, _, _, _, _, _, _, _, rfl, oa2, ob2, K3.1⟩
end Go.Proofs.Ytdmdaoginojalaa
