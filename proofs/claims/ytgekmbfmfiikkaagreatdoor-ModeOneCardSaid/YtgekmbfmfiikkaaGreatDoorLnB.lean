/-
  Answers that are short enough (ratio.Long, Answer, argand.Answer, beam.answered).
  Are numbers too long (exact.Long, ratio.Long, ratio.Answer), at any length.
  A complex number that is too long (argand.Answer, beam.answered).
-/
import Derived.Test.YtgekmbfmfiikkaaGreatDoorBey
import Derived.Test.YtgekmbfmfiikkaaGreatDoorMeg
import Derived.Test.YtgekmbfmfiikkaaGreatDoorMay
import Derived.Test.YtgekmbfmfiikkaaGreatDoorTzF
set_option maxHeartbeats 6400000
set_option maxRecDepth 100000
namespace Go.Proofs.YtgekmbfmfiikkaaGreatDoor
open Go.RowKit
def Short (F : Nat → LmE) (N : Nat) : Prop := ∀ i, i < N → (F i).1.2.2.1 ≤ 2048 ∧ (F i).2.2.2.1 ≤ 2048
theorem rat_long_all (g N c : Nat) (F : Nat → LmE) (w : World) (hL : Lfs w g N F) (hN : N ≤ 1000) (_hc : N ≤ c) (hs : Short F N) :
  Calls Tryz.prog 114 #[.slice (some ⟨g, 0, none⟩) N c] w (RetV w (.bool false)) := by
 have HS := Lib.hid hs
 clear hs
 go_enter Tryz.func114, Tryz.ntmps114
 go_wp2_with fail
 go_loopw [7] (fun i wr => ∃ k : Nat, k ≤ N ∧ i = .int .i64 (k : Int) ∧ Below w.heap.size w wr) (fun i _ => N - (intOf i).toNat)
 case atStart => exact ⟨0, Nat.zero_le _, rfl, Below.refl _ _⟩
 case round =>
  obtain ⟨k, hk, rfl, hb⟩ := hrel
  by_cases hlt : k < N
  ·obtain ⟨hg1, hall⟩ := hL.next hb
   obtain ⟨⟨a0, a1, a2, a3⟩, _⟩ := hall k hlt
   obtain ⟨hn, hn'⟩ := HS.out k hlt
   obtain ⟨f, hf⟩ : ∃ f, F k = f := ⟨_, rfl⟩
   rw [hf] at a0 a1 a2 a3 hn hn'
   obtain ⟨⟨neg, A, n, c1, l⟩, neg', A', n', c1', l'⟩ := f
   simp only at a0 a1 a2 a3 hn hn'
   have hlt' : (k : Int) < (N : Int) := by omega
   have hk0 : (0 : Int) ≤ (k : Int) := Int.natCast_nonneg _
   have HLT := Lib.hid hlt
   have hsz := hb.size
   clear hall hf hlt
   have K0 := (Mm.nil wr).var (g := wr.heap.size) rfl [.bool neg, .slice A n c1, .bool neg', .slice A' n' c1'] 26
   go_upto_region 4 with (fail)
   generalize wr.alloc (.cells #[.bool neg, .slice A n c1, .bool neg', .slice A' n' c1'] 26) = w0 at K0 ⊢
   obtain ⟨⟨qa0, qb0, qc0, qd0⟩, _, _⟩ := (K0.blk (g := wr.heap.size) (by repeat constructor)).four
   go_wp2_with fail
   refine (ex_long_no w0.heap.size neg A n c1 _ (by simp) (by simp [go_sem]) (by simp [go_sem]) hn).mono ?_
   rintro e1 w1 ⟨rfl, hb1⟩
   have K1 := K0.next (below_box hb1)
   obtain ⟨⟨_, _, _, _⟩, _, _⟩ := (K1.blk (g := wr.heap.size) (by repeat constructor)).four
   clear K0 hb1 qa0 qb0 qc0 qd0
   go_wp2_with fail
   refine (ex_long_no w1.heap.size neg' A' n' c1' _ (by simp) (by simp [go_sem]) (by simp [go_sem]) hn').mono ?_
   rintro e2 w2 ⟨rfl, hb2⟩
   have K2 := K1.next (below_box hb2)
   have hb3 := hb.trans (K2.1.mono hsz)
   clear K1 K2 hb2
   go_wp2_with fail
   go_roundw
   case rel => exact ⟨k + 1, HLT.out, rfl, hb3⟩
   case measure => have := HLT.out; simp [intOf]; omega
  ·obtain rfl : k = N := by omega
   have hnl : ¬ (k : Int) < (k : Int) := by omega
   go_wp2_with fail
   go_ret
   exact ⟨rfl, hb⟩
theorem arg_answer_one (g : Nat) (sa : Bool) (Aa : Option Addr) (na ca : Nat) (la : List Nat) (za : Bool) (Ba : Option Addr) (ma da : Nat) (ka : List Nat) (sb : Bool) (Ab : Option Addr) (nb cb : Nat) (lb : List Nat) (zb : Bool) (Bb : Option Addr) (mb db : Nat) (kb : List Nat) (w : World) (ha : LmE.at_ w ((sa, Aa, na, ca, la), (za, Ba, ma, da, ka))) (hb : LmE.at_ w ((sb, Ab, nb, cb, lb), (zb, Bb, mb, db, kb))) (h1 : na ≤ 2048) (h2 : ma ≤ 2048) (h3 : nb ≤ 2048) (h4 : mb ≤ 2048) (hB : Blk w g [.bool sa, .slice Aa na ca, .bool za, .slice Ba ma da, .bool sb, .slice Ab nb cb, .bool zb, .slice Bb mb db]) :
  Calls Tryz.prog 161 #[.slice (some ⟨g, 0, none⟩) 1 1] w (RetV w (.int .i64 0)) := by
 have HS : Hid (Short (two ((sa, Aa, na, ca, la), (za, Ba, ma, da, ka)) ((sb, Ab, nb, cb, lb), (zb, Bb, mb, db, kb))) 2) := Lib.hid (fun i hi => by
  match i, hi with
  | 0, _ => exact ⟨h1, h2⟩
  | 1, _ => exact ⟨h3, h4⟩)
 clear h1 h2 h3 h4
 go_enter Tryz.func161, Tryz.ntmps161
 go_wp2_with fail
 go_loopw [7] (fun i wr => ∃ k : Nat, k ≤ 1 ∧ i = .int .i64 (k : Int) ∧ Below w.heap.size w wr) (fun i _ => 1 - (intOf i).toNat)
 case atStart => exact ⟨0, Nat.zero_le _, rfl, Below.refl _ _⟩
 case round =>
  obtain ⟨k, hk, rfl, hb9⟩ := hrel
  match k, hk with
  | 0, _ =>
   have hB1 := hB.next hb9
   obtain ⟨e0, e1, e2, e3, e4, e5, e6, e7⟩ := hB1.c8
   have hsz := hb9.size
   have K0 := (Mm.nil wr).var (g := wr.heap.size) rfl [.bool sa, .slice Aa na ca, .bool za, .slice Ba ma da, .bool sb, .slice Ab nb cb, .bool zb, .slice Bb mb db] 30
   have ha0 := ha.below (hb9.trans (K0.1.mono hsz))
   have hb0 := hb.below (hb9.trans (K0.1.mono hsz))
   go_upto_region 4 with (fail)
   generalize wr.alloc (.cells #[.bool sa, .slice Aa na ca, .bool za, .slice Ba ma da, .bool sb, .slice Ab nb cb, .bool zb, .slice Bb mb db] 30) = w0 at K0 ha0 hb0 ⊢
   clear e0 e1 e2 e3 e4 e5 e6 e7
   obtain ⟨e0, e1, e2, e3, e4, e5, e6, e7⟩ := (K0.blk (g := wr.heap.size) (by repeat constructor)).c8
   have hL := Lib.hid (lfs_two w0 rfl 26 ha0 hb0)
   go_wp2_with fail
   refine (rat_long_all w0.heap.size 2 2 (two ((sa, Aa, na, ca, la), (za, Ba, ma, da, ka)) ((sb, Ab, nb, cb, lb), (zb, Bb, mb, db, kb))) _ hL.out (by decide) (by decide) HS.out).mono ?_
   rintro e9 w9 ⟨rfl, hb2⟩
   have hb3 := hb9.trans ((K0.1.trans ((below_box hb2).mono K0.1.size)).mono hsz)
   clear K0 hb2 hL ha0 hb0
   go_wp2_with fail
   refine ⟨⟨1, by decide, rfl, hb3⟩, ?_⟩
   simp [intOf]
  | 1, _ =>
   go_wp2_with fail
   go_ret
   exact ⟨rfl, hb9⟩
def RetGv (W : World) (x y : Rat) (e : Ending) (w' : World) : Prop :=
 ∃ (sa : Bool) (Aa : Option Addr) (na ca : Nat) (la : List Nat) (za : Bool) (Ba : Option Addr) (ma da : Nat) (ka : List Nat) (sb : Bool) (Ab : Option Addr) (nb cb : Nat) (lb : List Nat) (zb : Bool) (Bb : Option Addr) (mb db : Nat) (kb : List Nat), e = .returned (.agg #[.bool sa, .slice Aa na ca, .bool za, .slice Ba ma da, .bool sb, .slice Ab nb cb, .bool zb, .slice Bb mb db]) ∧ OkF w' ((sa, Aa, na, ca, la), (za, Ba, ma, da, ka)) x ∧ OkF w' ((sb, Ab, nb, cb, lb), (zb, Bb, mb, db, kb)) y ∧ Below W.heap.size W w'
end Go.Proofs.YtgekmbfmfiikkaaGreatDoor
namespace Go.Proofs.YtgekmbfmfiikkaaGreatDoor
open Go.RowKit
def lgB (f : LmE) : Bool := decide (2048 < f.1.2.2.1) || decide (2048 < f.2.2.2.1)
def lgAll (F : Nat → LmE) : Nat → Bool
 | 0 => false
 | n + 1 => lgAll F n || lgB (F n)
theorem lgAll_yes {F : Nat → LmE} {k : Nat} (h : lgB (F k) = true) : ∀ {N : Nat}, k < N → lgAll F N = true
 | 0, hk => absurd hk (by omega)
 | n + 1, hk => by
  rcases Nat.lt_or_ge k n with h1 | h1
  ·unfold lgAll; rw [lgAll_yes h h1]; rfl
  ·obtain rfl : k = n := by omega
   unfold lgAll; rw [h]; simp
theorem lgAll_no {F : Nat → LmE} : ∀ {N : Nat}, (∀ k, k < N → lgB (F k) = false) → lgAll F N = false
 | 0, _ => rfl
 | n + 1, h => by unfold lgAll; rw [lgAll_no (fun k hk => h k (by omega)), h n (by omega)]; rfl
theorem ex_long1_any (neg : Bool) (A : Option Addr) (n c : Nat) (b : Bool) (w : World) (hb : Hid (decide (2048 < n) = b)) : Calls Tryz.prog 223 #[.agg #[.bool neg, .slice A n c]] w (RetV w (.bool b)) := by
 have hl : decide ((2048 : Int) < (n : Int)) = b := by
  rw [← hb.out]
  by_cases h : 2048 < n
  ·rw [decide_eq_true h, decide_eq_true (by omega)]
  ·rw [decide_eq_false h, decide_eq_false (by omega)]
 go_enter Tryz.func223, Tryz.ntmps223
 cases b with
 | true =>
  have hl2 : (2048 : Int) < (n : Int) := of_decide_eq_true hl
  clear hl
  go_wp2_with fail
  go_ret
  exact ⟨rfl, (Below.refl _ _).alloc (Nat.le_refl _) _⟩
 | false =>
  have hl2 : ¬ (2048 : Int) < (n : Int) := of_decide_eq_false hl
  clear hl
  go_wp2_with fail
  go_ret
  exact ⟨rfl, (Below.refl _ _).alloc (Nat.le_refl _) _⟩
theorem index_any (g : Nat) (neg : Bool) (A : Option Addr) (n c : Nat) (b : Bool) (v : Int) (w : World) (hg : g < w.heap.size) (c0 : w.cell? ⟨g, 0, none⟩ = some (.bool neg)) (c1 : w.cell? ⟨g, 1, none⟩ = some (.slice A n c)) (hb : Hid (decide (2048 < n) = b)) (hv : Hid ((if b then (0 : Int) else -1) = v)) :
  Calls Tryz.prog 280 #[.slice (some ⟨g, 0, none⟩) 1 1, .func (.func 223) #[] #[]] w (RetV w (.int .i64 v)) := by
 go_enter Tryz.func280, Tryz.ntmps280
 go_wp2_with fail
 go_loopw [8] (fun i wr => ∃ k : Nat, k ≤ 1 ∧ i = .int .i64 (k : Int) ∧ Below w.heap.size w wr ∧ (k = 1 → b = false)) (fun i _ => 1 - (intOf i).toNat)
 case atStart => exact ⟨0, Nat.zero_le _, rfl, Below.refl _ _, fun h => absurd h (by decide)⟩
 case round =>
  obtain ⟨k, hk, rfl, hb0, hbf⟩ := hrel
  match k, hk with
  | 0, _ =>
   clear hbf
   have d0 := (hb0.cell (p := ⟨g, 0, none⟩) hg).trans c0
   have d1 := (hb0.cell (p := ⟨g, 1, none⟩) hg).trans c1
   have hsz := hb0.size
   go_wp2_with fail
   refine (ex_long1_any neg A n c b _ hb).mono ?_
   rintro e1 w1 ⟨rfl, hb1⟩
   have hb2 := hb0.trans (hb1.mono hsz)
   cases b with
   | true =>
    go_wp2_with fail
    go_ret
    exact ⟨by rw [← hv.out]; rfl, hb2⟩
   | false =>
    go_wp2_with fail
    refine ⟨⟨1, by decide, rfl, hb2, by simp⟩, ?_⟩
    simp [intOf]
  | 1, _ =>
   obtain rfl := hbf rfl
   go_wp2_with fail
   go_ret
   exact ⟨by rw [← hv.out]; rfl, hb0⟩
theorem contains_any (g : Nat) (neg : Bool) (A : Option Addr) (n c : Nat) (b : Bool) (w : World) (hg : g < w.heap.size) (c0 : w.cell? ⟨g, 0, none⟩ = some (.bool neg)) (c1 : w.cell? ⟨g, 1, none⟩ = some (.slice A n c)) (hb : Hid (decide (2048 < n) = b)) :
  Calls Tryz.prog 222 #[.slice (some ⟨g, 0, none⟩) 1 1, .func (.func 223) #[] #[]] w (RetV w (.bool b)) := by
 go_enter Tryz.func222, Tryz.ntmps222
 go_wp2_with fail
 obtain ⟨v, hv⟩ : ∃ v, (if b then (0 : Int) else -1) = v := ⟨_, rfl⟩
 refine (index_any g neg A n c b v _ hg c0 c1 hb (Lib.hid hv)).mono ?_
 rintro e1 w1 ⟨rfl, hb1⟩
 cases b with
 | true =>
  obtain rfl : (0 : Int) = v := hv
  go_wp2_with fail
  go_ret
  exact ⟨rfl, hb1⟩
 | false =>
  obtain rfl : (-1 : Int) = v := hv
  go_wp2_with fail
  go_ret
  exact ⟨rfl, hb1⟩
theorem ex_long_any (g : Nat) (neg : Bool) (A : Option Addr) (n c : Nat) (b : Bool) (w : World) (hg : g < w.heap.size) (c0 : w.cell? ⟨g, 0, none⟩ = some (.bool neg)) (c1 : w.cell? ⟨g, 1, none⟩ = some (.slice A n c)) (hb : Hid (decide (2048 < n) = b)) :
  Calls Tryz.prog 115 #[.slice (some ⟨g, 0, none⟩) 1 1] w (RetV w (.bool b)) := by
 go_enter Tryz.func115, Tryz.ntmps115
 go_wp2_with fail
 refine (contains_any g neg A n c b _ hg c0 c1 hb).mono ?_
 rintro e1 w1 ⟨rfl, hb1⟩
 go_wp2_with fail
 go_ret
 exact ⟨rfl, hb1⟩
theorem rat_long_any (g N c : Nat) (F : Nat → LmE) (w : World) (hL : Lfs w g N F) (hN : N ≤ 1000) (_hc : N ≤ c) :
  Calls Tryz.prog 114 #[.slice (some ⟨g, 0, none⟩) N c] w (RetV w (.bool (lgAll F N))) := by
 go_enter Tryz.func114, Tryz.ntmps114
 go_wp2_with fail
 go_loopw [7] (fun i wr => ∃ k : Nat, k ≤ N ∧ i = .int .i64 (k : Int) ∧ Below w.heap.size w wr ∧ Hid (∀ j, j < k → lgB (F j) = false)) (fun i _ => N - (intOf i).toNat)
 case atStart => exact ⟨0, Nat.zero_le _, rfl, Below.refl _ _, Lib.hid (fun j hj => absurd hj (by omega))⟩
 case round =>
  obtain ⟨k, hk, rfl, hb, HN⟩ := hrel
  by_cases hlt : k < N
  ·obtain ⟨hg1, hall⟩ := hL.next hb
   obtain ⟨⟨a0, a1, a2, a3⟩, _⟩ := hall k hlt
   obtain ⟨f, hf⟩ : ∃ f, F k = f := ⟨_, rfl⟩
   have HF := Lib.hid hf
   rw [hf] at a0 a1 a2 a3
   obtain ⟨⟨neg, A, n, c1, l⟩, neg', A', n', c1', l'⟩ := f
   simp only at a0 a1 a2 a3
   obtain ⟨b1, hb1⟩ : ∃ b, decide (2048 < n) = b := ⟨_, rfl⟩
   obtain ⟨b2, hb2⟩ : ∃ b, decide (2048 < n') = b := ⟨_, rfl⟩
   have HB : Hid (lgB (F k) = (b1 || b2)) := Lib.hid (by rw [hf]; unfold lgB; rw [← hb1, ← hb2])
   have HB1 := Lib.hid hb1
   have HB2 := Lib.hid hb2
   have hlt' : (k : Int) < (N : Int) := by omega
   have hk0 : (0 : Int) ≤ (k : Int) := Int.natCast_nonneg _
   have HLT := Lib.hid hlt
   have hsz := hb.size
   clear hall hf hlt hb1 hb2
   have K0 := (Mm.nil wr).var (g := wr.heap.size) rfl [.bool neg, .slice A n c1, .bool neg', .slice A' n' c1'] 26
   go_upto_region 4 with (fail)
   generalize wr.alloc (.cells #[.bool neg, .slice A n c1, .bool neg', .slice A' n' c1'] 26) = w0 at K0 ⊢
   obtain ⟨⟨qa0, qb0, qc0, qd0⟩, _, _⟩ := (K0.blk (g := wr.heap.size) (by repeat constructor)).four
   go_wp2_with fail
   refine (ex_long_any w0.heap.size neg A n c1 b1 _ (by simp) (by simp [go_sem]) (by simp [go_sem]) HB1).mono ?_
   rintro e1 w1 ⟨rfl, hb1⟩
   have K1 := K0.next (below_box hb1)
   obtain ⟨⟨_, _, _, _⟩, _, _⟩ := (K1.blk (g := wr.heap.size) (by repeat constructor)).four
   clear K0 hb1 qa0 qb0 qc0 qd0
   cases b1 with
   | true =>
    have hb3 := hb.trans (K1.1.mono hsz)
    have HR := Lib.hid (lgAll_yes (F := F) (k := k) (by rw [HB.out]; rfl) HLT.out)
    go_wp2_with fail
    go_ret
    exact ⟨by rw [HR.out]; rfl, hb3⟩
   | false =>
    go_wp2_with fail
    refine (ex_long_any w1.heap.size neg' A' n' c1' b2 _ (by simp) (by simp [go_sem]) (by simp [go_sem]) HB2).mono ?_
    rintro e2 w2 ⟨rfl, hb2⟩
    have K2 := K1.next (below_box hb2)
    have hb3 := hb.trans (K2.1.mono hsz)
    clear K1 K2 hb2
    cases b2 with
    | true =>
     have HR := Lib.hid (lgAll_yes (F := F) (k := k) (by rw [HB.out]; rfl) HLT.out)
     go_wp2_with fail
     go_ret
     exact ⟨by rw [HR.out]; rfl, hb3⟩
    | false =>
     have HN2 : Hid (∀ j, j < k + 1 → lgB (F j) = false) := Lib.hid (fun j hj => by
      rcases Nat.lt_or_ge j k with h | h
      ·exact HN.out j h
      ·obtain rfl : j = k := by omega
       rw [HB.out]; rfl)
     clear HN HB
     go_wp2_with fail
     go_roundw
     case rel => exact ⟨k + 1, HLT.out, rfl, hb3, HN2⟩
     case measure => have := HLT.out; simp [intOf]; omega
  ·obtain rfl : k = N := by omega
   have hnl : ¬ (k : Int) < (k : Int) := by omega
   have HR := Lib.hid (lgAll_no HN.out)
   go_wp2_with fail
   go_ret
   exact ⟨by rw [HR.out]; rfl, hb⟩
end Go.Proofs.YtgekmbfmfiikkaaGreatDoor
namespace Go.Proofs.YtgekmbfmfiikkaaGreatDoor
open Go.RowKit
theorem lg_two {a b : LmE} (h : (lgB a || lgB b) = true) : lgAll (two a b) 2 = true := by
 unfold lgAll lgAll lgAll
 unfold two
 simpa using h
def RetGx (W : World) (v : Int) (e : Ending) (w' : World) : Prop :=
 e = .returned (.tuple #[.agg #[.bool false, .slice none 0 0, .bool false, .slice none 0 0, .bool false, .slice none 0 0, .bool false, .slice none 0 0], .int .i64 v]) ∧ Below W.heap.size W w'
theorem lg_of {w : World} {s z : Bool} {A B : Option Addr} {n c m d : Nat} {l k : List Nat} {x : Rat} (hI : IsInt w s A n c x.num) (hJ : IsInt w z B m d (x.den : Int)) (h : ¬ Sz x 2048) : lgB ((s, A, n, c, l), (z, B, m, d, k)) = true := by
 unfold lgB
 simp only [Bool.or_eq_true, decide_eq_true_eq]
 by_cases h1 : 2048 < n
 ·exact .inl h1
 ·by_cases h2 : 2048 < m
  ·exact .inr h2
  ·exact absurd (sz_of hI hJ (by omega) (by omega)) h
theorem arg_answer_long (g : Nat) (sa : Bool) (Aa : Option Addr) (na ca : Nat) (la : List Nat) (za : Bool) (Ba : Option Addr) (ma da : Nat) (ka : List Nat) (sb : Bool) (Ab : Option Addr) (nb cb : Nat) (lb : List Nat) (zb : Bool) (Bb : Option Addr) (mb db : Nat) (kb : List Nat) (w : World) (ha : LmE.at_ w ((sa, Aa, na, ca, la), (za, Ba, ma, da, ka))) (hb : LmE.at_ w ((sb, Ab, nb, cb, lb), (zb, Bb, mb, db, kb))) (hlg : (lgB ((sa, Aa, na, ca, la), (za, Ba, ma, da, ka)) || lgB ((sb, Ab, nb, cb, lb), (zb, Bb, mb, db, kb))) = true) (hB : Blk w g [.bool sa, .slice Aa na ca, .bool za, .slice Ba ma da, .bool sb, .slice Ab nb cb, .bool zb, .slice Bb mb db]) :
  Calls Tryz.prog 161 #[.slice (some ⟨g, 0, none⟩) 1 1] w (RetV w (.int .i64 4)) := by
 have HL := Lib.hid (lg_two hlg)
 clear hlg
 go_enter Tryz.func161, Tryz.ntmps161
 go_wp2_with fail
 go_loopw [7] (fun i wr => i = .int .i64 0 ∧ Below w.heap.size w wr) (fun i _ => 1 - (intOf i).toNat)
 case atStart => exact ⟨rfl, Below.refl _ _⟩
 case round =>
  obtain ⟨rfl, hb9⟩ := hrel
  have hB1 := hB.next hb9
  obtain ⟨e0, e1, e2, e3, e4, e5, e6, e7⟩ := hB1.c8
  have hsz := hb9.size
  have K0 := (Mm.nil wr).var (g := wr.heap.size) rfl [.bool sa, .slice Aa na ca, .bool za, .slice Ba ma da, .bool sb, .slice Ab nb cb, .bool zb, .slice Bb mb db] 30
  have ha0 := ha.below (hb9.trans (K0.1.mono hsz))
  have hb0 := hb.below (hb9.trans (K0.1.mono hsz))
  go_upto_region 4 with (fail)
  generalize wr.alloc (.cells #[.bool sa, .slice Aa na ca, .bool za, .slice Ba ma da, .bool sb, .slice Ab nb cb, .bool zb, .slice Bb mb db] 30) = w0 at K0 ha0 hb0 ⊢
  clear e0 e1 e2 e3 e4 e5 e6 e7
  obtain ⟨e0, e1, e2, e3, e4, e5, e6, e7⟩ := (K0.blk (g := wr.heap.size) (by repeat constructor)).c8
  have hL := Lib.hid (lfs_two w0 rfl 26 ha0 hb0)
  go_wp2_with fail
  refine (rat_long_any w0.heap.size 2 2 (two ((sa, Aa, na, ca, la), (za, Ba, ma, da, ka)) ((sb, Ab, nb, cb, lb), (zb, Bb, mb, db, kb))) _ hL.out (by decide) (by decide)).mono ?_
  rintro e9 w9 ⟨rfl, hb2⟩
  rw [HL.out]
  have hb3 := hb9.trans ((K0.1.trans ((below_box hb2).mono K0.1.size)).mono hsz)
  clear K0 hb2 hL ha0 hb0
  go_wp2_with fail
  go_ret
  exact ⟨rfl, hb3⟩
theorem beam_answered_long (sa za : Bool) (Aa Ba : Option Addr) (na ca ma da : Nat) (xa : Rat) (sb zb : Bool) (Ab Bb : Option Addr) (nb cb mb db : Nat) (xb : Rat) (w : World) (ia : IsInt w sa Aa na ca xa.num) (ja : IsInt w za Ba ma da (xa.den : Int)) (ib : IsInt w sb Ab nb cb xb.num) (jb : IsInt w zb Bb mb db (xb.den : Int)) (hna : na ≤ 1000000 ∧ ma ≤ 1000000 ∧ nb ≤ 1000000 ∧ mb ≤ 1000000) (hl : ¬ (Sz xa 2048 ∧ Sz xb 2048)) :
  Calls Tryz.prog 50 #[.agg #[.bool sa, .slice Aa na ca, .bool za, .slice Ba ma da, .bool sb, .slice Ab nb cb, .bool zb, .slice Bb mb db]] w (RetGx w 4) := by
 obtain ⟨la, S1, c1, g1, z1⟩ := id ia
 obtain ⟨ka, S2, c2, g2, z2⟩ := id ja
 obtain ⟨lb, S3, c3, g3, z3⟩ := id ib
 obtain ⟨kb, S4, c4, g4, z4⟩ := id jb
 have oa : LmE.at_ w ((sa, Aa, na, ca, la), (za, Ba, ma, da, ka)) := ⟨S1, S2, by show na ≤ _; omega, by show ma ≤ _; omega⟩
 have ob : LmE.at_ w ((sb, Ab, nb, cb, lb), (zb, Bb, mb, db, kb)) := ⟨S3, S4, by show nb ≤ _; omega, by show mb ≤ _; omega⟩
 have HLG : Hid ((lgB ((sa, Aa, na, ca, la), (za, Ba, ma, da, ka)) || lgB ((sb, Ab, nb, cb, lb), (zb, Bb, mb, db, kb))) = true) := Lib.hid (by
  rw [Bool.or_eq_true]
  by_cases h : Sz xa 2048
  ·exact .inr (lg_of ib jb (fun k => hl ⟨h, k⟩))
  ·exact .inl (lg_of ia ja h))
 have K0 := ((Mm.nil w).var (g := w.heap.size) rfl [.bool sa, .slice Aa na ca, .bool za, .slice Ba ma da, .bool sb, .slice Ab nb cb, .bool zb, .slice Bb mb db] 30).var (g := w.heap.size + 1) (by simp) [.bool false, .slice none 0 0, .bool false, .slice none 0 0, .bool false, .slice none 0 0, .bool false, .slice none 0 0] 30
 have o1 := oa.below (K0.1.trans (((Below.refl _ _).alloc (Nat.le_refl _) (.cells #[.bool sa, .slice Aa na ca, .bool za, .slice Ba ma da, .bool sb, .slice Ab nb cb, .bool zb, .slice Bb mb db] 30)).mono K0.1.size))
 have o2 := ob.below (K0.1.trans (((Below.refl _ _).alloc (Nat.le_refl _) (.cells #[.bool sa, .slice Aa na ca, .bool za, .slice Ba ma da, .bool sb, .slice Ab nb cb, .bool zb, .slice Bb mb db] 30)).mono K0.1.size))
 have hA := Lib.hid (fun W (K : Blk W (w.heap.size + 1 + 1) [.bool sa, .slice Aa na ca, .bool za, .slice Ba ma da, .bool sb, .slice Ab nb cb, .bool zb, .slice Bb mb db]) (a1 : LmE.at_ W ((sa, Aa, na, ca, la), (za, Ba, ma, da, ka))) (b1 : LmE.at_ W ((sb, Ab, nb, cb, lb), (zb, Bb, mb, db, kb))) => arg_answer_long (w.heap.size + 1 + 1) sa Aa na ca la za Ba ma da ka sb Ab nb cb lb zb Bb mb db kb W a1 b1 HLG.out K)
 clear ia ja ib jb hl oa ob S1 S2 S3 S4 z1 z2 z3 z4 c1 c2 c3 c4 g1 g2 g3 g4 hna
 have h01 : ¬ w.heap.size = w.heap.size + 1 := by omega
 have h10 : ¬ w.heap.size + 1 = w.heap.size := by omega
 go_enter Tryz.func50, Tryz.ntmps50
 go_wp2_with fail
 have K1 := K0.var (g := w.heap.size + 1 + 1) (by simp) [.bool sa, .slice Aa na ca, .bool za, .slice Ba ma da, .bool sb, .slice Ab nb cb, .bool zb, .slice Bb mb db] 30
 generalize ((w.alloc (.cells #[.bool sa, .slice Aa na ca, .bool za, .slice Ba ma da, .bool sb, .slice Ab nb cb, .bool zb, .slice Bb mb db] 30)).alloc (.cells #[.bool false, .slice none 0 0, .bool false, .slice none 0 0, .bool false, .slice none 0 0, .bool false, .slice none 0 0] 30)).alloc (.cells #[.bool sa, .slice Aa na ca, .bool za, .slice Ba ma da, .bool sb, .slice Ab nb cb, .bool zb, .slice Bb mb db] 30) = w0 at K1 o1 o2 ⊢
 clear K0
 refine (hA.out _ (K1.blk (by simp)) o1 o2).mono ?_
 rintro e1 w1 ⟨rfl, hb1⟩
 have K2 := K1.next hb1
 clear K1 hb1 hA o1 o2
 obtain ⟨f0, f1, f2, f3, f4, f5, f6, f7⟩ := (K2.blk (g := w.heap.size + 1) (by repeat constructor)).c8
 obtain ⟨g0, g1, g2, g3, g4, g5, g6, g7, _⟩ := (K2.blk (g := w.heap.size + 1) (by repeat constructor)).f8
 go_wp2_with fail
 have K3 := (K2.pick (L' := [(w.heap.size + 1, [.bool false, .slice none 0 0, .bool false, .slice none 0 0, .bool false, .slice none 0 0, .bool false, .slice none 0 0])]) (l' := []) (by simp) (by simp)).set8 (by simp) false none 0 0 false none 0 0 false none 0 0 false none 0 0
 exact bodyPost_ret (v := .tuple #[.agg #[.bool false, .slice none 0 0, .bool false, .slice none 0 0, .bool false, .slice none 0 0, .bool false, .slice none 0 0], .int .i64 4]) (by simp [results, Tryz.results50, go_sem, f0, f1, f2, f3, f4, f5, f6, f7]) rfl ⟨rfl, K3.1⟩
end Go.Proofs.YtgekmbfmfiikkaaGreatDoor
