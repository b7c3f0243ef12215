/-
  A whole number is what another one is (SameInt).
  Are fractions, complex numbers the same (SameFrac, SameGauss)? Sizes (MatrixSize, GaussSize).
  May all of these fractions be? (polestarref02.Checks)
  Is the twin of a whole number as it was? (LeftInt)
  Is the twin of a fraction as it was? (LeftFrac)
  The twin of a whole number (TwinInt): the same limbs in memory of its own, one more behind them.
-/
import Derived.Test.YtgekmbfmfiikkaaGreatDoorBkP
import Derived.Test.YtgekmbfmfiikkaaGreatDoorOwI
import Derived.Test.YtgekmbfmfiikkaaGreatDoorOwH
import Derived.Test.YtgekmbfmfiikkaaGreatDoorRaL
import Derived.Test.YtgekmbfmfiikkaaGreatDoorExX
import Derived.Test.YtgekmbfmfiikkaaGreatDoorRootR
import Ieee.Arith
import Derived.Lib.TrailingZeros
import Derived.Test.YtgekmbfmfiikkaaGreatDoorExG
import Derived.Test.YtgekmbfmfiikkaaGreatDoorCom
import Derived.Test.YtgekmbfmfiikkaaGreatDoorRefW
import Derived.Shelf.Spec.TrailingZeros
import Derived.Test.YtgekmbfmfiikkaaGreatDoorExFb
import Derived.Test.YtgekmbfmfiikkaaGreatDoorEyB
namespace Go.Proofs.YtgekmbfmfiikkaaGreatDoor
open Go.RowKit

set_option maxRecDepth 100000 in
set_option maxHeartbeats 1600000 in
theorem same_int_any (neg : Bool) (A A' : Option Addr) (n c c' : Nat) (l : List Nat) (w : World) (ha : Sl w A n c l) (hb : Sl w A' n c' l) (hn : n ≤ 1000000000) :
  Calls Tryz.prog 123 #[.agg #[.bool neg, .slice A n c], .agg #[.bool neg, .slice A' n c']] w (RetV w (.bool true)) := by
 have K0 := ((Mm.nil w).var (g := w.heap.size) rfl [.bool neg, .slice A n c] 24).var (g := w.heap.size + 1) (by simp) [.bool neg, .slice A' n c'] 24
 have ha0 := ha.below K0.1
 have hb0 := hb.below K0.1
 clear ha hb
 go_enter Tryz.func123, Tryz.ntmps123
 go_wp2_with fail
 generalize (w.alloc (.cells #[.bool neg, .slice A n c] 24)).alloc (.cells #[.bool neg, .slice A' n c'] 24) = w0 at K0 ha0 hb0 ⊢
 go_loopw [5] (fun ix wr => ∃ k : Nat, k ≤ n ∧ ix = .int .i64 (k : Int) ∧ Sl wr A n c l ∧ Sl wr A' n c' l ∧ Mm w [(w.heap.size, [.bool neg, .slice A n c]), (w.heap.size + 1, [.bool neg, .slice A' n c'])] [] wr) (fun ix _ => n - (intOf ix).toNat)
 case atStart => exact ⟨0, Nat.zero_le _, rfl, ha0, hb0, K0.pick (by simp) (by simp)⟩
 case round =>
  clear ha0 hb0 K0
  obtain ⟨k, hk, rfl, ha0, hb0, K0⟩ := hrel
  obtain ⟨_, _, _, _, _⟩ := (K0.blk (g := w.heap.size) (by repeat constructor)).two
  obtain ⟨_, _, _, _, _⟩ := (K0.blk (g := w.heap.size + 1) (by repeat constructor)).two
  by_cases hkn : k = n
  ·subst hkn
   go_wp2_with fail
   go_ret
   exact ⟨rfl, K0.1⟩
  ·have hlt : k < n := by omega
   obtain ⟨ad, rfl, _, hld, hcd, _⟩ := ha0.at_ hlt
   obtain ⟨bd, rfl, _, _, hce, _⟩ := hb0.at_ hlt
   obtain ⟨x, hx⟩ : ∃ x, l[k] = x := ⟨_, rfl⟩
   rw [hx] at hcd hce
   have hlt' : (k : Int) < (n : Int) := by omega
   have hk0 : (0 : Int) ≤ (k : Int) := Int.natCast_nonneg _
   clear hx hkn
   go_wp2_with fail
   go_quiet (fail)
   go_wp2_with fail
   go_roundw
   case rel => exact ⟨k + 1, hlt, congrArg (Value.int .i64) (by omega), ha0.drewN _, hb0.drewN _, K0.drewN _⟩
   case measure => simp [intOf] <;> omega
end Go.Proofs.YtgekmbfmfiikkaaGreatDoor

namespace Go.Proofs.YtgekmbfmfiikkaaGreatDoor
open Go.RowKit

theorem isInt_same {w w' : World} {s s' : Bool} {A A' : Option Addr} {n c n' c' : Nat} {z : Int} (h : IsInt w s A n c z) (k : IsInt w' s' A' n' c' z) : s = s' ∧ n = n' ∧ ∃ l, Sl w A n c l ∧ Sl w' A' n' c' l := by
 have hn := isInt_len h k rfl
 obtain ⟨a, ha, ca, na, rfl⟩ := h
 obtain ⟨b, hb, cb, nb, e⟩ := k
 have hs : ∀ (s : Bool) (m : Nat), (sgnd s m).natAbs = m := by intro s m; unfold sgnd; split <;> omega
 have h1 : Lm.lv a = Lm.lv b := by have := congrArg Int.natAbs e; rw [hs, hs] at this; exact this
 have := Lm.lv_inj ha.ok ca hb.ok cb h1
 subst this
 refine ⟨?_, hn, a, ha, hb⟩
 by_cases h0 : a = []
 ·rw [na h0, nb h0]
 ·have hp : Lm.lv a ≠ 0 := fun x => h0 ((Lm.lv_zero ca).1 x)
  cases s <;> cases s' <;> simp [sgnd] at e ⊢ <;> omega

end Go.Proofs.YtgekmbfmfiikkaaGreatDoor

namespace Go.Proofs.YtgekmbfmfiikkaaGreatDoor
open Go.RowKit

set_option maxRecDepth 100000 in
set_option maxHeartbeats 3200000 in
theorem ref2_checks_any (g N c : Nat) (F : Nat → LmE) (w : World) (hL : Lfs w g N F) (hN : N ≤ 1000) (hc : N ≤ c) :
  Calls Tryz.prog 165 #[.slice (some ⟨g, 0, none⟩) N c] w (RetV w (.bool (okAll F N))) := by
 have hg := hL.1
 go_enter Tryz.func165, Tryz.ntmps165
 go_wp2_with fail
 go_loopw [3] (fun i wr => ∃ k : Nat, k ≤ N ∧ i = .int .i64 (k : Int) ∧ Hid (okAll F k = true) ∧ Below w.heap.size w wr) (fun i _ => N - (intOf i).toNat)
 case atStart => exact ⟨0, Nat.zero_le _, rfl, Lib.hid rfl, Below.refl _ _⟩
 case round =>
  obtain ⟨k, hk, rfl, HK, hb⟩ := hrel
  have hsz := hb.size
  by_cases hlt : k < N
  ·obtain ⟨hg1, hall⟩ := hL.next hb
   obtain ⟨⟨a0, a1, a2, a3⟩, hS, hS', hn, hn'⟩ := hall k hlt
   have HCk := Lib.hid (okB_chk (F k))
   have HOK : Hid (okAll F (k + 1) = (okAll F k && okB (F k))) := Lib.hid rfl
   have HNO : Hid (okB (F k) = false → okAll F N = false) := Lib.hid (okAll_no hlt)
   obtain ⟨f, hf⟩ : ∃ f, F k = f := ⟨_, rfl⟩
   rw [hf] at a0 a1 a2 a3 hS hS' hn hn' HCk HOK HNO
   obtain ⟨⟨neg, A, n, c1, l⟩, neg', A', n', c1', l'⟩ := f
   simp only at a0 a1 a2 a3 hS hS' hn hn' HCk
   have hlt' : (k : Int) < (N : Int) := by omega
   have hk0 : (0 : Int) ≤ (k : Int) := Int.natCast_nonneg _
   clear hall hf
   go_wp2_with fail
   refine (ref2_check neg neg' A A' n c1 n' c1' l l' _ hS hS' hn hn').mono ?_
   rintro e1 w1 ⟨rfl, hb1⟩
   obtain ⟨b, hob⟩ : ∃ b, okB ((neg, A, n, c1, l), (neg', A', n', c1', l')) = b := ⟨_, rfl⟩
   rw [hob] at HCk HOK HNO
   rw [HCk.out]
   clear hob
   cases b with
   | false =>
    have HF : Hid (okAll F N = false) := Lib.hid (HNO.out rfl)
    go_wp2_with fail
    go_ret
    exact ⟨by rw [HF.out]; rfl, below_next hb hb1⟩
   | true =>
    go_wp2_with fail
    refine ⟨⟨k + 1, hlt, congrArg (Value.int .i64) (by omega), Lib.hid (by rw [HOK.out, HK.out]; rfl), below_next hb hb1⟩, ?_⟩
    simp [intOf]
    omega
  ·obtain rfl : k = N := by omega
   have hnl : ¬ (k : Int) < (k : Int) := by omega
   go_wp2_with fail
   go_ret
   exact ⟨by rw [HK.out]; rfl, hb⟩
end Go.Proofs.YtgekmbfmfiikkaaGreatDoor

namespace Go.Proofs.YtgekmbfmfiikkaaGreatDoor
open Go.RowKit

/-- A twin's limbs: one more behind them, 7777. -/
def Twl (w : World) (g n c : Nat) (l : List Nat) : Prop := n + 1 ≤ c ∧ Sl w (some ⟨g, 0, none⟩) n c l ∧ g < w.heap.size ∧ w.cell? ⟨g, n, none⟩ = some (.int .u32 7777)
theorem Twl.below {w w' : World} {g n c : Nat} {l : List Nat} (h : Twl w g n c l) (hb : Below w.heap.size w w') : Twl w' g n c l :=
 ⟨h.1, h.2.1.below hb, Nat.lt_of_lt_of_le h.2.2.1 hb.size, ((bcell hb).1 _ _ h.2.2.1).trans h.2.2.2⟩
set_option maxRecDepth 100000 in
set_option maxHeartbeats 1600000 in
theorem left_int_any (neg : Bool) (A : Option Addr) (n c g c' : Nat) (l : List Nat) (w : World) (ha : Sl w A n c l) (ht : Twl w g n c' l) (hn : n ≤ 1000000000) :
  Calls Tryz.prog 176 #[.agg #[.bool neg, .slice (some ⟨g, 0, none⟩) n c'], .agg #[.bool neg, .slice A n c]] w (RetV w (.bool true)) := by
 have K0 := ((Mm.nil w).var (g := w.heap.size) rfl [.bool neg, .slice (some ⟨g, 0, none⟩) n c'] 24).var (g := w.heap.size + 1) (by simp) [.bool neg, .slice A n c] 24
 have ha0 := ha.below K0.1
 have ht0 := ht.below K0.1
 have hcap : (n : Int) < (c' : Int) := by have := ht.1; omega
 have hcap1 : n + 1 ≤ c' := ht.1
 have hcap3 : (n : Int) + 1 ≤ (c' : Int) := by omega
 have hl0 : (0 : Int) ≤ (n : Int) + 1 := by omega
 have hl1 : (n : Int) < (n : Int) + 1 := by omega
 have hwr : IntKind.i64.wrap ((n : Int) + 1) = (n : Int) + 1 := IntWalk.i64_in _ (by omega)
 have hl2 : ((n : Int) + 1).toNat = n + 1 := by omega
 have hcap4 : ¬ (c' : Int) ≤ (n : Int) := by omega
 have hcap5 : ¬ (c' : Int) < (n : Int) + 1 := by omega
 have hcap6 : ¬ c' < n + 1 := by omega
 have hcap7 : n < c' := by omega
 clear ha ht
 go_enter Tryz.func176, Tryz.ntmps176
 go_wp2_with fail
 generalize (w.alloc (.cells #[.bool neg, .slice (some ⟨g, 0, none⟩) n c'] 24)).alloc (.cells #[.bool neg, .slice A n c] 24) = w0 at K0 ha0 ht0 ⊢
 obtain ⟨_, _, _, _, _⟩ := (K0.blk (g := w.heap.size) (by repeat constructor)).two
 obtain ⟨_, _, _, _, _⟩ := (K0.blk (g := w.heap.size + 1) (by repeat constructor)).two
 have qs := ht0.2.2.2
 go_region_held3 (fun w' => w'.cell? ⟨w.heap.size, 0, none⟩ = some (.bool neg) ∧ w'.cell? ⟨w.heap.size, 1, none⟩ = some (.slice (some ⟨g, 0, none⟩) n c') ∧ w'.cell? ⟨w.heap.size + 1, 0, none⟩ = some (.bool neg) ∧ w'.cell? ⟨w.heap.size + 1, 1, none⟩ = some (.slice A n c) ∧ w'.cell? ⟨g, n, none⟩ = some (.int .u32 7777))
  (go_keep)
  (first
   | (go_at_call 123; apply Calls.withMm (w0 := w); (case K => with_reducible repeat (first | exact K0 | apply Mm.drew | apply Mm.drewN)); intro KX; (with_reducible refine (same_int_any neg (some ⟨g, 0, none⟩) A n c' c l _ ?_ ?_ hn).mono ?_); (exact ht0.2.1); (exact ha0); rintro e1 w1 ⟨rfl, hb1⟩; (with_reducible have K1 := KX.next hb1); have ht1 := ht0.below (below_of_drew hb1); obtain ⟨xa0, xb0, xc0, xd0, xe0⟩ := (K1.blk (g := w.heap.size) (by repeat constructor)).two; obtain ⟨xa1, xb1, xc1, xd1, xe1⟩ := (K1.blk (g := w.heap.size + 1) (by repeat constructor)).two; have xs := ht1.2.2.2; clear KX hb1))
 go_wp2_with fail
 go_ret
 exact ⟨rfl, K1.1⟩
end Go.Proofs.YtgekmbfmfiikkaaGreatDoor

namespace Go.Proofs.YtgekmbfmfiikkaaGreatDoor
open Go.RowKit

set_option maxRecDepth 100000 in
set_option maxHeartbeats 1600000 in
theorem left_frac_any (neg neg' : Bool) (A A' : Option Addr) (n c n' c' g d g' d' : Nat) (l l' : List Nat) (w : World) (ha : Sl w A n c l) (hb : Sl w A' n' c' l') (ht : Twl w g n d l) (hu : Twl w g' n' d' l') (hn : n ≤ 1000000000) (hn' : n' ≤ 1000000000) :
  Calls Tryz.prog 59 #[.agg #[.bool neg, .slice (some ⟨g, 0, none⟩) n d, .bool neg', .slice (some ⟨g', 0, none⟩) n' d'], .agg #[.bool neg, .slice A n c, .bool neg', .slice A' n' c']] w (RetV w (.bool true)) := by
 have K0 := ((Mm.nil w).var (g := w.heap.size) rfl [.bool neg, .slice (some ⟨g, 0, none⟩) n d, .bool neg', .slice (some ⟨g', 0, none⟩) n' d'] 26).var (g := w.heap.size + 1) (by simp) [.bool neg, .slice A n c, .bool neg', .slice A' n' c'] 26
 have ha0 := ha.below K0.1
 have hb0 := hb.below K0.1
 have ht0 := ht.below K0.1
 have hu0 := hu.below K0.1
 clear ha hb ht hu
 go_enter Tryz.func59, Tryz.ntmps59
 go_wp2_with fail
 refine (left_int_any neg A n c g d l _ ha0 ht0 hn).mono ?_
 rintro e1 w1 ⟨rfl, hb1⟩
 have K1 := K0.next hb1
 have hb2 := hb0.below hb1
 have hu2 := hu0.below hb1
 obtain ⟨⟨_, _, _, _⟩, _, _⟩ := (K1.blk (g := w.heap.size) (by repeat constructor)).four
 obtain ⟨⟨_, _, _, _⟩, _, _⟩ := (K1.blk (g := w.heap.size + 1) (by repeat constructor)).four
 clear K0 ha0 hb0 ht0 hu0 hb1
 go_wp2_with fail
 refine (left_int_any neg' A' n' c' g' d' l' _ hb2 hu2 hn').mono ?_
 rintro e2 w2 ⟨rfl, hb3⟩
 have K2 := K1.next hb3
 go_wp2_with fail
 go_ret
 exact ⟨rfl, K2.1⟩
end Go.Proofs.YtgekmbfmfiikkaaGreatDoor

namespace Go.Proofs.YtgekmbfmfiikkaaGreatDoor
open Go.RowKit

/-- append within the capacity of a row of the call's own, the source nil, empty or not. -/
theorem run_append_room1 {P : Program} (w : World) (base : Nat) (t ty e : TypeId) (i : TypeInfo) (ht : P.underlying t = some (.slice e)) (hi : P.info? e = some i) (hsize : i.size = 1)
  (g k cap : Nat) (xs : List Value) (hown : w.ownsRow base e 1 (.slice (some ⟨g, 0, none⟩) k cap) k xs) (B : Nat) (A : Option Addr) (m c : Nat) (news : List Value) (hr : Reads w B A m news) (h1 : ∀ u ∈ news, u.oneCell' = true) (hroom : k + m ≤ cap) :
  ∃ w', (Builtin.append_ #[t, t] ty #[.slice (some ⟨g, 0, none⟩) k cap, .slice A m c]).run P w = .ok (.slice (some ⟨g, 0, none⟩) (k + m) cap) w' ∧ w'.ownsRow base e 1 (.slice (some ⟨g, 0, none⟩) (k + m) cap) (k + m) (xs ++ news) ∧ w.grownBy w' (some g) := by
 rcases A with _ | ad
 ·have hm : m = 0 := by
   rcases Nat.eq_zero_or_pos m with h0 | h0
   ·exact h0
   ·obtain ⟨ad, h, _⟩ := hr.2 h0
    cases h
  subst hm
  have hn : news = [] := List.eq_nil_of_length_eq_zero hr.1
  subst hn
  exact ⟨w, run_append_of_nil w base t ty e i ht hi _ k xs hown c, by simpa using hown, World.grownBy.refl w _⟩
 ·have hcells : ∀ j u, news[j]? = some u → w.cell? (ad.add j) = some u := by
   intro j u hu
   rcases Nat.eq_zero_or_pos m with h0 | h0
   ·subst h0
    have hn : news = [] := List.eq_nil_of_length_eq_zero hr.1
    subst hn
    simp at hu
   ·obtain ⟨ad', h, _, hc⟩ := hr.2 h0
    injection h with h
    subst h
    exact hc j u hu
  exact run_append_fits (P := P) w base t ty e i 1 ht hi hsize g k cap xs hown ad m c news (by rw [hr.1, Nat.mul_one]) hcells h1 hroom
theorem wp_append_room1 {P : Program} (w : World) {o : Oper} {a : Act} {K : Act → World → Prop} {Q : Exit → Act → World → Prop} (s x : Operand) (t : TypeId)
  (ho : o.op = .call { callee := .builtin .append, args := #[s, x], argTypes := #[t, t] })
  (base : Nat) (e : TypeId) (i : TypeInfo) (ht : P.underlying t = some (.slice e)) (hi : P.info? e = some i) (hsize : i.size = 1)
  (g k cap : Nat) (xs : List Value) (hs : a.eval s = .slice (some ⟨g, 0, none⟩) k cap) (hown : w.ownsRow base e 1 (.slice (some ⟨g, 0, none⟩) k cap) k xs) (B : Nat) (A : Option Addr) (m c : Nat) (news : List Value) (hx : a.eval x = .slice A m c) (hr : Reads w B A m news) (h1 : ∀ u ∈ news, u.oneCell' = true) (hroom : k + m ≤ cap)
  (h : ∀ w', w'.ownsRow base e 1 (.slice (some ⟨g, 0, none⟩) (k + m) cap) (k + m) (xs ++ news) → w.grownBy w' (some g) → K (a.put o.dst (.slice (some ⟨g, 0, none⟩) (k + m) cap)) w') : o.wp P a w K Q := by
 obtain ⟨w', hrun, h2, h3⟩ := run_append_room1 (P := P) w base t o.type e i ht hi hsize g k cap xs hown B A m c news hr h1 hroom
 unfold Oper.wp execOp
 simp only [ho, resolve, invoke, builtin, Sem.run_bind, Sem.run_pure, Result.andThen_ok, List.map_toArray, List.map_cons, List.map_nil, hs, hx, hrun]
 exact h w' h2 h3
theorem wpList_append_room1 {P : Program} (w : World) {ops : Array Oper} {rest : List Oper} {o : Oper} {a : Act} {Q : Exit → Act → World → Prop} (hgd : o.guard = none) (s x : Operand) (t : TypeId)
  (ho : o.op = .call { callee := .builtin .append, args := #[s, x], argTypes := #[t, t] })
  (base : Nat) (e : TypeId) (i : TypeInfo) (ht : P.underlying t = some (.slice e)) (hi : P.info? e = some i) (hsize : i.size = 1)
  (g k cap : Nat) (xs : List Value) (hs : a.eval s = .slice (some ⟨g, 0, none⟩) k cap) (hown : w.ownsRow base e 1 (.slice (some ⟨g, 0, none⟩) k cap) k xs) (B : Nat) (A : Option Addr) (m c : Nat) (news : List Value) (hx : a.eval x = .slice A m c) (hr : Reads w B A m news) (h1 : ∀ u ∈ news, u.oneCell' = true) (hroom : k + m ≤ cap)
  (h : ∀ w', w'.ownsRow base e 1 (.slice (some ⟨g, 0, none⟩) (k + m) cap) (k + m) (xs ++ news) → w.grownBy w' (some g) → wpList P ops Q rest (a.put o.dst (.slice (some ⟨g, 0, none⟩) (k + m) cap)) w') : wpList P ops Q (o :: rest) a w :=
 wpList_plain hgd fun _ hK => wp_append_room1 w s x t ho base e i ht hi hsize g k cap xs hs hown B A m c news hx hr h1 hroom fun w' h2 h3 => hK _ _ (h w' h2 h3)
/-- At a step of a region that draws. -/
theorem step_append_room1 {P : Program} (w : World) {ops : Array Oper} {o : Oper} {a : Act} {K : Act → World → Prop} {Q : Exit → Act → World → Prop} {E : Prop} (hgd : o.guard = none) (s x : Operand) (t : TypeId)
  (ho : o.op = .call { callee := .builtin .append, args := #[s, x], argTypes := #[t, t] })
  (base : Nat) (e : TypeId) (i : TypeInfo) (ht : P.underlying t = some (.slice e)) (hi : P.info? e = some i) (hsize : i.size = 1)
  (g k cap : Nat) (xs : List Value) (hs : a.eval s = .slice (some ⟨g, 0, none⟩) k cap) (hown : w.ownsRow base e 1 (.slice (some ⟨g, 0, none⟩) k cap) k xs) (B : Nat) (A : Option Addr) (m c : Nat) (news : List Value) (hx : a.eval x = .slice A m c) (hr : Reads w B A m news) (h1 : ∀ u ∈ news, u.oneCell' = true) (hroom : k + m ≤ cap)
  (h : ∀ w', w'.ownsRow base e 1 (.slice (some ⟨g, 0, none⟩) (k + m) cap) (k + m) (xs ++ news) → w.grownBy w' (some g) → K (a.put o.dst (.slice (some ⟨g, 0, none⟩) (k + m) cap)) w') :
  if Region.wanted o (yielded ops a.tmps) = true then Oper.wp P o a w K Q else E := by
 have hw : Region.wanted o (yielded ops a.tmps) = true := by simp [Region.wanted, hgd]
 rw [if_pos hw]
 exact wp_append_room1 w s x t ho base e i ht hi hsize g k cap xs hs hown B A m c news hx hr h1 hroom h

theorem below_to_drew {B : Nat} {a w : World} (h : Below B a w) : Below B a w.drew := ⟨h.os, h.tape, h.output, h.size, h.block⟩
theorem Twl.far {w : World} {g n c : Nat} {l : List Nat} (h : Twl w g n c l) {p : Addr} (v : Value) (hp : p.block ≠ g) : Twl (w.setCell p v) g n c l := by
 refine ⟨h.1, h.2.1.store_far v (fun ad he => ?_), by simpa [World.setCell] using h.2.2.1, ?_⟩
 ·injection he with he
  subst he
  exact fun e => hp e.symm
 ·rw [World.cell?_setCell_other w p ⟨g, n, none⟩ v (by intro e; rw [e] at hp; exact hp rfl)]
  exact h.2.2.2
theorem twl_of_own {w : World} {base g n : Nat} {l : List Nat} (h : w.ownsRow base 164 1 (.slice (some ⟨g, 0, none⟩) (n + 1) (n + 1)) (n + 1) (u32s l ++ [.int .u32 7777])) (hl : l.length = n) (hok : Lm.ok l) : Twl w g n (n + 1) l := by
 have hr := Reads.of_own h
 have hlen : (u32s l).length = n := by unfold u32s; simpa using hl
 have ht := hr.take (Nat.le_succ n)
 rw [List.take_left' hlen] at ht
 obtain ⟨ad, e, hb, hc⟩ := hr.2 (by omega)
 injection e with e
 subst e
 refine ⟨Nat.le_refl _, ⟨ht, Nat.le_succ n, hok⟩, hb, ?_⟩
 have := hc n (.int .u32 7777) (by rw [List.getElem?_append_right (by omega), hlen, Nat.sub_self]; rfl)
 rwa [Addr.add_lit, Nat.zero_add] at this
end Go.Proofs.YtgekmbfmfiikkaaGreatDoor
