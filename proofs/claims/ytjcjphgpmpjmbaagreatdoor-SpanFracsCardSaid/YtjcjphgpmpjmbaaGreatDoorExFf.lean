/-
  The twin of a whole number (TwinInt): the same limbs in memory of its own, one more behind them.
-/
import Derived.Test.YtjcjphgpmpjmbaaGreatDoorExFe
import Derived.Test.YtjcjphgpmpjmbaaGreatDoorExB
namespace Go.Proofs.YtjcjphgpmpjmbaaGreatDoor
open Go.RowKit

/-- append within the capacity of a row of the call's own, the source nil, empty or not. -/
theorem run_append_room1 {P : Program} (w : World) (base : Nat) (t ty e : TypeId) (i : TypeInfo) (ht : P.underlying t = some (.slice e)) (hi : P.info? e = some i) (hsize : i.size = 1)
    (g k cap : Nat) (xs : List Value) (hown : w.ownsRow base e 1 (.slice (some ⟨g, 0, none⟩) k cap) k xs) (B : Nat) (A : Option Addr) (m c : Nat) (news : List Value) (hr : Reads w B A m news) (h1 : ∀ u ∈ news, u.oneCell' = true) (hroom : k + m ≤ cap) :
    ∃ w', (Builtin.append_ #[t, t] ty #[.slice (some ⟨g, 0, none⟩) k cap, .slice A m c]).run P w = .ok (.slice (some ⟨g, 0, none⟩) (k + m) cap) w' ∧ w'.ownsRow base e 1 (.slice (some ⟨g, 0, none⟩) (k + m) cap) (k + m) (xs ++ news) ∧ w.grownBy w' (some g) := by
  rcases A with _ | ad
  · have hm : m = 0 := by
      rcases Nat.eq_zero_or_pos m with h0 | h0
      · exact h0
      · obtain ⟨ad, h, _⟩ := hr.2 h0
        cases h
    subst hm
    have hn : news = [] := List.eq_nil_of_length_eq_zero hr.1
    subst hn
    exact ⟨w, run_append_of_nil w base t ty e i ht hi _ k xs hown c, by simpa using hown, World.grownBy.refl w _⟩
  · have hcells : ∀ j u, news[j]? = some u → w.cell? (ad.add j) = some u := by
      intro j u hu
      rcases Nat.eq_zero_or_pos m with h0 | h0
      · subst h0
        have hn : news = [] := List.eq_nil_of_length_eq_zero hr.1
        subst hn
        simp at hu
      · obtain ⟨ad', h, _, hc⟩ := hr.2 h0
        injection h with h
        subst h
        exact hc j u hu
    exact run_append_fits (P := P) w base t ty e i 1 ht hi hsize g k cap xs hown ad m c news (by rw [hr.1, Nat.mul_one]) hcells h1 hroom
theorem wp_append_room1 {P : Program} (w : World) {o : Oper} {a : Act} {K : Act → World → Prop} {Q : Exit → Act → World → Prop} (s x : Operand) (t : TypeId)
    (ho : o.op = .call { callee := .builtin .append, args := #[s, x], argTypes := #[t, t] })
    (base : Nat) (e : TypeId) (i : TypeInfo) (ht : P.underlying t = some (.slice e)) (hi : P.info? e = some i) (hsize : i.size = 1)
    (g k cap : Nat) (xs : List Value) (hs : a.eval s = .slice (some ⟨g, 0, none⟩) k cap) (hown : w.ownsRow base e 1 (.slice (some ⟨g, 0, none⟩) k cap) k xs) (B : Nat) (A : Option Addr) (m c : Nat) (news : List Value) (hx : a.eval x = .slice A m c) (hr : Reads w B A m news) (h1 : ∀ u ∈ news, u.oneCell' = true) (hroom : k + m ≤ cap)
    (h : ∀ w', w'.ownsRow base e 1 (.slice (some ⟨g, 0, none⟩) (k + m) cap) (k + m) (xs ++ news) → w.grownBy w' (some g) → K (a.put o.dst (.slice (some ⟨g, 0, none⟩) (k + m) cap)) w') : o.wp P a w K Q := by
  obtain ⟨w', hrun, h2, h3⟩ := run_append_room1 (P := P) w base t o.type e i ht hi hsize g k cap xs hown B A m c news hr h1 hroom
  unfold Oper.wp execOp
  simp only [ho, resolve, invoke, builtin, Sem.run_bind, Sem.run_pure, Result.andThen_ok, List.map_toArray, List.map_cons, List.map_nil, hs, hx, hrun]
  exact h w' h2 h3
theorem wpList_append_room1 {P : Program} (w : World) {ops : Array Oper} {rest : List Oper} {o : Oper} {a : Act} {Q : Exit → Act → World → Prop} (hgd : o.guard = none) (s x : Operand) (t : TypeId)
    (ho : o.op = .call { callee := .builtin .append, args := #[s, x], argTypes := #[t, t] })
    (base : Nat) (e : TypeId) (i : TypeInfo) (ht : P.underlying t = some (.slice e)) (hi : P.info? e = some i) (hsize : i.size = 1)
    (g k cap : Nat) (xs : List Value) (hs : a.eval s = .slice (some ⟨g, 0, none⟩) k cap) (hown : w.ownsRow base e 1 (.slice (some ⟨g, 0, none⟩) k cap) k xs) (B : Nat) (A : Option Addr) (m c : Nat) (news : List Value) (hx : a.eval x = .slice A m c) (hr : Reads w B A m news) (h1 : ∀ u ∈ news, u.oneCell' = true) (hroom : k + m ≤ cap)
    (h : ∀ w', w'.ownsRow base e 1 (.slice (some ⟨g, 0, none⟩) (k + m) cap) (k + m) (xs ++ news) → w.grownBy w' (some g) → wpList P ops Q rest (a.put o.dst (.slice (some ⟨g, 0, none⟩) (k + m) cap)) w') : wpList P ops Q (o :: rest) a w :=
  wpList_plain hgd fun _ hK => wp_append_room1 w s x t ho base e i ht hi hsize g k cap xs hs hown B A m c news hx hr h1 hroom fun w' h2 h3 => hK _ _ (h w' h2 h3)
/-- At a step of a region that draws. -/
theorem step_append_room1 {P : Program} (w : World) {ops : Array Oper} {o : Oper} {a : Act} {K : Act → World → Prop} {Q : Exit → Act → World → Prop} {E : Prop} (hgd : o.guard = none) (s x : Operand) (t : TypeId)
    (ho : o.op = .call { callee := .builtin .append, args := #[s, x], argTypes := #[t, t] })
    (base : Nat) (e : TypeId) (i : TypeInfo) (ht : P.underlying t = some (.slice e)) (hi : P.info? e = some i) (hsize : i.size = 1)
    (g k cap : Nat) (xs : List Value) (hs : a.eval s = .slice (some ⟨g, 0, none⟩) k cap) (hown : w.ownsRow base e 1 (.slice (some ⟨g, 0, none⟩) k cap) k xs) (B : Nat) (A : Option Addr) (m c : Nat) (news : List Value) (hx : a.eval x = .slice A m c) (hr : Reads w B A m news) (h1 : ∀ u ∈ news, u.oneCell' = true) (hroom : k + m ≤ cap)
    (h : ∀ w', w'.ownsRow base e 1 (.slice (some ⟨g, 0, none⟩) (k + m) cap) (k + m) (xs ++ news) → w.grownBy w' (some g) → K (a.put o.dst (.slice (some ⟨g, 0, none⟩) (k + m) cap)) w') :
    if Region.wanted o (yielded ops a.tmps) = true then Oper.wp P o a w K Q else E := by
  have hw : Region.wanted o (yielded ops a.tmps) = true := by simp [Region.wanted, hgd]
  rw [if_pos hw]
  exact wp_append_room1 w s x t ho base e i ht hi hsize g k cap xs hs hown B A m c news hx hr h1 hroom h

theorem below_to_drew {B : Nat} {a w : World} (h : Below B a w) : Below B a w.drew := ⟨h.os, h.tape, h.output, h.size, h.block⟩
def RetTwi (W : World) (neg : Bool) (n : Nat) (l : List Nat) (e : Ending) (w' : World) : Prop :=
  ∃ g c, e = .returned (.agg #[.bool neg, .slice (some ⟨g, 0, none⟩) n c]) ∧ Twl w' g n c l ∧ Below W.heap.size W w' ∧ W.heap.size ≤ g
theorem Twl.far {w : World} {g n c : Nat} {l : List Nat} (h : Twl w g n c l) {p : Addr} (v : Value) (hp : p.block ≠ g) : Twl (w.setCell p v) g n c l := by
  refine ⟨h.1, h.2.1.store_far v (fun ad he => ?_), by simpa [World.setCell] using h.2.2.1, ?_⟩
  · injection he with he
    subst he
    exact fun e => hp e.symm
  · rw [World.cell?_setCell_other w p ⟨g, n, none⟩ v (by intro e; rw [e] at hp; exact hp rfl)]
    exact h.2.2.2
theorem twl_of_own {w : World} {base g n : Nat} {l : List Nat} (h : w.ownsRow base 75 1 (.slice (some ⟨g, 0, none⟩) (n + 1) (n + 1)) (n + 1) (u32s l ++ [.int .u32 7777])) (hl : l.length = n) (hok : Lm.ok l) : Twl w g n (n + 1) l := by
  have hr := Reads.of_own h
  have hlen : (u32s l).length = n := by unfold u32s; simpa using hl
  have ht := hr.take (Nat.le_succ n)
  rw [List.take_left' hlen] at ht
  obtain ⟨ad, e, hb, hc⟩ := hr.2 (by omega)
  injection e with e
  subst e
  refine ⟨Nat.le_refl _, ⟨ht, Nat.le_succ n, hok⟩, hb, ?_⟩
  have := hc n (.int .u32 7777) (by rw [List.getElem?_append_right (by omega), hlen, Nat.sub_self]; rfl)
  rwa [Addr.add_lit, Nat.zero_add] at this
set_option maxRecDepth 100000 in
set_option maxHeartbeats 1600000 in
theorem twin_int_any (neg : Bool) (A : Option Addr) (n c : Nat) (l : List Nat) (w : World) (ha : Sl w A n c l) (hn : n ≤ 1000000000) :
    Calls Tryz.prog 28 #[.agg #[.bool neg, .slice A n c]] w (RetTwi w neg n l) := by
  obtain ⟨i0, hi, hz0, hz1, hz2⟩ := info_parts info_u32
  have e1 : (((n : Nat) : Int) + 1) = ((n + 1 : Nat) : Int) := by omega
  have HE := Lib.hid e1
  clear e1
  have K0 := ((Mm.nil w).var (g := w.heap.size) rfl [.bool neg, .slice A n c] 27).var (g := w.heap.size + 1) (by simp) [.bool false, .slice none 0 0] 27
  have ha0 := ha.below K0.1
  clear ha
  go_enter Tryz.func28, Tryz.ntmps28
  go_wp2_with (at_make; (generalize (w.alloc (.cells #[.bool neg, .slice A n c] 27)).alloc (.cells #[.bool false, .slice none 0 0] 27) = w0 at K0 ha0 ⊢); refine wpList_make_own _ rfl _ _ 25 rfl w0.heap.size 75 i0 (.int .u32 0) 1 Tryz.underlying25 hi hz0 hz1 _ _ _ (n + 1) rfl rfl ?c1 ?c2 ?c3 ?c4 ?_)
  case c1 => exact HE.out
  case c2 => rw [hz2]; omega
  case c3 => unfold maxLen; omega
  case c4 => simp
  intro w1 hown1 hgrow1
  have hb1 : Below w0.heap.size w0 w1 := (Below.refl _ _).grown hgrow1 (Nat.le_refl _) (fun k hk => by cases hk)
  have ha1 := ha0.below hb1
  have K1 := K0.next hb1
  obtain ⟨qa1, qb1, qc1, qd1, qe1⟩ := (K1.blk (g := w.heap.size) (vs := [.bool neg, .slice A n c]) (by simp)).two
  have hlen : l.length = n := ha0.len
  have hok : Lm.ok l := ha0.ok
  clear hgrow1 ha0
  go_wp2_with (at_builtin; refine wpList_append_room1 _ rfl _ _ 25 rfl w0.heap.size 75 i0 Tryz.underlying25 hi hz1 w0.heap.size 0 (n + 1) [] rfl hown1 _ A n c (u32s l) rfl ha1.1 (u32s_one l) (by omega) ?_)
  intro w2 hown2 hgrow2
  have hb2 : Below w0.heap.size w0 w2 := hb1.grown hgrow2 hb1.size (fun k hk => by injection hk with hk; omega)
  go_wp2_with fail
  have K2 := K0.next hb2
  obtain ⟨qa2, qb2, qc2, qd2, qe2⟩ := (K2.blk (g := w.heap.size) (vs := [.bool neg, .slice A n c]) (by simp)).two
  have hs2 : w0.heap.size ≤ w2.heap.size := hb2.size
  have hz3 : w.heap.size + 1 < w0.heap.size := (K0.blk (g := w.heap.size + 1) (vs := [.bool false, .slice none 0 0]) (by simp)).two.2.2.2.2
  have hl0 : (0 : Int) ≤ (n : Int) := by omega
  have hl1 : (n : Int) ≤ (n : Int) + 1 := by omega
  have hl2 : (n : Int) ≤ ((n + 1 : Nat) : Int) := by omega
  have hl3 : ¬ (n : Int) < 0 := by omega
  have hl4 : ¬ (n : Int) + 1 < (n : Int) := by omega
  have hl5 : ¬ ((n + 1 : Nat) : Int) < (n : Int) := by omega
  have hl6 : ¬ n + 1 < n := by omega
  have hl7 : n ≤ n + 1 := by omega
  clear hgrow2 hown1 K1 qa1 qb1 qc1 qd1 qe1 ha1
  go_region_held3 (fun w' => w'.cell? ⟨w.heap.size, 0, none⟩ = some (.bool neg) ∧ w'.cell? ⟨w.heap.size, 1, none⟩ = some (.slice A n c))
    (go_keep)
    (first
      | (refine step_append_room1 _ (by rfl) _ _ 25 (by rfl) w0.heap.size 75 i0 Tryz.underlying25 hi hz1 w0.heap.size n (n + 1) (u32s l) (by rfl) (hown2.alloc _) _ (some ⟨w2.heap.size, 0, none⟩) 1 1 [.int .u32 7777] (by rfl) (reads_new _ _ _) (by simp [Value.oneCell']) (Nat.le_refl _) ?_; intro w3 hown3 hgrow3; have hb3 : Below w0.heap.size w0 w3 := (by first | exact (hb2.alloc hs2 _).grown hgrow3 (by simp; omega) (fun k hk => by injection hk with hk; omega) | exact (below_to_drew (hb2.alloc hs2 _)).grown hgrow3 (by simp; omega) (fun k hk => by injection hk with hk; omega) | exact (below_drewN (hb2.alloc hs2 _) _).grown hgrow3 (by simp; omega) (fun k hk => by injection hk with hk; omega)); have T3 := twl_of_own hown3 hlen hok; have K3 := K0.next hb3; obtain ⟨qa3, qb3, qc3, qd3, qe3⟩ := (K3.blk (g := w.heap.size) (vs := [.bool neg, .slice A n c]) (by simp)).two; obtain ⟨ra3, rb3, rc3, rd3, re3⟩ := (K3.blk (g := w.heap.size + 1) (vs := [.bool false, .slice none 0 0]) (by simp)).two; clear hown3 hgrow3 hb3))
  all_goals
   go_wp2_with fail
   have KE := (K3.pick (L' := [(w.heap.size + 1, [.bool false, .slice none 0 0])]) (l' := []) (by simp) (by simp)).set2 (by simp <;> omega) neg (some ⟨w0.heap.size, 0, none⟩) n (n + 1)
   have TE := (T3.far (p := ⟨w.heap.size + 1, 0, none⟩) (.bool neg) (by simp; omega)).far (p := ⟨w.heap.size + 1, 1, none⟩) (.slice (some ⟨w0.heap.size, 0, none⟩) n (n + 1)) (by simp; omega)
   exact bodyPost_ret (v := .agg #[.bool neg, .slice (some ⟨w0.heap.size, 0, none⟩) n (n + 1)]) (by simp [results, Tryz.results28, go_sem, ra3, rb3]) rfl ⟨w0.heap.size, n + 1, rfl, TE, KE.1, by omega⟩
end Go.Proofs.YtjcjphgpmpjmbaaGreatDoor
