/-
  What floats are worth, in one row (polestarlaw04.worth).
-/
import Derived.Test.YtjcjphgpmpjmbaaDoorTzG
import Derived.Test.YtjcjphgpmpjmbaaDoorFrZ
namespace Go.Proofs.YtjcjphgpmpjmbaaDoor
open Go.RowKit

theorem wpList_frac {wr : World} {ops : Array Oper} {rest : List Oper} {o : Oper} {a : Act} {Q : Exit → Act → World → Prop} (hgd : o.guard = none) (s x : Operand)
    (ho : o.op = .call { callee := .builtin .append, args := #[s, x], argTypes := #[37, 37] })
    {B N : Nat} {av : Value} {V : Nat → Rat} (f : FrE) (ga c : Nat) (hA : AllR B av N V wr) (hB : B ≤ wr.heap.size) (hf : ∀ k v, f.vs[k]? = some v → wr.cell? ⟨ga, k, none⟩ = some v) (hat : FrE.at_ wr f) (hv : f.2.2 = V N) (hN : N ≤ 1000)
    (hs : a.eval s = av) (hx : a.eval x = .slice (some ⟨ga, 0, none⟩) 1 c)
    (h : ∀ g cap w', AllR B (.slice (some ⟨g, 0, none⟩) (N + 1) cap) (N + 1) V w' → Below B wr w' → wpList Tryd.prog ops Q rest (a.put o.dst (.slice (some ⟨g, 0, none⟩) (N + 1) cap)) w') : wpList Tryd.prog ops Q (o :: rest) a wr := by
  obtain ⟨i, hi, hz, hsz, hby⟩ := info_parts info_frac
  obtain ⟨G, xs, h1, h2, h3, h4, h5⟩ := hA
  refine wpList_plain hgd fun _ hK => wp_append_limbs wr s x 37 ho B 26 i _ 4 64 under_fracs hi hz hsz hby rfl (by decide) av N xs hs h1 ⟨ga, 0, none⟩ 1 c f.vs hx rfl (fun j u hj => ?_) (fun u hu => ?_) (by decide) (by simp [maxLen]; omega) (by omega) hB h4 (vs_no_limb f) h3 frac_zeros fun g cap w' k1 k2 k3 k4 k5 => hK _ _ (h g cap w' (AllR.more h1 h2 h3 h4 h5 hat hv k1 k2 k5) ?_)
  · have e : (⟨ga, 0, none⟩ : Addr).add j = ⟨ga, j, none⟩ := by
      cases j with
      | zero => simp [Addr.add]
      | succ n => simp [Addr.add]
    rw [e]
    exact hf j u hj
  · unfold FrE.vs at hu
    simp only [List.mem_cons, List.not_mem_nil, or_false] at hu
    rcases hu with rfl | rfl | rfl | rfl <;> rfl
  · exact below_grown (Below.refl _ _) k2 hB (fun g hg => (h1.lt g hg).1)

def RetWo (W : World) (N : Nat) (X : Nat → Nat) (e : Ending) (w' : World) : Prop :=
  ((∀ j, j < N → Flt.Fin (X j)) ∧ ∃ g c F, e = .returned (.tuple #[.slice (some ⟨g, 0, none⟩) N c, .bool true]) ∧ N ≤ c ∧ Frs w' g N F ∧ (∀ j, j < N → (F j).2.2 = fr (X j)) ∧ W.heap.size ≤ g ∧ Below W.heap.size W w') ∨
  ((∃ j, j < N ∧ ¬ Flt.Fin (X j)) ∧ e = .returned (.tuple #[.slice none 0 0, .bool false]) ∧ Below W.heap.size W w')
theorem AllR.own {base N : Nat} {av : Value} {V : Nat → Rat} {wr : World} (h : AllR base av N V wr) (h0 : 0 < N) : ∃ g cap, av = .slice (some ⟨g, 0, none⟩) N cap ∧ N ≤ cap ∧ base ≤ g := by
  obtain ⟨G, xs, h1, _⟩ := h
  rcases h1.2 with ⟨_, k⟩ | ⟨g, cap, cur, rfl, hb, _, hnc, _⟩
  · omega
  · exact ⟨g, cap, rfl, hnc, hb⟩
set_option maxRecDepth 100000 in
set_option maxHeartbeats 3200000 in
theorem law_worth (g N c : Nat) (X : Nat → Nat) (w : World) (hg : g < w.heap.size) (hN0 : 0 < N) (hN : N ≤ 1000) (hX : ∀ i, i < N → w.cell? ⟨g, i, none⟩ = some (.float .f64 (X i)) ∧ X i < 2 ^ 64) (hT : Tab w) :
    Calls Tryd.prog 13 #[.slice (some ⟨g, 0, none⟩) N c] w (RetWo w N X) := by
  have HT := Lib.hid hT
  have HX := Lib.hid hX
  clear hX hT
  go_enter Tryd.func13, Tryd.ntmps13
  go_wp2_with fail
  go_loopw [4, 5] (fun av i wr => ∃ k : Nat, k ≤ N ∧ i = .int .i64 (k : Int) ∧ Hid (∀ j, j < k → Flt.Fin (X j)) ∧ AllR w.heap.size av k (fun j => fr (X j)) wr ∧ Below w.heap.size w wr) (fun _ i _ => N - (intOf i).toNat)
  case atStart => exact ⟨0, Nat.zero_le _, rfl, Lib.hid (fun j hj => absurd hj (by omega)), AllR.nil _ _ _, Below.refl _ _⟩
  case round =>
    obtain ⟨k, hk, rfl, HF, hA, hb⟩ := hrel
    have hsz := hb.size
    by_cases hlt : k < N
    · obtain ⟨x, hx⟩ : ∃ x, X k = x := ⟨_, rfl⟩
      obtain ⟨c0, x64⟩ := HX.out k hlt
      rw [hx] at c0 x64
      have c1 := (hb.cell (p := ⟨g, k, none⟩) hg).trans c0
      have hlt' : (k : Int) < (N : Int) := by omega
      have hk0 : (0 : Int) ≤ (k : Int) := Int.natCast_nonneg _
      have HT1 := Lib.hid (HT.out.next hb)
      by_cases hf : Flt.Fin x
      · have HF1 : Hid (∀ j, j < k + 1 → Flt.Fin (X j)) := Lib.hid (fun j hj => by
          rcases Nat.lt_or_ge j k with h | h
          · exact HF.out j h
          · have : j = k := by omega
            rw [this, hx]; exact hf)
        have HXK := Lib.hid hx
        have hA0 := hA
        clear hx c0
        go_wp2_with fail
        refine (frac_float_fin x x64 _ HT1.out hf).mono ?_
        rintro e1 w1 ⟨neg1, A1, n1, c1', l1, ne1, B1, m1, d1, k1, rfl, O1, hb1⟩
        obtain ⟨i1, i2, _⟩ := O1.ints
        have KL := ((((Mm.nil w1).int i2).int i1).var (g := w1.heap.size) rfl [.bool neg1, .slice A1 n1 c1', .bool ne1, .slice B1 m1 d1] 26)
        have hA1 := hA.next hb1
        go_upto_if 23 with (fail)
        generalize w1.alloc (.cells #[.bool neg1, .slice A1 n1 c1', .bool ne1, .slice B1 m1 d1] 26) = w2 at KL ⊢
        have hA2 := hA1.next KL.1
        have hb2 := hb.trans ((below_next hb1 KL.1).mono hsz)
        obtain ⟨⟨qa1, qb1, qc1, qd1⟩, ⟨qe1, qf1, qg1, qh1⟩, qi1⟩ := (KL.blk (g := w1.heap.size) (vs := [.bool neg1, .slice A1 n1 c1', .bool ne1, .slice B1 m1 d1]) (by simp)).four
        have hi1 := KL.at_ (neg := neg1) (A := A1) (n := n1) (c := c1') (z := (fr x).num) (by simp)
        have hi2 := KL.at_ (neg := ne1) (A := B1) (n := m1) (c := d1) (z := ((fr x).den : Int)) (by simp)
        have hsz2 := hb2.size
        have hA3 := hA2.next (w' := w2.alloc (.cells #[.bool neg1, .slice A1 n1 c1', .bool ne1, .slice B1 m1 d1] 26)) ((Below.refl _ _).alloc (Nat.le_refl _) _)
        have hb3 := hb2.alloc hsz2 (.cells #[.bool neg1, .slice A1 n1 c1', .bool ne1, .slice B1 m1 d1] 26)
        have hcell := vs_new w2 ((neg1, A1, n1, c1'), (ne1, B1, m1, d1), fr x) 26
        have hat : FrE.at_ (w2.alloc (.cells #[.bool neg1, .slice A1 n1 c1', .bool ne1, .slice B1 m1 d1] 26)) ((neg1, A1, n1, c1'), (ne1, B1, m1, d1), fr x) := ⟨hi1.alloc _, hi2.alloc _⟩
        clear HF hA hA0 hA1 hA2 hb hb1 hb2 O1 i1 i2 c1 HT1 hi1 hi2 KL
        go_wp2_with (at_builtin; (refine wpList_frac rfl _ _ rfl ((neg1, A1, n1, c1'), (ne1, B1, m1, d1), fr x) w2.heap.size 1 hA3 (by simp; omega) hcell hat (by rw [← HXK.out]) (by omega) rfl rfl ?_; intro g4 cap4 w4 hA4 hb4))
        have hb5 := hb3.trans hb4
        refine ⟨⟨k + 1, hlt, congrArg (Value.int .i64) (by omega), HF1, hA4, hb5⟩, ?_⟩
        simp [intOf]
        omega
      · have HR : Hid (∃ j, j < N ∧ ¬ Flt.Fin (X j)) := Lib.hid ⟨k, hlt, by rw [hx]; exact hf⟩
        clear hA HF hx c0
        go_wp2_with fail
        refine (frac_float_no x x64 _ hf).mono ?_
        rintro e1 w1 ⟨rfl, hb1⟩
        have KL := (Mm.nil w1).var (g := w1.heap.size) rfl [.bool false, .slice none 0 0, .bool false, .slice none 0 0] 26
        have hb2 := hb.trans ((below_next hb1 KL.1).mono hsz)
        clear hb hb1 KL hf
        go_wp2_with fail
        go_ret2
        exact .inr ⟨HR.out, rfl, hb2⟩
    · obtain rfl : k = N := by omega
      have hnl : ¬ (k : Int) < (k : Int) := by omega
      obtain ⟨ga, ca, rfl, hca, hga⟩ := hA.own hN0
      obtain ⟨F, hF, hV⟩ := hA.frs
      have HR : Hid (RetWo w k X (.returned (.tuple #[.slice (some ⟨ga, 0, none⟩) k ca, .bool true])) wr) := Lib.hid (.inl ⟨HF.out, ga, ca, F, rfl, hca, hF, hV, hga, hb⟩)
      clear HF hA hF hV
      go_wp2_with fail
      go_ret2
      exact HR.out
end Go.Proofs.YtjcjphgpmpjmbaaDoor
