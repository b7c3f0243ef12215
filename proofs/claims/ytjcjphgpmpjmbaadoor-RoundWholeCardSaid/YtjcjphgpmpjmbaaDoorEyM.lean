/-
  The program's whole numbers (package exact): the difference (Minus); ratio.turned, ratio.Sign.
-/
import Derived.Test.YtjcjphgpmpjmbaaDoorEyC
namespace Go.Proofs.YtjcjphgpmpjmbaaDoor
open Go.RowKit

theorem isInt_flip {w : World} {neg : Bool} {A : Option Addr} {n c : Nat} {z : Int} (h : IsInt w neg A n c z) : IsInt w (!neg && decide (0 < n)) A n c (-z) := by
  obtain ⟨l, h1, h2, h3, rfl⟩ := h
  refine ⟨l, h1, h2, fun e => ?_, ?_⟩
  · subst e
    have := h1.len
    simp at this
    subst this
    simp
  · have hl := h1.len
    by_cases h0 : n = 0
    · subst h0
      have : l = [] := List.eq_nil_of_length_eq_zero hl
      subst this
      unfold sgnd
      cases neg <;> simp [Lm.lv]
    · have h0' : 0 < n := by omega
      rw [decide_eq_true h0', Bool.and_true]
      unfold sgnd
      cases neg <;> simp
set_option maxRecDepth 100000 in
set_option maxHeartbeats 3200000 in
theorem ex_minus_any (neg neg' : Bool) (A A' : Option Addr) (n c n' c' : Nat) (x y : Int) (w : World) (hx : IsInt w neg A n c x) (hy : IsInt w neg' A' n' c' y) (hn : n ≤ 1000000000) (hn' : n' ≤ 1000000000) :
    Calls Tryd.prog 73 #[.agg #[.bool neg, .slice A n c], .agg #[.bool neg', .slice A' n' c']] w (RetInt w (x - y)) := by
  have K0 := ((((Mm.nil w).int hx).int (isInt_flip hy)).var (g := w.heap.size) rfl [.bool neg, .slice A n c] 24).var (g := w.heap.size + 1) (by simp) [.bool neg', .slice A' n' c'] 24 |>.var (g := w.heap.size + 1 + 1) (by simp) [.bool false, .slice none 0 0] 24
  have HS : Hid (x + -y = x - y) := Lib.hid (by omega)
  obtain ⟨sg, hsg⟩ : ∃ sg, (!neg' && decide (0 < n')) = sg := ⟨_, rfl⟩
  rw [hsg] at K0
  clear hx hy
  cases neg' with
  | true =>
    have hs : sg = false := by rw [← hsg]; rfl
    subst hs
    clear hsg
    go_enter Tryd.func73, Tryd.ntmps73
    go_wp2_with (go_at_call 70; (with_reducible refine (ex_plus_any neg false A A' n c n' c' x (-y) _ (K0.at_ (by simp)) (K0.at_ (by simp)) hn hn').mono ?_); rintro e1 w1 ⟨neg1, A1, n1, c1, rfl, I1, hb1⟩; have K1 := (K0.next hb1).int I1; obtain ⟨sa1, sb1, sc1, sd1, se1⟩ := (K1.blk (g := w.heap.size + 1 + 1) (vs := [.bool false, .slice none 0 0]) (by simp)).two)
    rw [HS.out] at K1
    have KE := (K1.pick (L' := [(w.heap.size + 1 + 1, [.bool false, .slice none 0 0])]) (l' := [(neg1, A1, n1, c1, x - y)]) (by simp) (by simp)).set2 (by simp <;> omega) neg1 A1 n1 c1
    exact bodyPost_ret (v := .agg #[.bool neg1, .slice A1 n1 c1]) (by simp [results, Tryd.results73, go_sem, sa1, sb1]) rfl ⟨neg1, A1, n1, c1, rfl, KE.at_ (by simp), KE.1⟩
  | false =>
    by_cases h0 : n' = 0
    · have hs : sg = false := by rw [← hsg, h0]; rfl
      subst hs
      subst h0
      clear hsg
      go_enter Tryd.func73, Tryd.ntmps73
      go_wp2_with (go_at_call 70; (with_reducible refine (ex_plus_any neg false A A' n c 0 c' x (-y) _ (K0.at_ (by simp)) (K0.at_ (by simp)) hn hn').mono ?_); rintro e1 w1 ⟨neg1, A1, n1, c1, rfl, I1, hb1⟩; have K1 := (K0.next hb1).int I1; obtain ⟨sa1, sb1, sc1, sd1, se1⟩ := (K1.blk (g := w.heap.size + 1 + 1) (vs := [.bool false, .slice none 0 0]) (by simp)).two)
      rw [HS.out] at K1
      have KE := (K1.pick (L' := [(w.heap.size + 1 + 1, [.bool false, .slice none 0 0])]) (l' := [(neg1, A1, n1, c1, x - y)]) (by simp) (by simp)).set2 (by simp <;> omega) neg1 A1 n1 c1
      exact bodyPost_ret (v := .agg #[.bool neg1, .slice A1 n1 c1]) (by simp [results, Tryd.results73, go_sem, sa1, sb1]) rfl ⟨neg1, A1, n1, c1, rfl, KE.at_ (by simp), KE.1⟩
    · have h0' : 0 < n' := by omega
      have hs : sg = true := by rw [← hsg, decide_eq_true h0']; rfl
      have h1 : (0 : Int) < (n' : Int) := by omega
      subst hs
      clear hsg
      go_enter Tryd.func73, Tryd.ntmps73
      go_wp2_with (go_at_call 70; (with_reducible refine (ex_plus_any neg true A A' n c n' c' x (-y) _ (K0.at_ (by simp)) (K0.at_ (by simp)) hn hn').mono ?_); rintro e1 w1 ⟨neg1, A1, n1, c1, rfl, I1, hb1⟩; have K1 := (K0.next hb1).int I1; obtain ⟨sa1, sb1, sc1, sd1, se1⟩ := (K1.blk (g := w.heap.size + 1 + 1) (vs := [.bool false, .slice none 0 0]) (by simp)).two)
      rw [HS.out] at K1
      have KE := (K1.pick (L' := [(w.heap.size + 1 + 1, [.bool false, .slice none 0 0])]) (l' := [(neg1, A1, n1, c1, x - y)]) (by simp) (by simp)).set2 (by simp <;> omega) neg1 A1 n1 c1
      exact bodyPost_ret (v := .agg #[.bool neg1, .slice A1 n1 c1]) (by simp [results, Tryd.results73, go_sem, sa1, sb1]) rfl ⟨neg1, A1, n1, c1, rfl, KE.at_ (by simp), KE.1⟩
end Go.Proofs.YtjcjphgpmpjmbaaDoor
