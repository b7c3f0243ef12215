/-
  A book with lists of one kind (Coat): new, with one list more, apart.
-/
import Derived.Test.YtpnhjgjojnchaaaGreatDoorBaCoat
import Derived.Test.YtpnhjgjojnchaaaGreatDoorBjCoat
namespace Go.Proofs.YtpnhjgjojnchaaaGreatDoor
open Go.RowKit

theorem typesCoat : (105 == 162) = false := by decide
/-- Two rows of unlike elements lie in unlike blocks. -/
theorem rows_farCoat {w : World} {b b' sz sz' n n' g : Nat} {v v' : Value} {xs ys : List Value} (h : w.ownsRow b 105 sz v n xs) (k : w.ownsRow b' 162 sz' v' n' ys) (h1 : v.ownBlock = some g) (h2 : v'.ownBlock = some g) : False := by
  rcases h.2 with ⟨rfl, _⟩ | ⟨g1, c1, cur1, rfl, _, hg1, _⟩
  · cases h1
  · rcases k.2 with ⟨rfl, _⟩ | ⟨g2, c2, cur2, rfl, _, hg2, _⟩
    · cases h2
    · injection h1 with h1
      injection h2 with h2
      have e1 : g1 = g := h1
      have e2 : g2 = g := h2
      rw [e1] at hg1
      rw [e2, hg1] at hg2
      injection hg2 with hg2
      injection hg2 with _ ht _
      have := typesCoat
      rw [beq_eq_false_iff_ne] at this
      exact this ht
/-- A book with these lists. -/
def BkStCoat (base : Nat) (w : World) (B : Nat) (L : List Hl) : Prop :=
  ∃ (V : Option Addr) (vn vc : Nat), B < w.heap.size ∧ w.cell? ⟨B, 0, none⟩ = some (.int .i64 (L.length : Int)) ∧ w.cell? ⟨B, 10, none⟩ = some (.slice V vn vc) ∧ vn = L.length ∧ w.ownsRow base 162 3 (.slice V vn vc) vn (flat L) ∧ Value.ownBlock (.slice V vn vc) ≠ some B ∧ (∀ j, w.frozen? ⟨B, j, none⟩ = false) ∧ NilCoat B w
theorem bkst_newCoat (base : Nat) (w : World) : BkStCoat base (w.alloc (.cells #[.int .i64 0, .slice none 0 0, .slice none 0 0, .slice none 0 0, .slice none 0 0, .slice none 0 0, .slice none 0 0, .slice none 0 0, .slice none 0 0, .slice none 0 0, .slice none 0 0, .slice none 0 0, .slice none 0 0, .slice none 0 0, .slice none 0 0, .slice none 0 0, .slice none 0 0] 45)) w.heap.size [] := by
  have hB := Blk.new w rfl [.int .i64 0, .slice none 0 0, .slice none 0 0, .slice none 0 0, .slice none 0 0, .slice none 0 0, .slice none 0 0, .slice none 0 0, .slice none 0 0, .slice none 0 0, .slice none 0 0, .slice none 0 0, .slice none 0 0, .slice none 0 0, .slice none 0 0, .slice none 0 0, .slice none 0 0] 45
  refine ⟨none, 0, 0, hB.1, (hB.2 0 _ rfl).1, (hB.2 10 _ rfl).1, rfl, World.ownsRow_nil _ _ _ _, (fun e => by cases e), fun j => ?_, fun j hj _ => ?_⟩
  · unfold World.frozen?
    rw [heap_alloc_new w _]
    simp
  · have h2 := of_decide_eq_true ((Bool.and_eq_true _ _).mp hj).1
    have h3 := of_decide_eq_true ((Bool.and_eq_true _ _).mp hj).2
    refine (hB.2 j _ ?_).1
    have : j = 1 ∨ j = 2 ∨ j = 3 ∨ j = 4 ∨ j = 5 ∨ j = 6 ∨ j = 7 ∨ j = 8 ∨ j = 9 ∨ j = 10 ∨ j = 11 ∨ j = 12 ∨ j = 13 ∨ j = 14 ∨ j = 15 ∨ j = 16 := by omega
    rcases this with rfl | rfl | rfl | rfl | rfl | rfl | rfl | rfl | rfl | rfl | rfl | rfl | rfl | rfl | rfl | rfl <;> rfl
theorem keepCoat_st (B base : Nat) (A : Option Addr) (n c : Nat) (xs : List Value) (L : List Hl) (w : World) (h : BkStCoat base w B L) (hL : L.length ≤ 1000000000) (hbase : base ≤ w.heap.size) (hbB : base ≤ B) :
    Calls Tryz.prog 58 #[.pointer (some ⟨B, 0, none⟩), .slice A n c] w fun e w' => e = .returned (.tuple #[]) ∧ BkStCoat base w' B (L ++ [⟨A, n, c, xs, none, 0, 0, L.length + 1⟩]) ∧ Below base w w' ∧
      ∀ (b sz : Nat) (v : Value) (q : Nat) (zs : List Value), v.ownBlock ≠ some B → w.ownsRow b 105 sz v q zs → w'.ownsRow b 105 sz v q zs := by
  obtain ⟨V, vn, vc, hBl, hn, hV, hvn, hown, hVB, hfz, hNil⟩ := h
  refine (keepCoat_any B base A V n c vn vc L.length xs L w hn hV (hfz 0) (hfz 10) hBl hvn hown hVB hL hL hbase).mono ?_
  rintro e w' ⟨rfl, g, c', k1, k2, k3, k4, k5, k6, k7⟩
  have hS : ∀ b, b = B ∨ Value.ownBlock (.slice V vn vc) = some b → base ≤ b := fun b e => e.elim (fun e => by rw [e]; exact hbB) (fun e => (hown.lt b e).1)
  refine ⟨rfl, ⟨some ⟨g, 0, none⟩, vn + 1, c', Nat.lt_of_lt_of_le hBl k7.size, by rw [List.length_append]; exact k1, k2, by rw [List.length_append, hvn]; rfl, k3, (fun e => k4 (by injection e)), fun j => (k6 j).trans (hfz j), fun j h1 h2 => ?_⟩, k7.below hS hbase, fun b sz v q zs hv hr => Fr.row hr k7 (fun g hg e => e.elim (fun e => hv (by rw [← e]; exact hg)) (fun e => rows_farCoat hr hown hg e))⟩
  exact (k5 j (by have := of_decide_eq_true ((Bool.and_eq_true _ _).mp h1).1; omega) h2).trans (hNil j h1 h2)
theorem apartCoat_st (B base : Nat) (L : List Hl) (w : World) (h : BkStCoat base w B L) (h0 : 0 < L.length) (hO : Owd base 105 3 w L) (hD : Dis L) (hk : ∀ (i : Nat) (h : Hl), L[i]? = some h → (h.k ≤ 1000000000 ∧ h.n ≤ 1000000000) ∧ h.v.ownBlock ≠ some B) (hm : L.length ≤ 1000000000) (hbase : base ≤ w.heap.size) :
    Calls Tryz.prog 13 #[.pointer (some ⟨B, 0, none⟩)] w fun e w' => e = .returned (.bool true) ∧ Below base w w' := by
  obtain ⟨V, vn, vc, hBl, hn, hV, hvn, hown, hVB, hfz, hNil⟩ := h
  subst hvn
  obtain ⟨g, cap, hv, _, _⟩ := hown.form h0
  injection hv with hv1 hv2 hv3
  subst hv1
  exact apartCoat_any B g vc base L w hV hBl hNil hown hO hD (fun ⟨i, h, hi, hb⟩ => (hk i h hi).2 hb) (fun ⟨i, h, hi, hb⟩ => rows_farCoat (hO i h hi) hown hb rfl) (fun e => hVB (by rw [e]; rfl)) (fun i h hi => (hk i h hi).1) hm hbase
theorem Coats_st (B base : Nat) (A : Option Addr) (n c : Nat) (xs : List Value) (L : List Hl) (w : World) (h : BkStCoat base w B L) (hL : L.length ≤ 1000000000) (hbase : base ≤ w.heap.size) (hbB : base ≤ B) :
    Calls Tryz.prog 12 #[.pointer (some ⟨B, 0, none⟩), .slice A n c] w fun e w' => e = .returned (.tuple #[]) ∧ BkStCoat base w' B (L ++ [⟨A, n, c, xs, none, 0, 0, L.length + 1⟩]) ∧ Below base w w' ∧
      ∀ (b sz : Nat) (v : Value) (q : Nat) (zs : List Value), v.ownBlock ≠ some B → w.ownsRow b 105 sz v q zs → w'.ownsRow b 105 sz v q zs := by
  have HS := Lib.hid h
  clear h
  go_enter Tryz.func12, Tryz.ntmps12
  go_wp2_with fail
  refine (keepCoat_st B base A n c xs L _ HS.out hL hbase hbB).mono ?_
  rintro e1 w1 ⟨rfl, h1, h2, h3⟩
  have H1 := Lib.hid h1
  have H2 := Lib.hid h2
  have H3 := Lib.hid h3
  clear h1 h2 h3
  go_wp2_with fail
  exact bodyPost_end (v := .tuple #[]) (by simp [results, Tryz.results12]) rfl ⟨rfl, H1.out, H2.out, H3.out⟩
end Go.Proofs.YtpnhjgjojnchaaaGreatDoor
