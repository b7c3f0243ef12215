/-
  Complex numbers by floats (package cplx): products, parts, quarter turns.
-/
import Derived.Test.YtdmdaoginojalaaGreatDoorZero
namespace Go.Proofs.YtdmdaoginojalaaGreatDoor
open Go.RowKit

/-- A float is answered, some questions are drawn. -/
def RetFlo (w : World) (P : Nat → Prop) (e : Ending) (w' : World) : Prop := ∃ z, e = .returned (.float .f64 z) ∧ P z ∧ ∃ k, w' = w.drewN k
def RetCx (w : World) (P : Nat → Nat → Prop) (e : Ending) (w' : World) : Prop := ∃ x y, e = .returned (.complex .f64 x y) ∧ P x y ∧ ∃ k, w' = w.drewN k
def CrossR (a c b d z : Nat) : Prop := ∃ p q, IsOp Ieee.double.mul a c p ∧ IsOp Ieee.double.mul b d q ∧ IsOp Ieee.double.sub p q z
def DotR (a c b d z : Nat) : Prop := ∃ p q, IsOp Ieee.double.mul a c p ∧ IsOp Ieee.double.mul b d q ∧ IsOp Ieee.double.add p q z

theorem cross_any (a c b d : Nat) (w : World) : Calls Tryz.prog 264 #[.float .f64 a, .float .f64 c, .float .f64 b, .float .f64 d] w (RetFlo w (CrossR a c b d)) := by
  go_enter Tryz.func264, Tryz.ntmps264
  go_wp2_with (first
    | (refine wpList_fmul _ rfl rfl ?_; intro p k1 hp; have HP := Lib.hid hp; clear hp)
    | (refine wpList_fsub _ rfl rfl ?_; intro z k3 hz; have HZ := Lib.hid hz; clear hz))
  rename_i p0 k0 HP0
  go_ret
  exact ⟨_, rfl, ⟨_, _, HP0.out, HP.out, HZ.out⟩, _, rfl⟩
theorem dot_any (a c b d : Nat) (w : World) : Calls Tryz.prog 265 #[.float .f64 a, .float .f64 c, .float .f64 b, .float .f64 d] w (RetFlo w (DotR a c b d)) := by
  go_enter Tryz.func265, Tryz.ntmps265
  go_wp2_with (first
    | (refine wpList_fmul _ rfl rfl ?_; intro p k1 hp; have HP := Lib.hid hp; clear hp)
    | (refine wpList_fadd _ rfl rfl ?_; intro z k3 hz; have HZ := Lib.hid hz; clear hz))
  rename_i p0 k0 HP0
  go_ret
  exact ⟨_, rfl, ⟨_, _, HP0.out, HP.out, HZ.out⟩, _, rfl⟩

/-- The product of complex numbers, by floats. -/
def MulR (a b : Nat × Nat) (x y : Nat) : Prop := CrossR a.1 b.1 a.2 b.2 x ∧ DotR a.1 b.2 a.2 b.1 y
theorem cmul_any (a b c d : Nat) (w : World) : Calls Tryz.prog 154 #[.complex .f64 a b, .complex .f64 c d] w (RetCx w (MulR (a, b) (c, d))) := by
  go_enter Tryz.func154, Tryz.ntmps154
  go_wp2_with fail
  refine (cross_any a c b d _).mono ?_
  rintro e1 w1 ⟨x, rfl, hx, k1, rfl⟩
  have HX := Lib.hid hx
  clear hx
  go_wp2_with fail
  refine (dot_any a d b c _).mono ?_
  rintro e2 w2 ⟨y, rfl, hy, k2, rfl⟩
  have HY := Lib.hid hy
  clear hy
  go_wp2_with fail
  go_ret
  exact ⟨x, y, rfl, ⟨HX.out, HY.out⟩, _, rfl⟩
/-- Quarter turns. -/
def turnF (z : Nat × Nat) : Nat → Nat × Nat
  | 0 => z
  | k + 1 => (Flt.opp (turnF z k).2, (turnF z k).1)
theorem turnF_lt {z : Nat × Nat} (h1 : z.1 < 2 ^ 64) (h2 : z.2 < 2 ^ 64) : ∀ k, (turnF z k).1 < 2 ^ 64 ∧ (turnF z k).2 < 2 ^ 64
  | 0 => ⟨h1, h2⟩
  | k + 1 => ⟨Flt.opp_lt _, (turnF_lt h1 h2 k).1⟩
set_option maxHeartbeats 800000 in
theorem cturn_any (a b : Nat) (q : Int) (n : Nat) (ha : a < 2 ^ 64) (hb : b < 2 ^ 64) (hq : Hid (bits .and .i64 q 3 = (n : Int))) (hn : n < 4) (w : World) :
    Calls Tryz.prog 170 #[.complex .f64 a b, .int .i64 q] w fun e w' => e = .returned (.complex .f64 (turnF (a, b) n).1 (turnF (a, b) n).2) ∧ w = w' := by
  have HQ := hq
  go_enter Tryz.func170, Tryz.ntmps170
  go_wp2_with fail
  rw [HQ.out]
  go_loopw [0, 7] (fun z i wr => ∃ k : Nat, k ≤ n ∧ z = .complex .f64 (turnF (a, b) k).1 (turnF (a, b) k).2 ∧ i = .int .i64 (k : Int) ∧ wr = w) (fun _ i _ => n - (intOf i).toNat)
  case atStart => exact ⟨0, Nat.zero_le _, rfl, rfl, rfl⟩
  case round =>
    obtain ⟨k, hk, rfl, rfl, rfl⟩ := hrel
    by_cases hkn : k = n
    · subst hkn
      go_wp2_with fail
      go_ret
      exact ⟨rfl, rfl⟩
    · have hlt : k < n := by omega
      have HN := Lib.hid (neg64_eq _ (turnF_lt (z := (a, b)) ha hb k).2)
      have HS : Hid (turnF (a, b) (k + 1) = (Flt.opp (turnF (a, b) k).2, (turnF (a, b) k).1)) := Lib.hid rfl
      clear hkn
      obtain ⟨x, hx⟩ : ∃ x, (turnF (a, b) k).1 = x := ⟨_, rfl⟩
      obtain ⟨y, hy⟩ : ∃ y, (turnF (a, b) k).2 = y := ⟨_, rfl⟩
      rw [hx, hy] at HS
      rw [hy] at HN
      rw [hx, hy]
      clear hx hy
      go_wp2_with fail
      go_roundw
      case rel => exact ⟨k + 1, hlt, by rw [HS.out, ← HN.out], by go_num, trivial⟩
      case measure => simp [intOf]; omega
end Go.Proofs.YtdmdaoginojalaaGreatDoor
