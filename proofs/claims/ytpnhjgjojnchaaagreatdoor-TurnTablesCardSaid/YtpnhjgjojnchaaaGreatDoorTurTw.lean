/-
  TurnTold: the walk.
-/
import Derived.Test.YtpnhjgjojnchaaaGreatDoorTurT
namespace Go.Proofs.YtpnhjgjojnchaaaGreatDoor
open Go.RowKit

theorem table_no (n : Int) (h : cntF n ≠ 0) (w : World) : Calls Tryz.prog 14 #[.int .i64 n] w
    fun e w' => e = .returned (.tuple #[.slice none 0 0, .int .i64 (cntF n)]) ∧ w = w' := by
  go_enter Tryz.func14, Tryz.ntmps14
  go_wp2_with fail
  refine (counted_any _ _).mono ?_
  rintro e1 w1 ⟨rfl, rfl⟩
  go_wp2_with fail
  exact bodyPost_ret (v := .tuple #[.slice none 0 0, .int .i64 (cntF n)]) (by simp [results, Tryz.results14, go_sem]) rfl ⟨rfl, rfl⟩
theorem rem_bd (k : Int) {S : Nat} (h : 0 < S) : -(S : Int) < k.tmod (S : Int) ∧ k.tmod (S : Int) < (S : Int) := by
  have e : (k.tmod (S : Int)).natAbs = k.natAbs % S := by rw [Int.natAbs_tmod]; rfl
  have := Nat.mod_lt k.natAbs h
  omega
theorem own_cell {w : World} {base : Nat} {t : TypeId} {g S n k : Nat} {xs : List Value} (h : w.ownsRow base t 1 (.slice (some ⟨g, 0, none⟩) S S) S xs) (hX : Laid n S xs) (hk : k < S) : w.cell? ⟨g, k, none⟩ = some (tabV n k) := by
  rw [h.cellAt k (by omega)]
  exact hX k hk
end Go.Proofs.YtpnhjgjojnchaaaGreatDoor
