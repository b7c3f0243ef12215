/-
  The program's whole numbers (package exact): limbs held against limbs, copies, numbers of 64 bits, bits.
  The references' fractions (polestarref02): with the other sign, lowest terms, the four operations, held against one another.
-/
import Derived.Test.YtejlicacndpfpaaExU
import Derived.Test.YtejlicacndpfpaaEdgU
import Derived.WalkSpells
import Derived.Test.YtejlicacndpfpaaCom
namespace Go.Proofs.Ytejlicacndpfpaa
open Go.RowKit

/-- A sign tells which is more. -/
def RetSz (W : World) (x y : Nat) (e : Ending) (w' : World) : Prop := ∃ v : Int, e = .returned (.int .i64 v) ∧ (v < 0 ↔ x < y) ∧ (0 < v ↔ y < x) ∧ -1000000000 ≤ v ∧ v ≤ 1000000000 ∧ ∃ k, w' = W.drewN k
set_option maxHeartbeats 800000 in
theorem ex_size_any (A A' : Option Addr) (n c n' c' : Nat) (a b : List Nat) (w : World) (ha : Sl w A n c a) (hb : Sl w A' n' c' b) (ca : Lm.canon a) (cb : Lm.canon b) (hn : n ≤ 1000000000) (hn' : n' ≤ 1000000000) :
    Calls Try.prog 128 #[.slice A n c, .slice A' n' c'] w (RetSz w (Lm.lv a) (Lm.lv b)) := by
  have la := ha.len
  have lb := hb.len
  by_cases hne : n = n'
  · subst hne
    go_enter Try.func128, Try.ntmps128
    go_wp2
    go_loopw [5] (fun i wr => ∃ k : Nat, k ≤ n ∧ i = .int .i64 ((k : Int) - 1) ∧ Hid (a.drop k = b.drop k) ∧ ∃ j, wr = w.drewN j) (fun i _ => (intOf i + 1).toNat)
    case atStart => exact ⟨n, Nat.le_refl _, rfl, (by rw [List.drop_of_length_le (by omega), List.drop_of_length_le (by omega)] : a.drop n = b.drop n), 0, rfl⟩
    case round =>
      obtain ⟨k, hk, rfl, HD, j, rfl⟩ := hrel
      by_cases h0 : k = 0
      · subst h0
        have E : Hid (Lm.lv a = Lm.lv b) := Lib.hid (by have := HD.out; simp only [List.drop_zero] at this; rw [this])
        go_wp2
        go_ret
        exact ⟨0, rfl, by have := E.out; omega, by have := E.out; omega, by omega, by omega, j, rfl⟩
      · obtain ⟨ad, rfl, hba, hla, hca, hxa⟩ := ha.at_ (k := k - 1) (by omega)
        obtain ⟨ad', rfl, hbb, hlb, hcb, hxb⟩ := hb.at_ (k := k - 1) (by omega)
        have hk1 : 1 ≤ k := by omega
        have HD' : Hid (a.drop (k - 1 + 1) = b.drop (k - 1 + 1)) := by rw [show k - 1 + 1 = k by omega]; exact HD
        by_cases he : a[k - 1] = b[k - 1]
        · have he' : (((a[k - 1] : Nat) : Int) != ((b[k - 1] : Nat) : Int)) = false := by rw [he]; simp
          go_wp2
          go_quiet (fail)
          all_goals go_wp2
          go_roundw
          case rel => exact ⟨k - 1, by omega, by go_num, (by rw [List.drop_eq_getElem_cons hla, List.drop_eq_getElem_cons hlb, he, HD'.out] : a.drop (k - 1) = b.drop (k - 1)), _, by first | exact drew2 _ _ _ | rfl⟩
          case measure => simp [intOf]; omega
        · have he' : (((a[k - 1] : Nat) : Int) != ((b[k - 1] : Nat) : Int)) = true := by
            rw [bne_iff_ne]
            omega
          by_cases hl : a[k - 1] < b[k - 1]
          · have E := Lib.hid (Lm.lt_of_limb ha.ok hla hlb HD'.out hl)
            have hl' : decide (((a[k - 1] : Nat) : Int) < ((b[k - 1] : Nat) : Int)) = true := by simpa using hl
            go_wp2
            go_quiet (fail)
            go_wp2
            go_quiet (fail)
            go_wp2
            go_ret
            exact ⟨-1, rfl, by have := E.out; omega, by have := E.out; omega, by omega, by omega, _, by first | exact drew3 _ _ _ _ | exact drew2 _ _ _ | rfl⟩
          · have E := Lib.hid (Lm.lt_of_limb hb.ok hlb hla HD'.out.symm (show b[k - 1] < a[k - 1] by omega))
            have hl' : decide (((a[k - 1] : Nat) : Int) < ((b[k - 1] : Nat) : Int)) = false := by simp; omega
            go_wp2
            go_quiet (fail)
            go_wp2
            go_quiet (fail)
            go_wp2
            go_ret
            exact ⟨1, rfl, by have := E.out; omega, by have := E.out; omega, by omega, by omega, _, by first | exact drew3 _ _ _ _ | exact drew2 _ _ _ | rfl⟩
  · have hb1 : ((n : Int) != (n' : Int)) = true := by rw [bne_iff_ne]; omega
    have E1 : Hid (n < n' → Lm.lv a < Lm.lv b) := Lib.hid (fun h => Lm.len_of_lv ha.ok hb.ok cb (by omega))
    have E2 : Hid (n' < n → Lm.lv b < Lm.lv a) := Lib.hid (fun h => Lm.len_of_lv hb.ok ha.ok ca (by omega))
    go_enter Try.func128, Try.ntmps128
    go_wp2
    go_ret
    refine ⟨(n : Int) - n', rfl, ?_, ?_, by omega, by omega, 0, rfl⟩
    · rcases Nat.lt_or_ge n n' with h | h
      · have := E1.out h; omega
      · have := E2.out (by omega); omega
    · rcases Nat.lt_or_ge n n' with h | h
      · have := E1.out h; omega
      · have := E2.out (by omega); omega
end Go.Proofs.Ytejlicacndpfpaa

namespace Go.Proofs.Ytejlicacndpfpaa
open Go.RowKit

def RetFr (W : World) (x : Rat) (e : Ending) (w' : World) : Prop :=
  ∃ (neg : Bool) (A : Option Addr) (n c : Nat) (neg' : Bool) (A' : Option Addr) (n' c' : Nat), e = .returned (.agg #[.bool neg, .slice A n c, .bool neg', .slice A' n' c']) ∧ IsInt w' neg A n c x.num ∧ IsInt w' neg' A' n' c' (x.den : Int) ∧ Below W.heap.size W w'
theorem int_len {w : World} {neg : Bool} {A : Option Addr} {n c : Nat} {z : Int} (h : IsInt w neg A n c z) {m : Nat} (hz : z.natAbs < 2 ^ (32 * m)) : n ≤ m := isInt_len_le h (by rw [show Lm.B ^ m = 2 ^ (32 * m) by rw [Nat.pow_mul]]; exact hz)

end Go.Proofs.Ytejlicacndpfpaa
