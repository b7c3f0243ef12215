/-
  The program's whole numbers (package exact): limbs and limbs (add), limbs less limbs (sub).
-/
import Derived.Test.YtdmdaoginojalaaExB
import Derived.Test.YtdmdaoginojalaaFrp
import Derived.BigQuiet
namespace Go.Proofs.Ytdmdaoginojalaa
open Go.RowKit

theorem take_set_snoc {l : List Nat} {k : Nat} (d : Nat) (h : k < l.length) : (l.set k d).take (k + 1) = l.take k ++ [d] := by
  rw [List.take_succ_eq_append_getElem (by rw [List.length_set]; exact h), List.take_set_of_le (Nat.le_refl _), List.getElem_set_self]
theorem take_len {l : List Nat} {k : Nat} (h : k ≤ l.length) : (l.take k).length = k := by rw [List.length_take]; omega
set_option maxHeartbeats 800000 in
theorem ey_add32 (x y q : Nat) (w : World) (hx : x < 4294967296) (hy : y < 4294967296) (hq : q ≤ 1) :
    Calls Try.prog 105 #[.int .u32 x, .int .u32 y, .int .u32 q] w fun e w' => e = .returned (.tuple #[.int .u32 (((q + x + y) % 4294967296 : Nat) : Int), .int .u32 (((q + x + y) / 4294967296 : Nat) : Int)]) ∧ w = w' := by
  have s1 : IntKind.u64.wrap ((x : Int) + (y : Int)) = (x : Int) + (y : Int) := IntWalk.u64_in _ (by omega)
  have s2 : IntKind.u64.wrap ((x : Int) + (y : Int) + (q : Int)) = (x : Int) + (y : Int) + (q : Int) := IntWalk.u64_in _ (by omega)
  have S3 : Hid (((x : Int) + (y : Int) + (q : Int)) % 4294967296 = (((q + x + y) % 4294967296 : Nat) : Int)) := Lib.hid (by omega)
  have S4 : Hid (((x : Int) + (y : Int) + (q : Int)) / 4294967296 = (((q + x + y) / 4294967296 : Nat) : Int)) := Lib.hid (by omega)
  go_enter Try.func105, Try.ntmps105
  go_wp2_with fail
  go_ret2
  rw [S3.out, S4.out]
  exact ⟨rfl, rfl⟩

set_option maxRecDepth 100000 in
set_option maxHeartbeats 3200000 in
theorem ex_add_ge (A A' : Option Addr) (n c n' c' : Nat) (a b : List Nat) (w : World) (ha : Sl w A n c a) (hb : Sl w A' n' c' b) (hn : n ≤ 1000000000) (_hn' : n' ≤ 1000000000) (hge : n' ≤ n) :
    Calls Try.prog 93 #[.slice A n c, .slice A' n' c'] w (RetLimbs w fun l => Lm.lv l = Lm.lv a + Lm.lv b ∧ l.length ≤ max n n' + 1) := by
  have la := ha.len
  have lb := hb.len
  obtain ⟨i0, hi, hz0, hz1, hz2⟩ := info_parts info_u32
  have HL : Hid (a.length = n ∧ b.length = n') := ⟨la, lb⟩
  have HE : Hid (((n : Nat) : Int) + 1 = ((n + 1 : Nat) : Int)) := Lib.hid (by omega)
  have hc : ¬ (n : Int) < (n' : Int) := by omega
  clear la lb
  go_enter Try.func93, Try.ntmps93
  go_wp2_with (at_make; refine wpList_make_full _ rfl _ _ 22 rfl w.heap.size 116 i0 (.int .u32 0) 1 Try.underlying22 hi hz0 hz1 _ _ _ _ (n + 1) rfl rfl (by first | exact HE.out | omega) (by first | exact HE.out | omega) ?c2 ?c3 (Nat.le_refl _) ?_)
  case c2 => first | omega | (rw [hz2]; omega)
  case c3 => unfold maxLen; omega
  intro w1 hown1 hgrow1
  rw [made_u32] at hown1
  have hb1 : Below w.heap.size w w1 := (Below.refl _ _).grown hgrow1 (Nat.le_refl _) (fun k hk => by cases hk)
  clear hgrow1
  go_wp2_with fail
  go_loopw [6, 22] (fun cr i wr => ∃ (k q : Nat) (out : List Nat), k ≤ n ∧ q ≤ 1 ∧ i = .int .i64 (k : Int) ∧ cr = .int .u32 (q : Int) ∧ Hid (out.length = n + 1) ∧ wr.ownsRow w.heap.size 116 1 (.slice (some ⟨w.heap.size, 0, none⟩) (n + 1) (n + 1)) (n + 1) (u32s out) ∧ Lm.ok out ∧
      Hid (Lm.lv (out.take k) + Lm.B ^ k * q = Lm.lv (a.take k) + Lm.lv (b.take k)) ∧ Below w.heap.size w wr)
    (fun _ i _ => n - (intOf i).toNat)
  case atStart =>
    exact ⟨0, 0, List.replicate (n + 1) 0, Nat.zero_le _, by omega, rfl, rfl, Lib.hid List.length_replicate, hown1, Lm.ok_zeros _, Lib.hid (by simp [Lm.lv]), hb1⟩
  case round =>
    clear hown1 hb1
    obtain ⟨k, q, out, hk, hq, rfl, rfl, hol, hown, hok, HEQ, hbw⟩ := hrel
    have hko : k < out.length := by rw [hol.out]; omega
    have hco := own_at hown hko
    have hf := hown.frozenAt k
    have hsz := (hown.lt _ rfl).2
    by_cases h1 : k < n
    · obtain ⟨ad, rfl, hba, hla, hca, hxa⟩ := (ha.below hbw).at_ h1
      have hlt1 : (k : Int) < (n : Int) := by omega
      have hlt2 : k < n + 1 := by omega
      have hlt3 : (k : Int) < (n : Int) + 1 := by omega
      have hk0 : (0 : Int) ≤ (k : Int) := Int.natCast_nonneg _

      by_cases h2 : k < n'
      · obtain ⟨ad', rfl, hbb, hlb, hcb, hxb⟩ := (hb.below hbw).at_ h2
        have hlt4 : (k : Int) < (n' : Int) := by omega
        have hE := Lm.add_step (take_len (by omega)) HEQ.out (Lm.take_in a hla) (Lm.take_in b hlb)
        rw [← take_set_snoc _ hko] at hE
        have HE' := Lib.hid hE
        clear hE
        go_wp2_with (go_at_call 105; refine (ey_add32 a[k] b[k] q _ hxa hxb hq).mono ?_; rintro e2 w2 ⟨rfl, rfl⟩)
        go_roundw
        case rel => exact ⟨k + 1, (q + a[k] + b[k]) / 4294967296, out.set k ((q + a[k] + b[k]) % 4294967296), h1, by omega, by go_num, rfl, Lib.hid (by rw [List.length_set]; exact hol.out), own_store hown _ rfl, Lm.ok_set hok (Nat.mod_lt _ (by decide)), HE', hbw.setCell (p := ⟨w.heap.size, k, none⟩) (Nat.le_refl _) _⟩
        case measure => simp [intOf]; omega
      · have hlb : b.length ≤ k := by rw [HL.out.2]; omega
        have hlt4 : ¬ (k : Int) < (n' : Int) := by omega
        have hE := Lm.add_step (take_len (by omega)) HEQ.out (Lm.take_in a hla) (Lm.take_out b hlb)
        rw [← take_set_snoc _ hko] at hE
        have HE' := Lib.hid hE
        clear hE
        go_wp2_with (go_at_call 105; refine (ey_add32 a[k] 0 q _ hxa (by omega) hq).mono ?_; rintro e2 w2 ⟨rfl, rfl⟩)
        go_roundw
        case rel => exact ⟨k + 1, (q + a[k] + 0) / 4294967296, out.set k ((q + a[k] + 0) % 4294967296), h1, by omega, by go_num, rfl, Lib.hid (by rw [List.length_set]; exact hol.out), own_store hown _ rfl, Lm.ok_set hok (Nat.mod_lt _ (by decide)), HE', hbw.setCell (p := ⟨w.heap.size, k, none⟩) (Nat.le_refl _) _⟩
        case measure => simp [intOf]; omega
    · obtain rfl : k = n := by omega
      have hqb : q < 4294967296 := by omega
      have hlt1 : ¬ (k : Int) < (k : Int) := by omega
      have hlt2 : (k : Int) < (k : Int) + 1 := by omega
      go_wp2_with fail
      go_ret
      have hst := own_store hown (j := k) (X := (q : Int)) q rfl
      refine ⟨some ⟨w.heap.size, 0, none⟩, k + 1, k + 1, out.set k q, rfl, Sl.of_own hst (Nat.le_refl _) (Lm.ok_set hok hqb), ⟨?_, by rw [List.length_set, hol.out]; omega⟩, hbw.setCell (p := ⟨w.heap.size, k, none⟩) (Nat.le_refl _) _⟩
      have h1 := HEQ.out
      have h2 := Lm.lv_take_succ (out.set k q) k (by rw [List.length_set]; exact hko)
      rw [List.take_set_of_le (Nat.le_refl _), List.getElem_set_self, Lm.lv_take_ge _ (k + 1) (by rw [List.length_set, hol.out]; exact Nat.le_refl _)] at h2
      rw [h2, h1, Lm.lv_take_ge a k (by rw [HL.out.1]; exact Nat.le_refl _), Lm.lv_take_ge b k (by rw [HL.out.2]; omega)]
set_option maxRecDepth 100000 in
set_option maxHeartbeats 3200000 in
theorem ex_add_lt (A A' : Option Addr) (n c n' c' : Nat) (a b : List Nat) (w : World) (ha : Sl w A n c a) (hb : Sl w A' n' c' b) (_hn : n ≤ 1000000000) (hn' : n' ≤ 1000000000) (hlt : n < n') :
    Calls Try.prog 93 #[.slice A n c, .slice A' n' c'] w (RetLimbs w fun l => Lm.lv l = Lm.lv a + Lm.lv b ∧ l.length ≤ max n n' + 1) := by
  have la := ha.len
  have lb := hb.len
  obtain ⟨i0, hi, hz0, hz1, hz2⟩ := info_parts info_u32
  have HL : Hid (a.length = n ∧ b.length = n') := ⟨la, lb⟩
  have HE : Hid (((n' : Nat) : Int) + 1 = ((n' + 1 : Nat) : Int)) := Lib.hid (by omega)
  have hc : (n : Int) < (n' : Int) := by omega
  clear la lb
  go_enter Try.func93, Try.ntmps93
  go_wp2_with (at_make; refine wpList_make_full _ rfl _ _ 22 rfl w.heap.size 116 i0 (.int .u32 0) 1 Try.underlying22 hi hz0 hz1 _ _ _ _ (n' + 1) rfl rfl (by first | exact HE.out | omega) (by first | exact HE.out | omega) ?c2 ?c3 (Nat.le_refl _) ?_)
  case c2 => first | omega | (rw [hz2]; omega)
  case c3 => unfold maxLen; omega
  intro w1 hown1 hgrow1
  rw [made_u32] at hown1
  have hb1 : Below w.heap.size w w1 := (Below.refl _ _).grown hgrow1 (Nat.le_refl _) (fun k hk => by cases hk)
  clear hgrow1
  go_wp2_with fail
  go_loopw [6, 22] (fun cr i wr => ∃ (k q : Nat) (out : List Nat), k ≤ n' ∧ q ≤ 1 ∧ i = .int .i64 (k : Int) ∧ cr = .int .u32 (q : Int) ∧ Hid (out.length = n' + 1) ∧ wr.ownsRow w.heap.size 116 1 (.slice (some ⟨w.heap.size, 0, none⟩) (n' + 1) (n' + 1)) (n' + 1) (u32s out) ∧ Lm.ok out ∧
      Hid (Lm.lv (out.take k) + Lm.B ^ k * q = Lm.lv (b.take k) + Lm.lv (a.take k)) ∧ Below w.heap.size w wr)
    (fun _ i _ => n' - (intOf i).toNat)
  case atStart =>
    exact ⟨0, 0, List.replicate (n' + 1) 0, Nat.zero_le _, by omega, rfl, rfl, Lib.hid List.length_replicate, hown1, Lm.ok_zeros _, Lib.hid (by simp [Lm.lv]), hb1⟩
  case round =>
    clear hown1 hb1
    obtain ⟨k, q, out, hk, hq, rfl, rfl, hol, hown, hok, HEQ, hbw⟩ := hrel
    have hko : k < out.length := by rw [hol.out]; omega
    have hco := own_at hown hko
    have hf := hown.frozenAt k
    have hsz := (hown.lt _ rfl).2
    by_cases h1 : k < n'
    · obtain ⟨ad, rfl, hba, hla, hca, hxa⟩ := (hb.below hbw).at_ h1
      have hlt1 : (k : Int) < (n' : Int) := by omega
      have hlt2 : k < n' + 1 := by omega
      have hlt3 : (k : Int) < (n' : Int) + 1 := by omega
      have hk0 : (0 : Int) ≤ (k : Int) := Int.natCast_nonneg _

      by_cases h2 : k < n
      · obtain ⟨ad', rfl, hbb, hlb, hcb, hxb⟩ := (ha.below hbw).at_ h2
        have hlt4 : (k : Int) < (n : Int) := by omega
        have hE := Lm.add_step (take_len (by omega)) HEQ.out (Lm.take_in b hla) (Lm.take_in a hlb)
        rw [← take_set_snoc _ hko] at hE
        have HE' := Lib.hid hE
        clear hE
        go_wp2_with (go_at_call 105; refine (ey_add32 b[k] a[k] q _ hxa hxb hq).mono ?_; rintro e2 w2 ⟨rfl, rfl⟩)
        go_roundw
        case rel => exact ⟨k + 1, (q + b[k] + a[k]) / 4294967296, out.set k ((q + b[k] + a[k]) % 4294967296), h1, by omega, by go_num, rfl, Lib.hid (by rw [List.length_set]; exact hol.out), own_store hown _ rfl, Lm.ok_set hok (Nat.mod_lt _ (by decide)), HE', hbw.setCell (p := ⟨w.heap.size, k, none⟩) (Nat.le_refl _) _⟩
        case measure => simp [intOf]; omega
      · have hlb : a.length ≤ k := by rw [HL.out.1]; omega
        have hlt4 : ¬ (k : Int) < (n : Int) := by omega
        have hE := Lm.add_step (take_len (by omega)) HEQ.out (Lm.take_in b hla) (Lm.take_out a hlb)
        rw [← take_set_snoc _ hko] at hE
        have HE' := Lib.hid hE
        clear hE
        go_wp2_with (go_at_call 105; refine (ey_add32 b[k] 0 q _ hxa (by omega) hq).mono ?_; rintro e2 w2 ⟨rfl, rfl⟩)
        go_roundw
        case rel => exact ⟨k + 1, (q + b[k] + 0) / 4294967296, out.set k ((q + b[k] + 0) % 4294967296), h1, by omega, by go_num, rfl, Lib.hid (by rw [List.length_set]; exact hol.out), own_store hown _ rfl, Lm.ok_set hok (Nat.mod_lt _ (by decide)), HE', hbw.setCell (p := ⟨w.heap.size, k, none⟩) (Nat.le_refl _) _⟩
        case measure => simp [intOf]; omega
    · obtain rfl : k = n' := by omega
      have hqb : q < 4294967296 := by omega
      have hlt1 : ¬ (k : Int) < (k : Int) := by omega
      have hlt2 : (k : Int) < (k : Int) + 1 := by omega
      go_wp2_with fail
      go_ret
      have hst := own_store hown (j := k) (X := (q : Int)) q rfl
      refine ⟨some ⟨w.heap.size, 0, none⟩, k + 1, k + 1, out.set k q, rfl, Sl.of_own hst (Nat.le_refl _) (Lm.ok_set hok hqb), ⟨?_, by rw [List.length_set, hol.out]; omega⟩, hbw.setCell (p := ⟨w.heap.size, k, none⟩) (Nat.le_refl _) _⟩
      have h1 := HEQ.out
      have h2 := Lm.lv_take_succ (out.set k q) k (by rw [List.length_set]; exact hko)
      rw [List.take_set_of_le (Nat.le_refl _), List.getElem_set_self, Lm.lv_take_ge _ (k + 1) (by rw [List.length_set, hol.out]; exact Nat.le_refl _)] at h2
      rw [h2, h1, Lm.lv_take_ge b k (by rw [HL.out.2]; exact Nat.le_refl _), Lm.lv_take_ge a k (by rw [HL.out.1]; omega)]
      omega
theorem ex_add_any (A A' : Option Addr) (n c n' c' : Nat) (a b : List Nat) (w : World) (ha : Sl w A n c a) (hb : Sl w A' n' c' b) (hn : n ≤ 1000000000) (hn' : n' ≤ 1000000000) :
    Calls Try.prog 93 #[.slice A n c, .slice A' n' c'] w (RetLimbs w fun l => Lm.lv l = Lm.lv a + Lm.lv b ∧ l.length ≤ max n n' + 1) := by
  rcases Nat.lt_or_ge n n' with h | h
  · exact ex_add_lt A A' n c n' c' a b w ha hb hn hn' h
  · exact ex_add_ge A A' n c n' c' a b w ha hb hn hn' h
end Go.Proofs.Ytdmdaoginojalaa
