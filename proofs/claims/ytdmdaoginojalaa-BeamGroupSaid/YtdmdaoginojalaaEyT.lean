/-
  The program's whole numbers (package exact): the difference (Minus); ratio.turned, ratio.Sign.
  The program's whole numbers (package exact): the product (Times).
-/
import Derived.Test.YtdmdaoginojalaaEyC
import Derived.Test.YtdmdaoginojalaaExB
import Derived.Test.YtdmdaoginojalaaFrp
import Derived.BigQuiet
namespace Go.Proofs.Ytdmdaoginojalaa
open Go.RowKit

theorem isInt_flip {w : World} {neg : Bool} {A : Option Addr} {n c : Nat} {z : Int} (h : IsInt w neg A n c z) : IsInt w (!neg && decide (0 < n)) A n c (-z) := by
  obtain ⟨l, h1, h2, h3, rfl⟩ := h
  refine ⟨l, h1, h2, fun e => ?_, ?_⟩
  · subst e
    have := h1.len
    simp at this
    subst this
    simp
  · have hl := h1.len
    by_cases h0 : n = 0
    · subst h0
      have : l = [] := List.eq_nil_of_length_eq_zero hl
      subst this
      unfold sgnd
      cases neg <;> simp [Lm.lv]
    · have h0' : 0 < n := by omega
      rw [decide_eq_true h0', Bool.and_true]
      unfold sgnd
      cases neg <;> simp
set_option maxRecDepth 100000 in
set_option maxHeartbeats 3200000 in
theorem ex_minus_any (neg neg' : Bool) (A A' : Option Addr) (n c n' c' : Nat) (x y : Int) (w : World) (hx : IsInt w neg A n c x) (hy : IsInt w neg' A' n' c' y) (hn : n ≤ 1000000000) (hn' : n' ≤ 1000000000) :
    Calls Try.prog 96 #[.agg #[.bool neg, .slice A n c], .agg #[.bool neg', .slice A' n' c']] w (RetInt w (x - y)) := by
  have K0 := ((((Mm.nil w).int hx).int (isInt_flip hy)).var (g := w.heap.size) rfl [.bool neg, .slice A n c] 24).var (g := w.heap.size + 1) (by simp) [.bool neg', .slice A' n' c'] 24 |>.var (g := w.heap.size + 1 + 1) (by simp) [.bool false, .slice none 0 0] 24
  have HS : Hid (x + -y = x - y) := Lib.hid (by omega)
  obtain ⟨sg, hsg⟩ : ∃ sg, (!neg' && decide (0 < n')) = sg := ⟨_, rfl⟩
  rw [hsg] at K0
  clear hx hy
  cases neg' with
  | true =>
    have hs : sg = false := by rw [← hsg]; rfl
    subst hs
    clear hsg
    go_enter Try.func96, Try.ntmps96
    go_wp2_with (go_at_call 67; (with_reducible refine (ex_plus_any neg false A A' n c n' c' x (-y) _ (K0.at_ (by simp)) (K0.at_ (by simp)) hn hn').mono ?_); rintro e1 w1 ⟨neg1, A1, n1, c1, rfl, I1, hb1⟩; have K1 := (K0.next hb1).int I1; obtain ⟨sa1, sb1, sc1, sd1, se1⟩ := (K1.blk (g := w.heap.size + 1 + 1) (vs := [.bool false, .slice none 0 0]) (by simp)).two)
    rw [HS.out] at K1
    have KE := (K1.pick (L' := [(w.heap.size + 1 + 1, [.bool false, .slice none 0 0])]) (l' := [(neg1, A1, n1, c1, x - y)]) (by simp) (by simp)).set2 (by simp <;> omega) neg1 A1 n1 c1
    exact bodyPost_ret (v := .agg #[.bool neg1, .slice A1 n1 c1]) (by simp [results, Try.results96, go_sem, sa1, sb1]) rfl ⟨neg1, A1, n1, c1, rfl, KE.at_ (by simp), KE.1⟩
  | false =>
    by_cases h0 : n' = 0
    · have hs : sg = false := by rw [← hsg, h0]; rfl
      subst hs
      subst h0
      clear hsg
      go_enter Try.func96, Try.ntmps96
      go_wp2_with (go_at_call 67; (with_reducible refine (ex_plus_any neg false A A' n c 0 c' x (-y) _ (K0.at_ (by simp)) (K0.at_ (by simp)) hn hn').mono ?_); rintro e1 w1 ⟨neg1, A1, n1, c1, rfl, I1, hb1⟩; have K1 := (K0.next hb1).int I1; obtain ⟨sa1, sb1, sc1, sd1, se1⟩ := (K1.blk (g := w.heap.size + 1 + 1) (vs := [.bool false, .slice none 0 0]) (by simp)).two)
      rw [HS.out] at K1
      have KE := (K1.pick (L' := [(w.heap.size + 1 + 1, [.bool false, .slice none 0 0])]) (l' := [(neg1, A1, n1, c1, x - y)]) (by simp) (by simp)).set2 (by simp <;> omega) neg1 A1 n1 c1
      exact bodyPost_ret (v := .agg #[.bool neg1, .slice A1 n1 c1]) (by simp [results, Try.results96, go_sem, sa1, sb1]) rfl ⟨neg1, A1, n1, c1, rfl, KE.at_ (by simp), KE.1⟩
    · have h0' : 0 < n' := by omega
      have hs : sg = true := by rw [← hsg, decide_eq_true h0']; rfl
      have h1 : (0 : Int) < (n' : Int) := by omega
      subst hs
      clear hsg
      go_enter Try.func96, Try.ntmps96
      go_wp2_with (go_at_call 67; (with_reducible refine (ex_plus_any neg true A A' n c n' c' x (-y) _ (K0.at_ (by simp)) (K0.at_ (by simp)) hn hn').mono ?_); rintro e1 w1 ⟨neg1, A1, n1, c1, rfl, I1, hb1⟩; have K1 := (K0.next hb1).int I1; obtain ⟨sa1, sb1, sc1, sd1, se1⟩ := (K1.blk (g := w.heap.size + 1 + 1) (vs := [.bool false, .slice none 0 0]) (by simp)).two)
      rw [HS.out] at K1
      have KE := (K1.pick (L' := [(w.heap.size + 1 + 1, [.bool false, .slice none 0 0])]) (l' := [(neg1, A1, n1, c1, x - y)]) (by simp) (by simp)).set2 (by simp <;> omega) neg1 A1 n1 c1
      exact bodyPost_ret (v := .agg #[.bool neg1, .slice A1 n1 c1]) (by simp [results, Try.results96, go_sem, sa1, sb1]) rfl ⟨neg1, A1, n1, c1, rfl, KE.at_ (by simp), KE.1⟩
end Go.Proofs.Ytdmdaoginojalaa

namespace Go.Proofs.Ytdmdaoginojalaa
open Go.RowKit

set_option maxRecDepth 100000 in
set_option maxHeartbeats 3200000 in
theorem ex_times_sl (neg neg' : Bool) (A A' : Option Addr) (n c n' c' : Nat) (a b : List Nat) (w : World) (ha : Sl w A n c a) (hb : Sl w A' n' c' b) (hn : n ≤ 1000000000) (hn' : n' ≤ 1000000000) :
    Calls Try.prog 89 #[.agg #[.bool neg, .slice A n c], .agg #[.bool neg', .slice A' n' c']] w (RetInt w (sgnd (neg != neg') (Lm.lv a * Lm.lv b))) := by
  have la := ha.len
  have lb := hb.len
  obtain ⟨i0, hi, hz0, hz1, hz2⟩ := info_parts info_u32
  have HL : Hid (a.length = n ∧ b.length = n') := ⟨la, lb⟩
  have HM : Hid (IntKind.i64.wrap ((n : Int) + (n' : Int)) = ((n + n' : Nat) : Int)) := Lib.hid (by rw [IntWalk.i64_in _ (by omega)]; omega)
  have HM2 : Hid ((n : Int) + (n' : Int) = ((n + n' : Nat) : Int)) := Lib.hid (by omega)
  clear la lb
  have K0 := (((Mm.nil w).var (g := w.heap.size) rfl [.bool neg, .slice A n c] 24).var (g := w.heap.size + 1) (by simp) [.bool neg', .slice A' n' c'] 24).var (g := w.heap.size + 1 + 1) (by simp) [.bool false, .slice none 0 0] 24
  have ha0 := ha.below K0.1
  have hb0 := hb.below K0.1
  clear ha hb
  go_enter Try.func89, Try.ntmps89
  go_wp2_with fail
  generalize ((w.alloc (.cells #[.bool neg, .slice A n c] 24)).alloc (.cells #[.bool neg', .slice A' n' c'] 24)).alloc (.cells #[.bool false, .slice none 0 0] 24) = w0 at K0 ha0 hb0 ⊢
  obtain ⟨qa0, qb0, _, _, qe0⟩ := (K0.blk (g := w.heap.size) (vs := [.bool neg, .slice A n c]) (by simp)).two
  obtain ⟨ra0, rb0, _, _, re0⟩ := (K0.blk (g := w.heap.size + 1) (vs := [.bool neg', .slice A' n' c']) (by simp)).two
  go_quiet (fail)
  have ha1 : Sl (w0.drewN nq) A n c a := ha0
  have hb1 : Sl (w0.drewN nq) A' n' c' b := hb0
  have K1 := K0.drewN nq
  clear ha0 hb0 K0 qa0 qb0 qe0 ra0 rb0 re0
  generalize w0.drewN nq = w1 at K1 ha1 hb1 ⊢
  go_wp2_with (at_make; refine wpList_make_full _ rfl _ _ 22 rfl w1.heap.size 116 i0 (.int .u32 0) 1 Try.underlying22 hi hz0 hz1 _ _ _ _ (n + n') rfl rfl (by first | exact HM.out | exact HM2.out | omega) (by first | exact HM.out | exact HM2.out | omega) ?c2 ?c3 (Nat.le_refl _) ?_)
  case c2 => rw [hz2]; omega
  case c3 => unfold maxLen; omega
  intro w2 hown2 hgrow2
  rw [made_u32] at hown2
  have hb2 : Below w1.heap.size w1 w2 := (Below.refl _ _).grown hgrow2 (Nat.le_refl _) (fun k hk => by cases hk)
  clear hgrow2
  go_wp2
  go_loopw [25] (fun i wr => ∃ (k : Nat) (out : List Nat), k ≤ n ∧ i = .int .i64 k ∧ Hid (out.length = n + n') ∧ wr.ownsRow w1.heap.size 116 1 (.slice (some ⟨w1.heap.size, 0, none⟩) (n + n') (n + n')) (n + n') (u32s out) ∧ Lm.ok out ∧
      Hid (Lm.lv (out.take (k + n')) = Lm.lv (a.take k) * Lm.lv b) ∧ Below w1.heap.size w1 wr)
    (fun i _ => n - (intOf i).toNat)
  case atStart =>
    exact ⟨0, List.replicate (n + n') 0, Nat.zero_le _, rfl, (List.length_replicate : (List.replicate (n + n') 0).length = n + n'), hown2, Lm.ok_zeros _,
      (by rw [List.take_replicate, Lm.lv_zeros]; simp [Lm.lv] : Lm.lv ((List.replicate (n + n') 0).take (0 + n')) = Lm.lv (a.take 0) * Lm.lv b), hb2⟩
  case round =>
    obtain ⟨k, out, hk, rfl, hol, hown, hok, HE, hnx⟩ := hrel
    clear hown2 hb2
    have hsz := (hown.lt _ rfl).2
    by_cases h1 : k < n
    · obtain ⟨ad, rfl, hba, hla, hca0, hxa⟩ := (ha1.below hnx).at_ h1
      have hk0 : (0 : Int) ≤ (k : Int) := Int.natCast_nonneg _
      have hlt1 : (k : Int) < (n : Int) := by omega
      obtain ⟨x, hx⟩ : ∃ x, a[k] = x := ⟨_, rfl⟩
      rw [hx] at hca0 hxa
      have HX := Lib.hid hx
      clear hx
      go_wp2
      go_loopw [10, 32] (fun cr i wr => ∃ (j q : Nat) (out : List Nat), j ≤ n' ∧ q < 4294967296 ∧ i = .int .i64 j ∧ cr = .int .u64 q ∧ Hid (out.length = n + n') ∧ wr.ownsRow w1.heap.size 116 1 (.slice (some ⟨w1.heap.size, 0, none⟩) (n + n') (n + n')) (n + n') (u32s out) ∧ Lm.ok out ∧
          Hid (Lm.lv (out.take (k + n')) + Lm.B ^ (k + j) * q = Lm.lv (a.take k) * Lm.lv b + Lm.B ^ k * (x * Lm.lv (b.take j))) ∧ Below w1.heap.size w1 wr)
        (fun _ i _ => n' - (intOf i).toNat)
      case atStart =>
        exact ⟨0, 0, out, Nat.zero_le _, by omega, rfl, rfl, hol, hown, hok, (by rw [HE.out]; simp [Lm.lv] : Lm.lv (out.take (k + n')) + Lm.B ^ (k + 0) * 0 = Lm.lv (a.take k) * Lm.lv b + Lm.B ^ k * (x * Lm.lv (b.take 0))), hnx⟩
      case round =>
        clear hown hnx HE hol hok hsz out
        obtain ⟨j, q, out, hj, hq, rfl, rfl, hol, hown, hok, HE, hnx⟩ := hrel
        have hsz := (hown.lt _ rfl).2
        by_cases h2 : j < n'
        · obtain ⟨ad', rfl, hbb, hlb, hcb, hxb⟩ := (hb1.below hnx).at_ h2
          have hkj : k + j < out.length := by rw [hol.out]; omega
          have hco := own_at hown hkj
          have hxo := Lm.ok_get hok hkj
          have hmc := Lm.mul_carry hxa hxb hxo hq
          have hf := hown.frozenAt (k + j)
          have hj0 : (0 : Int) ≤ (j : Int) := Int.natCast_nonneg _
          have hlt2 : (j : Int) < (n' : Int) := by omega
          have s1 : IntKind.i64.wrap ((k : Int) + j) = (k : Int) + j := IntWalk.i64_in _ (by omega)
          have s2 : ((k : Int) + j).toNat = k + j := by omega
          have s3 : IntKind.u64.wrap ((x : Int) * b[j]) = (x : Int) * b[j] := IntWalk.u64_in _ (by rw [← Int.natCast_mul]; omega)
          have s4 : IntKind.u64.wrap ((x : Int) * b[j] + out[k + j]) = (x : Int) * b[j] + out[k + j] := IntWalk.u64_in _ (by rw [← Int.natCast_mul]; omega)
          have s5 : IntKind.u64.wrap ((q : Int) + ((x : Int) * b[j] + out[k + j])) = (q : Int) + ((x : Int) * b[j] + out[k + j]) := IntWalk.u64_in _ (by rw [← Int.natCast_mul]; omega)
          have s6 : (((q : Int) + ((x : Int) * b[j] + out[k + j])) % 4294967296) = (((x * b[j] + out[k + j] + q) % 4294967296 : Nat) : Int) := by rw [← Int.natCast_mul]; omega
          have s7 : (((q : Int) + ((x : Int) * b[j] + out[k + j])) / 4294967296) = (((x * b[j] + out[k + j] + q) / 4294967296 : Nat) : Int) := by rw [← Int.natCast_mul]; omega
          have S6 := Lib.hid s6
          have S7 := Lib.hid s7
          clear s6 s7
          have hp0 : 0 ≤ (x : Int) * b[j] := by rw [← Int.natCast_mul]; omega
          have hp1 : (q : Int) + ((x : Int) * b[j] + out[k + j]) ≤ 18446744073709551615 := by rw [← Int.natCast_mul]; omega
          go_wp2
          go_roundw
          case rel =>
            refine ⟨j + 1, (x * b[j] + out[k + j] + q) / 4294967296, out.set (k + j) ((x * b[j] + out[k + j] + q) % 4294967296), by omega, by omega, by go_num, by rw [S7.out], (by rw [List.length_set]; exact hol.out : (out.set (k + j) ((x * b[j] + out[k + j] + q) % 4294967296)).length = n + n'),
              own_store hown _ S6.out, Lm.ok_set hok (Nat.mod_lt _ (by decide)), ?_, hnx.setCell (p := ⟨w1.heap.size, k + j, none⟩) (Nat.le_refl _) _⟩
            have h := Lm.mul_step (m := k + n') hkj (by omega) HE.out (x := x) (y := b[j])
            show _ = _
            rw [h, Lm.take_in b hlb, Nat.mul_add, Nat.mul_add, Nat.add_assoc]
          case measure => simp [intOf]; omega
        · obtain rfl : j = n' := by omega
          have hm : k + j < out.length := by rw [hol.out]; omega
          have hf := hown.frozenAt (k + j)
          have hco := own_at hown hm
          have hnl : ¬ (j : Int) < (j : Int) := by omega
          have s1 : IntKind.i64.wrap ((k : Int) + j) = (k : Int) + j := IntWalk.i64_in _ (by omega)
          have s2 : ((k : Int) + j).toNat = k + j := by omega
          go_wp2
          go_roundw
          case rel =>
            refine ⟨k + 1, out.set (k + j) q, by omega, by go_num, (by rw [List.length_set]; exact hol.out : (out.set (k + j) q).length = n + j),
              own_store hown _ rfl, Lm.ok_set hok hq, ?_, hnx.setCell (p := ⟨w1.heap.size, k + j, none⟩) (Nat.le_refl _) _⟩
            have h := Lm.mul_last hm HE.out
            have hla' := Lm.take_in a hla
            rw [HX.out] at hla'
            show _ = _
            rw [show k + 1 + j = k + j + 1 by omega, h, hla', Nat.add_mul, Lm.lv_take_ge b j (by rw [HL.out.2]; omega), Nat.mul_assoc]
          case measure => simp [intOf]; omega
    · obtain rfl : k = n := by omega
      have hS : Sl wr (some ⟨w1.heap.size, 0, none⟩) (k + n') (k + n') out := Sl.of_own hown (Nat.le_refl _) hok
      have E : Hid (Lm.lv out = Lm.lv a * Lm.lv b) := by
        have h := HE.out
        rw [Lm.lv_take_ge out (k + n') (by rw [hol.out]; omega), Lm.lv_take_ge a k (by rw [HL.out.1]; omega)] at h
        exact h
      have K2 := K1.next hnx
      obtain ⟨qa2, qb2, qc2, qd2, qe2⟩ := (K2.blk (g := w.heap.size) (vs := [.bool neg, .slice A k c]) (by simp)).two
      obtain ⟨ra2, rb2, rc2, rd2, re2⟩ := (K2.blk (g := w.heap.size + 1) (vs := [.bool neg', .slice A' n' c']) (by simp)).two
      have hnl : ¬ (k : Int) < (k : Int) := by omega
      clear K1 ha1 hb1 hown hnx
      go_wp2_with (go_at_call 92; refine (ex_signed_any (neg != neg') (some ⟨w1.heap.size, 0, none⟩) (k + n') (k + n') out _ hS (by omega)).mono ?_; rintro e3 w3 ⟨neg3, A3, n3, c3, rfl, I3, hb3⟩; have K3 := (K2.next hb3).int I3; obtain ⟨sa3, sb3, sc3, sd3, se3⟩ := (K3.blk (g := w.heap.size + 1 + 1) (vs := [.bool false, .slice none 0 0]) (by simp)).two)
      rw [E.out] at K3
      have KE := (K3.pick (L' := [(w.heap.size + 1 + 1, [.bool false, .slice none 0 0])]) (l' := [(neg3, A3, n3, c3, sgnd (neg != neg') (Lm.lv a * Lm.lv b))]) (by simp) (by simp)).set2 (by simp <;> omega) neg3 A3 n3 c3
      exact bodyPost_ret (v := .agg #[.bool neg3, .slice A3 n3 c3]) (by simp [results, Try.results89, go_sem, sa3, sb3]) rfl ⟨neg3, A3, n3, c3, rfl, KE.at_ (by simp), KE.1⟩
theorem ex_times_any (neg neg' : Bool) (A A' : Option Addr) (n c n' c' : Nat) (x y : Int) (w : World) (hx : IsInt w neg A n c x) (hy : IsInt w neg' A' n' c' y) (hn : n ≤ 1000000000) (hn' : n' ≤ 1000000000) :
    Calls Try.prog 89 #[.agg #[.bool neg, .slice A n c], .agg #[.bool neg', .slice A' n' c']] w (RetInt w (x * y)) := by
  obtain ⟨a, ha, _, _, rfl⟩ := hx
  obtain ⟨b, hb, _, _, rfl⟩ := hy
  rw [← sgnd_mul]
  exact ex_times_sl neg neg' A A' n c n' c' a b w ha hb hn hn'
end Go.Proofs.Ytdmdaoginojalaa
