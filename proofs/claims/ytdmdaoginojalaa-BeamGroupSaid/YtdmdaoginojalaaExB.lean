/-
  The program's whole numbers (package exact): limbs held against limbs, copies, numbers of 64 bits, bits.
  The references' fractions (polestarref02): with the other sign, lowest terms, the four operations, held against one another.
  The program's whole numbers (package exact): held against one another; bits; copies.
  The program's whole numbers (package exact): bits, copies, times a power of two.
-/
import Derived.Test.YtdmdaoginojalaaExU
import Derived.Test.YtdmdaoginojalaaRoot
import Derived.WalkSpells
import Derived.Deep.RegionHeld3
namespace Go.Proofs.Ytdmdaoginojalaa
open Go.RowKit

/-- A sign tells which is more. -/
def RetSz (W : World) (x y : Nat) (e : Ending) (w' : World) : Prop := ∃ v : Int, e = .returned (.int .i64 v) ∧ (v < 0 ↔ x < y) ∧ (0 < v ↔ y < x) ∧ -1000000000 ≤ v ∧ v ≤ 1000000000 ∧ ∃ k, w' = W.drewN k
set_option maxHeartbeats 800000 in
theorem ex_size_any (A A' : Option Addr) (n c n' c' : Nat) (a b : List Nat) (w : World) (ha : Sl w A n c a) (hb : Sl w A' n' c' b) (ca : Lm.canon a) (cb : Lm.canon b) (hn : n ≤ 1000000000) (hn' : n' ≤ 1000000000) :
    Calls Try.prog 94 #[.slice A n c, .slice A' n' c'] w (RetSz w (Lm.lv a) (Lm.lv b)) := by
  have la := ha.len
  have lb := hb.len
  by_cases hne : n = n'
  · subst hne
    go_enter Try.func94, Try.ntmps94
    go_wp2
    go_loopw [5] (fun i wr => ∃ k : Nat, k ≤ n ∧ i = .int .i64 ((k : Int) - 1) ∧ Hid (a.drop k = b.drop k) ∧ ∃ j, wr = w.drewN j) (fun i _ => (intOf i + 1).toNat)
    case atStart => exact ⟨n, Nat.le_refl _, rfl, (by rw [List.drop_of_length_le (by omega), List.drop_of_length_le (by omega)] : a.drop n = b.drop n), 0, rfl⟩
    case round =>
      obtain ⟨k, hk, rfl, HD, j, rfl⟩ := hrel
      by_cases h0 : k = 0
      · subst h0
        have E : Hid (Lm.lv a = Lm.lv b) := Lib.hid (by have := HD.out; simp only [List.drop_zero] at this; rw [this])
        go_wp2
        go_ret
        exact ⟨0, rfl, by have := E.out; omega, by have := E.out; omega, by omega, by omega, j, rfl⟩
      · obtain ⟨ad, rfl, hba, hla, hca, hxa⟩ := ha.at_ (k := k - 1) (by omega)
        obtain ⟨ad', rfl, hbb, hlb, hcb, hxb⟩ := hb.at_ (k := k - 1) (by omega)
        have hk1 : 1 ≤ k := by omega
        have HD' : Hid (a.drop (k - 1 + 1) = b.drop (k - 1 + 1)) := by rw [show k - 1 + 1 = k by omega]; exact HD
        by_cases he : a[k - 1] = b[k - 1]
        · have he' : (((a[k - 1] : Nat) : Int) != ((b[k - 1] : Nat) : Int)) = false := by rw [he]; simp
          go_wp2
          go_quiet (fail)
          all_goals go_wp2
          go_roundw
          case rel => exact ⟨k - 1, by omega, by go_num, (by rw [List.drop_eq_getElem_cons hla, List.drop_eq_getElem_cons hlb, he, HD'.out] : a.drop (k - 1) = b.drop (k - 1)), _, by first | exact drew2 _ _ _ | rfl⟩
          case measure => simp [intOf]; omega
        · have he' : (((a[k - 1] : Nat) : Int) != ((b[k - 1] : Nat) : Int)) = true := by
            rw [bne_iff_ne]
            omega
          by_cases hl : a[k - 1] < b[k - 1]
          · have E := Lib.hid (Lm.lt_of_limb ha.ok hla hlb HD'.out hl)
            have hl' : decide (((a[k - 1] : Nat) : Int) < ((b[k - 1] : Nat) : Int)) = true := by simpa using hl
            go_wp2
            go_quiet (fail)
            go_wp2
            go_quiet (fail)
            go_wp2
            go_ret
            exact ⟨-1, rfl, by have := E.out; omega, by have := E.out; omega, by omega, by omega, _, by first | exact drew3 _ _ _ _ | exact drew2 _ _ _ | rfl⟩
          · have E := Lib.hid (Lm.lt_of_limb hb.ok hlb hla HD'.out.symm (show b[k - 1] < a[k - 1] by omega))
            have hl' : decide (((a[k - 1] : Nat) : Int) < ((b[k - 1] : Nat) : Int)) = false := by simp; omega
            go_wp2
            go_quiet (fail)
            go_wp2
            go_quiet (fail)
            go_wp2
            go_ret
            exact ⟨1, rfl, by have := E.out; omega, by have := E.out; omega, by omega, by omega, _, by first | exact drew3 _ _ _ _ | exact drew2 _ _ _ | rfl⟩
  · have hb1 : ((n : Int) != (n' : Int)) = true := by rw [bne_iff_ne]; omega
    have E1 : Hid (n < n' → Lm.lv a < Lm.lv b) := Lib.hid (fun h => Lm.len_of_lv ha.ok hb.ok cb (by omega))
    have E2 : Hid (n' < n → Lm.lv b < Lm.lv a) := Lib.hid (fun h => Lm.len_of_lv hb.ok ha.ok ca (by omega))
    go_enter Try.func94, Try.ntmps94
    go_wp2
    go_ret
    refine ⟨(n : Int) - n', rfl, ?_, ?_, by omega, by omega, 0, rfl⟩
    · rcases Nat.lt_or_ge n n' with h | h
      · have := E1.out h; omega
      · have := E2.out (by omega); omega
    · rcases Nat.lt_or_ge n n' with h | h
      · have := E1.out h; omega
      · have := E2.out (by omega); omega
end Go.Proofs.Ytdmdaoginojalaa

namespace Go.Proofs.Ytdmdaoginojalaa
open Go.RowKit

def RetFr (W : World) (x : Rat) (e : Ending) (w' : World) : Prop :=
  ∃ (neg : Bool) (A : Option Addr) (n c : Nat) (neg' : Bool) (A' : Option Addr) (n' c' : Nat), e = .returned (.agg #[.bool neg, .slice A n c, .bool neg', .slice A' n' c']) ∧ IsInt w' neg A n c x.num ∧ IsInt w' neg' A' n' c' (x.den : Int) ∧ Below W.heap.size W w'
theorem int_len {w : World} {neg : Bool} {A : Option Addr} {n c : Nat} {z : Int} (h : IsInt w neg A n c z) {m : Nat} (hz : z.natAbs < 2 ^ (32 * m)) : n ≤ m := isInt_len_le h (by rw [show Lm.B ^ m = 2 ^ (32 * m) by rw [Nat.pow_mul]]; exact hz)

end Go.Proofs.Ytdmdaoginojalaa

namespace Go.Proofs.Ytdmdaoginojalaa
open Go.RowKit

theorem icmp_facts (x y : Int) : (x < y → icmp x y = -1) ∧ (y < x → icmp x y = 1) ∧ (x = y → icmp x y = 0) := by
  unfold icmp
  refine ⟨fun h => if_pos h, fun h => ?_, fun h => ?_⟩
  · rw [if_neg (by omega), if_pos h]
  · rw [if_neg (by omega), if_neg (by omega)]
theorem sign_lt {x y : Int} (h : x.sign < y.sign) : x < y := by
  rcases Int.lt_trichotomy x 0 with a | a | a <;> rcases Int.lt_trichotomy y 0 with b | b | b
  all_goals first | (rw [Int.sign_eq_neg_one_of_neg a] at h) | (rw [Int.sign_eq_one_of_pos a] at h) | (rw [a] at h)
  all_goals first | (rw [Int.sign_eq_neg_one_of_neg b] at h) | (rw [Int.sign_eq_one_of_pos b] at h) | (rw [b] at h)
  all_goals simp at h
  all_goals omega
theorem icmp_clamp {x y v : Int} {neg neg' : Bool} {p q : Nat} (hs : x.sign = y.sign) (hx : x = sgnd neg p) (hy : y = sgnd neg' q) (nx : neg = decide (x < 0)) (ny : neg' = decide (y < 0)) (h : (v < 0 ↔ p < q) ∧ (0 < v ↔ q < p)) :
    (neg = false → icmp x y = max (-1) (min 1 v)) ∧ (neg = true → icmp x y = max (-1) (min 1 (-v))) := by
  have hb : neg' = neg := by
    rw [nx, ny]
    have h1 : x < 0 ↔ y < 0 := by rw [← Int.sign_eq_neg_one_iff_neg, ← Int.sign_eq_neg_one_iff_neg, hs]
    exact decide_eq_decide.2 h1.symm
  subst hb
  clear hs nx ny
  obtain ⟨h1, h2⟩ := h
  unfold icmp
  cases neg'
  · refine ⟨fun _ => ?_, fun h => absurd h (by decide)⟩
    rw [hx, hy]
    unfold sgnd
    simp only [Bool.false_eq_true, if_false]
    split <;> (try split) <;> omega
  · refine ⟨fun h => absurd h (by decide), fun _ => ?_⟩
    rw [hx, hy]
    unfold sgnd
    simp only [if_true]
    split <;> (try split) <;> omega
set_option maxRecDepth 100000 in
set_option maxHeartbeats 1600000 in
theorem ex_cmp_int (neg neg' : Bool) (A A' : Option Addr) (n c n' c' : Nat) (x y : Int) (w : World) (hx : IsInt w neg A n c x) (hy : IsInt w neg' A' n' c' y) (hn : n ≤ 1000000000) (hn' : n' ≤ 1000000000) :
    Calls Try.prog 88 #[.agg #[.bool neg, .slice A n c], .agg #[.bool neg', .slice A' n' c']] w (RetV w (.int .i64 (icmp x y))) := by
  have K0 := (((Mm.nil w).int hx).int hy).var (g := w.heap.size) rfl [.bool neg, .slice A n c] 24 |>.var (g := w.heap.size + 1) (by simp) [.bool neg', .slice A' n' c'] 24
  have HX := Lib.hid (isInt_neg hx)
  have HY := Lib.hid (isInt_neg hy)
  have HC := Lib.hid (icmp_facts x y)
  clear hx hy
  go_enter Try.func88, Try.ntmps88
  go_wp2_with fail
  generalize (w.alloc (.cells #[.bool neg, .slice A n c] 24)).alloc (.cells #[.bool neg', .slice A' n' c'] 24) = w0 at K0 ⊢
  obtain ⟨qa0x, qb0x, qc0x, qd0x, qe0x⟩ := (K0.blk (g := w.heap.size) (vs := [.bool neg, .slice A n c]) (by simp)).two
  obtain ⟨qa0y, qb0y, qc0y, qd0y, qe0y⟩ := (K0.blk (g := w.heap.size + 1) (vs := [.bool neg', .slice A' n' c']) (by simp)).two
  go_region_held3 (fun w' => w'.cell? ⟨w.heap.size, 0, none⟩ = some (.bool neg) ∧ w'.cell? ⟨w.heap.size, 1, none⟩ = some (.slice A n c) ∧ w'.cell? ⟨w.heap.size + 1, 0, none⟩ = some (.bool neg') ∧ w'.cell? ⟨w.heap.size + 1, 1, none⟩ = some (.slice A' n' c'))
    (go_keep)
    (first
      | (go_at_call 72; (with_reducible refine (ex_sign_any neg A n c x _ ?_).mono ?_); (first | (with_reducible exact K0.at_ (by simp)) | (with_reducible exact K0.drew.at_ (by simp)) | (with_reducible exact (K0.drewN _).at_ (by simp))); rintro e1 w1 ⟨rfl, hb1⟩; (first | (with_reducible have K1 := (K0.next hb1)) | (with_reducible have K1 := (K0.drew.next hb1)) | (with_reducible have K1 := ((K0.drewN _).next hb1))); have Q1x := (K1.blk (g := w.heap.size) (vs := [.bool neg, .slice A n c]) (by simp)).two; obtain ⟨qa1x, qb1x, qc1x, qd1x, qe1x⟩ := Q1x; have Q1y := (K1.blk (g := w.heap.size + 1) (vs := [.bool neg', .slice A' n' c']) (by simp)).two; obtain ⟨qa1y, qb1y, qc1y, qd1y, qe1y⟩ := Q1y; clear hb1)
      | (go_at_call 72; (with_reducible refine (ex_sign_any neg' A' n' c' y _ ?_).mono ?_); (first | (with_reducible exact K1.at_ (by simp)) | (with_reducible exact K1.drew.at_ (by simp)) | (with_reducible exact (K1.drewN _).at_ (by simp))); rintro e2 w2 ⟨rfl, hb2⟩; (first | (with_reducible have K2 := (K1.next hb2)) | (with_reducible have K2 := (K1.drew.next hb2)) | (with_reducible have K2 := ((K1.drewN _).next hb2))); have Q2x := (K2.blk (g := w.heap.size) (vs := [.bool neg, .slice A n c]) (by simp)).two; obtain ⟨qa2x, qb2x, qc2x, qd2x, qe2x⟩ := Q2x; have Q2y := (K2.blk (g := w.heap.size + 1) (vs := [.bool neg', .slice A' n' c']) (by simp)).two; obtain ⟨qa2y, qb2y, qc2y, qd2y, qe2y⟩ := Q2y; clear hb2))
  by_cases hs : x.sign = y.sign
  · have h1 : (x.sign != y.sign) = false := by rw [hs]; simp
    have HS := Lib.hid hs
    clear hs
    obtain ⟨a, ha, ca, na, hxe⟩ := (K2.at_ (neg := neg) (A := A) (n := n) (c := c) (z := x) (by simp))
    obtain ⟨b, hb, cb, nb, hye⟩ := (K2.at_ (neg := neg') (A := A') (n := n') (c := c') (z := y) (by simp))
    have HXE := Lib.hid hxe
    have HYE := Lib.hid hye
    clear na nb hxe hye
    go_wp2_with fail
    refine (ex_size_any A A' n c n' c' a b _ ha hb ca cb hn hn').mono ?_
    rintro e3 w3 ⟨v, rfl, hv1, hv2, hv3, hv4, k3, rfl⟩
    have HV := Lib.hid (And.intro hv1 hv2)
    clear hv1 hv2
    go_wp2_with fail
    · have hn0 : neg = true := by assumption
      have E := Lib.hid (icmp_clamp HS.out HXE.out HYE.out HX.out HY.out HV.out)
      go_ret
      exact ⟨by rw [E.out.2 hn0]; rfl, below_drewN K2.1 _⟩
    · have hn0 : neg = false := by assumption
      have E := Lib.hid (icmp_clamp HS.out HXE.out HYE.out HX.out HY.out HV.out)
      go_ret
      exact ⟨by rw [E.out.1 hn0]; rfl, below_drewN K2.1 _⟩
  · have h1 : (x.sign != y.sign) = true := by simpa using hs
    by_cases hl : x.sign < y.sign
    · have E : Hid (icmp x y = -1) := Lib.hid (HC.out.1 (sign_lt hl))
      go_wp2_with fail
      go_ret
      exact ⟨by rw [E.out]; rfl, K2.1⟩
    · have E : Hid (icmp x y = 1) := Lib.hid (HC.out.2.1 (sign_lt (by omega)))
      go_wp2_with fail
      go_ret
      exact ⟨by rw [E.out]; rfl, K2.1⟩
end Go.Proofs.Ytdmdaoginojalaa

namespace Go.Proofs.Ytdmdaoginojalaa
open Go.RowKit

theorem bitLen_32 {x : Nat} (h : x < 4294967296) : bitLen x ≤ 32 := by
  unfold bitLen
  split
  · omega
  · rename_i hh
    have := (Nat.log2_lt hh).2 (show x < 2 ^ 32 from h)
    omega
/-! ### copies -/
/-- A row of limbs of the call's own. -/
def RetOwn (W : World) (l : List Nat) (e : Ending) (w' : World) : Prop :=
  ∃ A n c, e = .returned (.slice A n c) ∧ w'.ownsRow W.heap.size 116 1 (.slice A n c) n (u32s l) ∧ n ≤ c ∧ Below W.heap.size W w'
theorem u32s_len (l : List Nat) : (u32s l).length = l.length := by unfold u32s; simp
set_option maxRecDepth 100000 in
set_option maxHeartbeats 800000 in
theorem ex_clone_any (A : Option Addr) (n c : Nat) (l : List Nat) (w : World) (h : Sl w A n c l) (hn : n ≤ 1000000000) :
    Calls Try.prog 110 #[.slice A n c] w (RetOwn w l) := by
  obtain ⟨i0, hi, hz0, hz1, hz2⟩ := info_parts info_u32
  have heq := fun w => Lib.run_eql_slice_nil (P := Try.prog) w 22 116 A n c 0 0 Try.underlying22
  have hlen := h.len
  have hcap := h.cap
  cases A with
  | none =>
    have hn0 : n = 0 := by
      rcases Nat.eq_zero_or_pos n with h0 | h0
      · exact h0
      · obtain ⟨ad, e, _⟩ := h.1.2 h0
        cases e
    subst hn0
    have hl0 : l = [] := List.eq_nil_of_length_eq_zero hlen
    subst hl0
    go_enter Try.func110, Try.ntmps110
    go_wp2_with fail
    go_ret
    exact ⟨none, 0, 0, rfl, World.ownsRow_nil _ _ _ _, Nat.le_refl _, Below.refl _ _⟩
  | some ad =>
    have hown0 : (w.alloc (.cells #[] 116)).ownsRow w.heap.size 116 1 (.slice (some ⟨w.heap.size, 0, none⟩) 0 0) 0 [] := World.ownsRow_lit w #[] 0 (Nat.le_refl _) (by decide) rfl
    have h1 := h.alloc (.cells #[] 116)
    go_enter Try.func110, Try.ntmps110
    go_wp2_with (at_builtin; refine wpList_append_any _ rfl _ _ 22 rfl w.heap.size 116 i0 (.int .u32 0) 4 Try.underlying22 hi hz0 hz1 hz2 rfl _ 0 [] rfl hown0 _ (some ad) n c (u32s l) rfl h1.1 (u32s_one l) ?d1 ?d2 ?d3 ?_)
    case d1 => unfold maxLen; omega
    case d2 => omega
    case d3 => simp
    intro v' w2 hown2 hgrow2 hv2
    have hb2 : Below w.heap.size w w2 := ((Below.refl _ _).alloc (Nat.le_refl _) _).grown hgrow2 (by simp) (own_ge hown0)
    obtain ⟨A2, c2, rfl, hc2⟩ := own_form hown2
    go_wp2_with fail
    go_ret
    exact ⟨A2, n, c2, rfl, hown2, hc2, hb2⟩
set_option maxRecDepth 100000 in
set_option maxHeartbeats 800000 in
theorem ex_own_any (neg : Bool) (A : Option Addr) (n c : Nat) (l : List Nat) (w : World) (h : Sl w A n c l) (hn : n ≤ 1000000000) :
    Calls Try.prog 109 #[.bool neg, .slice A n c] w (RetInt w (sgnd neg (Lm.lv l))) := by
  have h1 := h.alloc (.cells #[.bool false, .slice none 0 0] 24)
  go_enter Try.func109, Try.ntmps109
  go_wp2_with fail
  refine (ex_clone_any A n c l _ h1 hn).mono ?_
  rintro e1 w1 ⟨A1, n1, c1, rfl, hown, hc1, hb1⟩
  have hs1 : Sl w1 A1 n1 c1 l := Sl.of_own hown hc1 h.ok
  have hn1 : n1 ≤ 1000000000 := by have := hs1.len; have := h.len; omega
  obtain ⟨bc1, bf1⟩ := bcell hb1
  have hz1 : w.heap.size < w1.heap.size := by have := hb1.size; simp at this; omega
  clear hown
  go_wp2_with fail
  refine (ex_signed_any neg A1 n1 c1 l _ hs1 (by omega)).mono ?_
  rintro e2 w2 ⟨neg2, A2, n2, c2, rfl, hI2, hb2⟩
  obtain ⟨bc2, bf2⟩ := bcell hb2
  have r1 := (bc2 w.heap.size 0 hz1).trans (bc1 w.heap.size 0 (by simp))
  have r2 := (bc2 w.heap.size 1 hz1).trans (bc1 w.heap.size 1 (by simp))
  have r3 := (bf2 w.heap.size 0 hz1).trans (bf1 w.heap.size 0 (by simp))
  have r4 := (bf2 w.heap.size 1 hz1).trans (bf1 w.heap.size 1 (by simp))
  clear bc1 bf1 bc2 bf2
  go_wp2_with fail
  exact bodyPost_ret (v := .agg #[.bool neg2, .slice A2 n2 c2]) (by simp [results, Try.results109, go_sem, r1, r2]) rfl
    ⟨neg2, A2, n2, c2, rfl, isInt_result (b0 := false) (a0 := none) (n0 := 0) (c0 := 0) hI2 (r1.trans (by simp [go_sem])) (r2.trans (by simp [go_sem])) _ _, below_result (below_next (below_box hb1) hb2) (Nat.le_refl _) _ _⟩
end Go.Proofs.Ytdmdaoginojalaa
