/-
  The fractions (frac): may one be, what a float is worth, two against one another.
  A fraction in memory of its own (ratio.Copy), the answer of an operation (frac.answered).
-/
import Derived.Test.YtdmdaoginojalaaTzF
import Derived.Test.YtdmdaoginojalaaMaP
import Derived.Test.YtdmdaoginojalaaRaO
namespace Go.Proofs.Ytdmdaoginojalaa
open Go.RowKit

/-- A fraction that may be, in memory as limbs, and what it is worth. -/
def OkF (w : World) (f : LmE) (r : Rat) : Prop := LmE.at_ w f ∧ okB f = true ∧ rv f = r
theorem OkF.next {w w' : World} {f : LmE} {r : Rat} (h : OkF w f r) (hb : Below w.heap.size w w') : OkF w' f r := ⟨LmE.at_.below h.1 hb, h.2⟩
theorem okF_of {w : World} {neg neg' : Bool} {A A' : Option Addr} {n c n' c' : Nat} {r : Rat} (I : IsInt w neg A n c r.num) (J : IsInt w neg' A' n' c' (r.den : Int)) (hs : Sz r 2048) :
    ∃ l l', OkF w ((neg, A, n, c, l), (neg', A', n', c', l')) r := by
  have h1 := int_len I hs.1
  have h2 := int_len J hs.2
  obtain ⟨l, S1, c1, g1, z1⟩ := I
  obtain ⟨l', S2, c2, g2, z2⟩ := J
  have hd : 0 < sgnd neg' (Lm.lv l') := by rw [← z2]; have := r.den_nz; omega
  have hg : Nat.gcd (Lm.lv l) (Lm.lv l') = 1 := by
    have e1 : r.num.natAbs = Lm.lv l := by rw [z1, sgnd_abs]
    have e2 : r.den = Lm.lv l' := by
      have : ((r.den : Int)).natAbs = Lm.lv l' := by rw [z2, sgnd_abs]
      simpa using this
    rw [← e1, ← e2]
    exact r.reduced
  refine ⟨l, l', ⟨S1, S2, Nat.le_trans h1 (by decide), Nat.le_trans h2 (by decide)⟩, (okB_iff _).2 ⟨⟨by show l.length ≤ 2048; have := S1.len; omega, c1, g1⟩, ⟨by show l'.length ≤ 2048; have := S2.len; omega, c2, g2⟩, hd, hg⟩, ?_⟩
  show Rat.divInt (sgnd neg (Lm.lv l)) (sgnd neg' (Lm.lv l')) = r
  rw [← z1, ← z2]
  exact Rat.num_divInt_den r
theorem OkF.ints {w : World} {neg : Bool} {A : Option Addr} {n c : Nat} {l : List Nat} {neg' : Bool} {A' : Option Addr} {n' c' : Nat} {l' : List Nat} {r : Rat} (h : OkF w ((neg, A, n, c, l), (neg', A', n', c', l')) r) : IsInt w neg A n c r.num ∧ IsInt w neg' A' n' c' (r.den : Int) ∧ Sz r 2048 := by
  have := ok_ints h.2.1 h.1
  rw [h.2.2] at this
  exact this

end Go.Proofs.Ytdmdaoginojalaa

namespace Go.Proofs.Ytdmdaoginojalaa
open Go.RowKit

set_option maxRecDepth 100000 in
set_option maxHeartbeats 3200000 in
theorem rat_copy_any (neg neg' : Bool) (A A' : Option Addr) (n c n' c' : Nat) (r : Rat) (w : World) (hx : IsInt w neg A n c r.num) (hx' : IsInt w neg' A' n' c' (r.den : Int)) (hn : n ≤ 2048) (hn' : n' ≤ 2048) :
    Calls Try.prog 35 #[.agg #[.bool neg, .slice A n c, .bool neg', .slice A' n' c']] w (RetFr w r) := by
  have K0 := ((((Mm.nil w).int hx).int hx').var (g := w.heap.size) rfl [.bool neg, .slice A n c, .bool neg', .slice A' n' c'] 26).var (g := w.heap.size + 1) (by simp) [.bool false, .slice none 0 0, .bool false, .slice none 0 0] 26
  clear hx hx'
  go_enter Try.func35, Try.ntmps35
  go_wp2_with fail
  generalize (w.alloc (.cells #[.bool neg, .slice A n c, .bool neg', .slice A' n' c'] 26)).alloc (.cells #[.bool false, .slice none 0 0, .bool false, .slice none 0 0] 26) = w0 at K0 ⊢
  refine (ex_of_any 0 _ (by decide)).mono ?_
  rintro e1 w1 ⟨neg1, A1, n1, c1, rfl, I1, hb1⟩
  have hn1 : n1 ≤ 1 := int_len I1 (by decide)
  have hz1 : w.heap.size + 1 < w1.heap.size := by
    have := ((K0.next hb1).blk (g := w.heap.size + 1) (vs := [.bool false, .slice none 0 0, .bool false, .slice none 0 0]) (by simp)).1
    exact this
  have K1 := ((K0.next hb1).int I1).var (g := w1.heap.size) rfl [.bool neg1, .slice A1 n1 c1] 24
  clear K0 I1 hb1
  go_upto_region 2 with (fail)
  generalize hg3 : w1.heap.size = g3 at K1 hz1 ⊢
  generalize w1.alloc (.cells #[.bool neg1, .slice A1 n1 c1] 24) = w2 at K1 ⊢
  clear hg3
  obtain ⟨⟨qa0, qb0, qc0, qd0⟩, _, _⟩ := (K1.blk (g := w.heap.size) (vs := [.bool neg, .slice A n c, .bool neg', .slice A' n' c']) (by simp)).four
  obtain ⟨za0, zb0, _, _, _⟩ := (K1.blk (g := g3) (vs := [.bool neg1, .slice A1 n1 c1]) (by simp)).two
  have e0a : ¬ w.heap.size + 1 = w.heap.size := by omega
  have e0b : ¬ w.heap.size + 1 = g3 := by omega
  go_wp2_with fail
  go_region_held3 (fun w' => w'.cell? ⟨w.heap.size, 0, none⟩ = some (.bool neg) ∧ w'.cell? ⟨w.heap.size, 1, none⟩ = some (.slice A n c) ∧ w'.cell? ⟨w.heap.size, 2, none⟩ = some (.bool neg') ∧ w'.cell? ⟨w.heap.size, 3, none⟩ = some (.slice A' n' c') ∧ w'.cell? ⟨g3, 0, none⟩ = some (.bool neg1) ∧ w'.cell? ⟨g3, 1, none⟩ = some (.slice A1 n1 c1))
    (go_keep)
    (first
      | (go_at_call 67; (with_reducible refine (ex_plus_any neg neg1 A A1 n c n1 c1 r.num 0 _ ?_ ?_ (by omega) (by omega)).mono ?_); (first | (with_reducible exact K1.at_ (by simp)) | (with_reducible exact K1.drew.at_ (by simp)) | (with_reducible exact (K1.drewN _).at_ (by simp))); (first | (with_reducible exact K1.at_ (by simp)) | (with_reducible exact K1.drew.at_ (by simp)) | (with_reducible exact (K1.drewN _).at_ (by simp))); rintro e2 w2 ⟨neg2, A2, n2, c2, rfl, I2, hb2⟩; (first | (with_reducible have K2 := (K1.next hb2).int I2) | (with_reducible have K2 := (K1.drew.next hb2).int I2) | (with_reducible have K2 := ((K1.drewN _).next hb2).int I2)); obtain ⟨⟨qa2, qb2, qc2, qd2⟩, _, _⟩ := (K2.blk (g := w.heap.size) (vs := [.bool neg, .slice A n c, .bool neg', .slice A' n' c']) (by simp)).four; obtain ⟨za2, zb2, _, _, _⟩ := (K2.blk (g := g3) (vs := [.bool neg1, .slice A1 n1 c1]) (by simp)).two; obtain ⟨⟨ra2, rb2, rc2, rd2⟩, ⟨re2, rf2, rg2, rh2⟩, ri2⟩ := (K2.blk (g := w.heap.size + 1) (vs := [.bool false, .slice none 0 0, .bool false, .slice none 0 0]) (by simp)).four; clear I2 hb2)
      | (go_at_call 67; (with_reducible refine (ex_plus_any neg' neg1 A' A1 n' c' n1 c1 (r.den : Int) 0 _ ?_ ?_ (by omega) (by omega)).mono ?_); (first | (with_reducible exact K2.at_ (by simp)) | (with_reducible exact K2.drew.at_ (by simp)) | (with_reducible exact (K2.drewN _).at_ (by simp))); (first | (with_reducible exact K2.at_ (by simp)) | (with_reducible exact K2.drew.at_ (by simp)) | (with_reducible exact (K2.drewN _).at_ (by simp))); rintro e3 w3 ⟨neg3, A3, n3, c3, rfl, I3, hb3⟩; (first | (with_reducible have K3 := (K2.next hb3).int I3) | (with_reducible have K3 := (K2.drew.next hb3).int I3) | (with_reducible have K3 := ((K2.drewN _).next hb3).int I3)); obtain ⟨⟨qa3, qb3, qc3, qd3⟩, _, _⟩ := (K3.blk (g := w.heap.size) (vs := [.bool neg, .slice A n c, .bool neg', .slice A' n' c']) (by simp)).four; obtain ⟨za3, zb3, _, _, _⟩ := (K3.blk (g := g3) (vs := [.bool neg1, .slice A1 n1 c1]) (by simp)).two; obtain ⟨⟨ra3, rb3, rc3, rd3⟩, ⟨re3, rf3, rg3, rh3⟩, ri3⟩ := (K3.blk (g := w.heap.size + 1) (vs := [.bool false, .slice none 0 0, .bool false, .slice none 0 0]) (by simp)).four; clear I3 hb3)
      | fail)
  all_goals
   rw [Int.add_zero, Int.add_zero] at K3
   go_wp2_with fail
   have KE := (K3.pick (L' := [(w.heap.size + 1, [.bool false, .slice none 0 0, .bool false, .slice none 0 0])]) (l' := [(neg2, A2, n2, c2, r.num), (neg3, A3, n3, c3, (r.den : Int))]) (by simp) (by simp)).set4 (by simp <;> omega) neg2 A2 n2 c2 neg3 A3 n3 c3
   exact bodyPost_ret (v := .agg #[.bool neg2, .slice A2 n2 c2, .bool neg3, .slice A3 n3 c3]) (by simp [results, Try.results35, go_sem, ra3, rb3, rc3, rd3]) rfl ⟨_, _, _, _, _, _, _, _, rfl, KE.at_ (by simp), KE.at_ (by simp), KE.1⟩
/-- A fraction as an answer, with no error. -/
def RetFo (W : World) (x : Rat) (e : Ending) (w' : World) : Prop :=
  ∃ (neg : Bool) (A : Option Addr) (n c : Nat) (neg' : Bool) (A' : Option Addr) (n' c' : Nat), e = .returned (.tuple #[.agg #[.bool neg, .slice A n c, .bool neg', .slice A' n' c'], .int .i64 0]) ∧ IsInt w' neg A n c x.num ∧ IsInt w' neg' A' n' c' (x.den : Int) ∧ Below W.heap.size W w'
set_option maxRecDepth 100000 in
set_option maxHeartbeats 1600000 in
theorem frac_answered_any (neg neg' : Bool) (A A' : Option Addr) (n c n' c' : Nat) (r : Rat) (w : World) (hx : IsInt w neg A n c r.num) (hx' : IsInt w neg' A' n' c' (r.den : Int)) (hs : Sz r 2048) :
    Calls Try.prog 98 #[.agg #[.bool neg, .slice A n c, .bool neg', .slice A' n' c']] w (RetFo w r) := by
  have hn := int_len hx hs.1
  have hn' := int_len hx' hs.2
  have K0 := (((((Mm.nil w).int hx).int hx').var (g := w.heap.size) rfl [.bool neg, .slice A n c, .bool neg', .slice A' n' c'] 26).var (g := w.heap.size + 1) (by simp) [.bool false, .slice none 0 0, .bool false, .slice none 0 0] 26)
  clear hx hx' hs
  go_enter Try.func98, Try.ntmps98
  go_wp2_with fail
  refine (rat_answer_no (w.heap.size + 1 + 1) neg neg' A A' n c n' c' _ (by simp) (by simp [go_sem]) (by simp [go_sem]) (by simp [go_sem]) (by simp [go_sem]) hn hn').mono ?_
  rintro e1 w1 ⟨rfl, hb1⟩
  have K1 := (K0.box (.cells #[.bool neg, .slice A n c, .bool neg', .slice A' n' c'] 26)).next hb1
  clear K0 hb1
  obtain ⟨⟨qa1, qb1, qc1, qd1⟩, _, _⟩ := (K1.blk (g := w.heap.size) (vs := [.bool neg, .slice A n c, .bool neg', .slice A' n' c']) (by simp)).four
  go_wp2_with fail
  refine (rat_copy_any neg neg' A A' n c n' c' r _ (K1.at_ (by simp)) (K1.at_ (by simp)) hn hn').mono ?_
  rintro e2 w2 ⟨neg2, A2, n2, c2, neg3, A3, n3, c3, rfl, I2, J2, hb2⟩
  have K2 := ((K1.next hb2).int J2).int I2
  clear K1 hb2 I2 J2
  obtain ⟨⟨ra3, rb3, rc3, rd3⟩, ⟨re3, rf3, rg3, rh3⟩, ri3⟩ := (K2.blk (g := w.heap.size + 1) (vs := [.bool false, .slice none 0 0, .bool false, .slice none 0 0]) (by simp)).four
  go_wp2_with fail
  have KE := (K2.pick (L' := [(w.heap.size + 1, [.bool false, .slice none 0 0, .bool false, .slice none 0 0])]) (l' := [(neg2, A2, n2, c2, r.num), (neg3, A3, n3, c3, (r.den : Int))]) (by simp) (by simp)).set4 (by simp <;> omega) neg2 A2 n2 c2 neg3 A3 n3 c3
  exact bodyPost_ret (v := .tuple #[.agg #[.bool neg2, .slice A2 n2 c2, .bool neg3, .slice A3 n3 c3], .int .i64 0]) (by simp [results, Try.results98, go_sem, ra3, rb3, rc3, rd3]) rfl ⟨_, _, _, _, _, _, _, _, rfl, KE.at_ (by simp), KE.at_ (by simp), KE.1⟩
end Go.Proofs.Ytdmdaoginojalaa
