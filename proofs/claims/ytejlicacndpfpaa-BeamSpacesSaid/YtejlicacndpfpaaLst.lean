/-
  The program's fractions (package ratio): quotients.
  All of a list written out, one by one.
-/
import Derived.Test.YtejlicacndpfpaaRaL
import Derived.Test.YtejlicacndpfpaaMaP
namespace Go.Proofs.Ytejlicacndpfpaa
open Go.RowKit

set_option maxRecDepth 100000 in
set_option maxHeartbeats 3200000 in
theorem rat_over_any (neg neg' : Bool) (A A' : Option Addr) (n c n' c' : Nat) (nfg nfg' : Bool) (C C' : Option Addr) (p q p' q' : Nat) (x y : Rat) (r : Rat) (m k : Nat) (w : World) (hx : IsInt w neg A n c x.num) (hx' : IsInt w neg' A' n' c' (x.den : Int)) (hy : IsInt w nfg C p q y.num) (hy' : IsInt w nfg' C' p' q' (y.den : Int)) (sx : Sz x m) (sy : Sz y k) (hm : m + k < 1000000) (h0 : y ≠ 0) (hr : Hid (x / y = r)) :
    Calls Try.prog 54 #[.agg #[.bool neg, .slice A n c, .bool neg', .slice A' n' c'], .agg #[.bool nfg, .slice C p q, .bool nfg', .slice C' p' q']] w (RetFr w r) := by
  have K0 := ((((((Mm.nil w).int hx).int hx').int hy).int hy').var (g := w.heap.size) rfl [.bool neg, .slice A n c, .bool neg', .slice A' n' c'] 26).var (g := w.heap.size + 1) (by simp) [.bool nfg, .slice C p q, .bool nfg', .slice C' p' q'] 26 |>.var (g := w.heap.size + 1 + 1) (by simp) [.bool false, .slice none 0 0, .bool false, .slice none 0 0] 26
  have hn := int_len hx sx.1
  have hn' := int_len hx' sx.2
  have hp := int_len hy sy.1
  have hp' := int_len hy' sy.2
  have HP1 : Hid ((x.num * (y.den : Int)).natAbs < 2 ^ (32 * (m + k))) := Lib.hid (by rw [Int.natAbs_mul]; exact mul_lt_pow sx.1 sy.2)
  have HP2 : Hid (((x.den : Int) * y.num).natAbs < 2 ^ (32 * (m + k))) := Lib.hid (by rw [Int.natAbs_mul]; exact mul_lt_pow sx.2 sy.1)
  have HD : Hid ((x.den : Int) * y.num ≠ 0) := Lib.hid (Int.mul_ne_zero (den_ne x) (fun h => h0 (Rat.num_eq_zero.1 h)))
  have HR : Hid (Rat.divInt (x.num * (y.den : Int)) ((x.den : Int) * y.num) = r) := Lib.hid (by rw [div_frac x y h0]; exact hr.out)
  clear hr h0
  clear hx hx' hy hy' sx sy
  go_enter Try.func54, Try.ntmps54
  go_wp2_with fail
  generalize ((w.alloc (.cells #[.bool neg, .slice A n c, .bool neg', .slice A' n' c'] 26)).alloc (.cells #[.bool nfg, .slice C p q, .bool nfg', .slice C' p' q'] 26)).alloc (.cells #[.bool false, .slice none 0 0, .bool false, .slice none 0 0] 26) = w0 at K0 ⊢
  obtain ⟨⟨qa0x, qb0x, qc0x, qd0x⟩, ⟨qe0x, qf0x, qg0x, qh0x⟩, qi0x⟩ := (K0.blk (g := w.heap.size) (vs := [.bool neg, .slice A n c, .bool neg', .slice A' n' c']) (by simp)).four
  obtain ⟨⟨qa0y, qb0y, qc0y, qd0y⟩, ⟨qe0y, qf0y, qg0y, qh0y⟩, qi0y⟩ := (K0.blk (g := w.heap.size + 1) (vs := [.bool nfg, .slice C p q, .bool nfg', .slice C' p' q']) (by simp)).four
  have e0a : ¬ w.heap.size + 1 + 1 = w.heap.size := by omega
  have e0b : ¬ w.heap.size = w.heap.size + 1 + 1 := by omega
  have e1a : ¬ w.heap.size + 1 + 1 = w.heap.size + 1 := by omega
  have e1b : ¬ w.heap.size + 1 = w.heap.size + 1 + 1 := by omega
  go_region_held3 (fun w' => w'.cell? ⟨w.heap.size, 0, none⟩ = some (.bool neg) ∧ w'.cell? ⟨w.heap.size, 1, none⟩ = some (.slice A n c) ∧ w'.cell? ⟨w.heap.size, 2, none⟩ = some (.bool neg') ∧ w'.cell? ⟨w.heap.size, 3, none⟩ = some (.slice A' n' c') ∧ w'.cell? ⟨w.heap.size + 1, 0, none⟩ = some (.bool nfg) ∧ w'.cell? ⟨w.heap.size + 1, 1, none⟩ = some (.slice C p q) ∧ w'.cell? ⟨w.heap.size + 1, 2, none⟩ = some (.bool nfg') ∧ w'.cell? ⟨w.heap.size + 1, 3, none⟩ = some (.slice C' p' q'))
    (go_keep)
    (first
      | (go_at_call 90; (with_reducible refine (ex_times_any neg nfg' A C' n c p' q' x.num (y.den : Int) _ ?_ ?_ (by omega) (by omega)).mono ?_); (first | (with_reducible exact K0.at_ (by simp)) | (with_reducible exact K0.drew.at_ (by simp)) | (with_reducible exact (K0.drewN _).at_ (by simp))); (first | (with_reducible exact K0.at_ (by simp)) | (with_reducible exact K0.drew.at_ (by simp)) | (with_reducible exact (K0.drewN _).at_ (by simp))); rintro e1 w1 ⟨neg1, A1, n1, c1, rfl, I1, hb1⟩; (first | (with_reducible have K1 := (K0.next hb1).int I1) | (with_reducible have K1 := (K0.drew.next hb1).int I1) | (with_reducible have K1 := ((K0.drewN _).next hb1).int I1)); have hn1 : n1 ≤ 1000000 := Nat.le_trans (int_len I1 HP1.out) (by omega); have Q1x := (K1.blk (g := w.heap.size) (vs := [.bool neg, .slice A n c, .bool neg', .slice A' n' c']) (by simp)).four; obtain ⟨⟨qa1x, qb1x, qc1x, qd1x⟩, ⟨qe1x, qf1x, qg1x, qh1x⟩, qi1x⟩ := Q1x; have Q1y := (K1.blk (g := w.heap.size + 1) (vs := [.bool nfg, .slice C p q, .bool nfg', .slice C' p' q']) (by simp)).four; obtain ⟨⟨qa1y, qb1y, qc1y, qd1y⟩, ⟨qe1y, qf1y, qg1y, qh1y⟩, qi1y⟩ := Q1y; have Q1r := (K1.blk (g := w.heap.size + 1 + 1) (vs := [.bool false, .slice none 0 0, .bool false, .slice none 0 0]) (by simp)).four; obtain ⟨⟨qa1r, qb1r, qc1r, qd1r⟩, ⟨qe1r, qf1r, qg1r, qh1r⟩, qi1r⟩ := Q1r; clear I1 hb1)
      | (go_at_call 90; (with_reducible refine (ex_times_any neg' nfg A' C n' c' p q (x.den : Int) y.num _ ?_ ?_ (by omega) (by omega)).mono ?_); (first | (with_reducible exact K1.at_ (by simp)) | (with_reducible exact K1.drew.at_ (by simp)) | (with_reducible exact (K1.drewN _).at_ (by simp))); (first | (with_reducible exact K1.at_ (by simp)) | (with_reducible exact K1.drew.at_ (by simp)) | (with_reducible exact (K1.drewN _).at_ (by simp))); rintro e2 w2 ⟨neg2, A2, n2, c2, rfl, I2, hb2⟩; (first | (with_reducible have K2 := (K1.next hb2).int I2) | (with_reducible have K2 := (K1.drew.next hb2).int I2) | (with_reducible have K2 := ((K1.drewN _).next hb2).int I2)); have hn2 : n2 ≤ 1000000 := Nat.le_trans (int_len I2 HP2.out) (by omega); have Q2x := (K2.blk (g := w.heap.size) (vs := [.bool neg, .slice A n c, .bool neg', .slice A' n' c']) (by simp)).four; obtain ⟨⟨qa2x, qb2x, qc2x, qd2x⟩, ⟨qe2x, qf2x, qg2x, qh2x⟩, qi2x⟩ := Q2x; have Q2y := (K2.blk (g := w.heap.size + 1) (vs := [.bool nfg, .slice C p q, .bool nfg', .slice C' p' q']) (by simp)).four; obtain ⟨⟨qa2y, qb2y, qc2y, qd2y⟩, ⟨qe2y, qf2y, qg2y, qh2y⟩, qi2y⟩ := Q2y; have Q2r := (K2.blk (g := w.heap.size + 1 + 1) (vs := [.bool false, .slice none 0 0, .bool false, .slice none 0 0]) (by simp)).four; obtain ⟨⟨qa2r, qb2r, qc2r, qd2r⟩, ⟨qe2r, qf2r, qg2r, qh2r⟩, qi2r⟩ := Q2r; clear I2 hb2)
      | (go_at_call 88; (with_reducible refine (rat_low_any neg1 neg2 A1 A2 n1 c1 n2 c2 (x.num * (y.den : Int)) ((x.den : Int) * y.num) r _ ?_ ?_ hn1 hn2 HD.out HR).mono ?_); (first | (with_reducible exact K2.at_ (by simp)) | (with_reducible exact K2.drew.at_ (by simp)) | (with_reducible exact (K2.drewN _).at_ (by simp))); (first | (with_reducible exact K2.at_ (by simp)) | (with_reducible exact K2.drew.at_ (by simp)) | (with_reducible exact (K2.drewN _).at_ (by simp))); rintro e3 w3 ⟨neg3, A3, n3, c3, ne3, B3, m3, d3, rfl, I3, J3, hb3⟩; (first | (with_reducible have K3 := ((K2.next hb3).int J3).int I3) | (with_reducible have K3 := ((K2.drew.next hb3).int J3).int I3) | (with_reducible have K3 := (((K2.drewN _).next hb3).int J3).int I3)); have Q3x := (K3.blk (g := w.heap.size) (vs := [.bool neg, .slice A n c, .bool neg', .slice A' n' c']) (by simp)).four; obtain ⟨⟨qa3x, qb3x, qc3x, qd3x⟩, ⟨qe3x, qf3x, qg3x, qh3x⟩, qi3x⟩ := Q3x; have Q3y := (K3.blk (g := w.heap.size + 1) (vs := [.bool nfg, .slice C p q, .bool nfg', .slice C' p' q']) (by simp)).four; obtain ⟨⟨qa3y, qb3y, qc3y, qd3y⟩, ⟨qe3y, qf3y, qg3y, qh3y⟩, qi3y⟩ := Q3y; have Q3r := (K3.blk (g := w.heap.size + 1 + 1) (vs := [.bool false, .slice none 0 0, .bool false, .slice none 0 0]) (by simp)).four; obtain ⟨⟨qa3r, qb3r, qc3r, qd3r⟩, ⟨qe3r, qf3r, qg3r, qh3r⟩, qi3r⟩ := Q3r; clear I3 J3 hb3))
  go_wp2_with fail
  have KE := (K3.pick (L' := [(w.heap.size + 1 + 1, [.bool false, .slice none 0 0, .bool false, .slice none 0 0])]) (l' := [(neg3, A3, n3, c3, r.num), (ne3, B3, m3, d3, (r.den : Int))]) (by simp) (by simp)).set4 (by simp <;> omega) neg3 A3 n3 c3 ne3 B3 m3 d3
  exact bodyPost_ret (v := .agg #[.bool neg3, .slice A3 n3 c3, .bool ne3, .slice B3 m3 d3]) (by simp [results, Try.results54, go_sem, qa3r, qb3r, qc3r, qd3r]) rfl ⟨_, _, _, _, _, _, _, _, rfl, KE.at_ (by simp), KE.at_ (by simp), KE.1⟩

end Go.Proofs.Ytejlicacndpfpaa

namespace Go.Proofs.Ytejlicacndpfpaa
theorem all_nil {α : Type} {p : α → Prop} : ∀ b ∈ ([] : List α), p b := fun _ h => absurd h (by simp)
theorem all_cons {α : Type} {p : α → Prop} {a : α} {l : List α} (h : p a) (k : ∀ b ∈ l, p b) : ∀ b ∈ a :: l, p b := fun b hb => by
  rcases List.mem_cons.1 hb with rfl | hb
  · exact h
  · exact k b hb
end Go.Proofs.Ytejlicacndpfpaa
