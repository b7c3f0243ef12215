/-
  The program's fractions (package ratio): small ones, one, signs.
-/
import Derived.Test.YtejlicacndpfpaaRaL
namespace Go.Proofs.Ytejlicacndpfpaa
open Go.RowKit

set_option maxRecDepth 100000 in
set_option maxHeartbeats 3200000 in
theorem rat_small_any (a b : Int) (r : Rat) (w : World) (ha : -9223372036854775808 ≤ a ∧ a ≤ 9223372036854775807) (hb : -9223372036854775808 ≤ b ∧ b ≤ 9223372036854775807) (h0 : b ≠ 0) (hr : Hid (Rat.divInt a b = r)) :
    Calls Try.prog 86 #[.int .i64 a, .int .i64 b] w (RetFr w r) := by
  have K0 := (Mm.nil w).var (g := w.heap.size) rfl [.bool false, .slice none 0 0, .bool false, .slice none 0 0] 26
  have HA : Hid (a.natAbs < 2 ^ (32 * 2)) := Lib.hid (by omega)
  have HB : Hid (b.natAbs < 2 ^ (32 * 2)) := Lib.hid (by omega)
  have H0 := Lib.hid h0
  clear h0
  go_enter Try.func86, Try.ntmps86
  go_wp2_with fail
  refine (ex_of_any a _ ha).mono ?_
  rintro e1 w1 ⟨neg1, A1, n1, c1, rfl, I1, hb1⟩
  have hn1 : n1 ≤ 2 := int_len I1 HA.out
  have K1 := (K0.next hb1).int I1
  clear I1 hb1 K0 ha
  go_wp2_with fail
  refine (ex_of_any b _ hb).mono ?_
  rintro e2 w2 ⟨neg2, A2, n2, c2, rfl, I2, hb2⟩
  have hn2 : n2 ≤ 2 := int_len I2 HB.out
  have K2 := (K1.next hb2).int I2
  clear I2 hb2 K1 hb
  go_wp2_with fail
  refine (rat_low_any neg1 neg2 A1 A2 n1 c1 n2 c2 a b r _ (K2.at_ (by simp)) (K2.at_ (by simp)) (by omega) (by omega) H0.out hr).mono ?_
  rintro e3 w3 ⟨neg3, A3, n3, c3, ne3, B3, m3, d3, rfl, I3, J3, hb3⟩
  have K3 := ((K2.next hb3).int J3).int I3
  obtain ⟨⟨qa3r, qb3r, qc3r, qd3r⟩, ⟨qe3r, qf3r, qg3r, qh3r⟩, qi3r⟩ := (K3.blk (g := w.heap.size) (vs := [.bool false, .slice none 0 0, .bool false, .slice none 0 0]) (by simp)).four
  clear I3 J3 hb3
  go_wp2_with fail
  have KE := (K3.pick (L' := [(w.heap.size, [.bool false, .slice none 0 0, .bool false, .slice none 0 0])]) (l' := [(neg3, A3, n3, c3, r.num), (ne3, B3, m3, d3, (r.den : Int))]) (by simp) (by simp)).set4 (by simp <;> omega) neg3 A3 n3 c3 ne3 B3 m3 d3
  exact bodyPost_ret (v := .agg #[.bool neg3, .slice A3 n3 c3, .bool ne3, .slice B3 m3 d3]) (by simp [results, Try.results86, go_sem, qa3r, qb3r, qc3r, qd3r]) rfl ⟨_, _, _, _, _, _, _, _, rfl, KE.at_ (by simp), KE.at_ (by simp), KE.1⟩

set_option maxRecDepth 100000 in
set_option maxHeartbeats 3200000 in
theorem rat_one_any (w : World) : Calls Try.prog 40 #[] w (RetFr w 1) := by
  have K0 := (Mm.nil w).var (g := w.heap.size) rfl [.bool false, .slice none 0 0, .bool false, .slice none 0 0] 26
  have HR : Hid (Rat.divInt 1 1 = 1) := Lib.hid (by decide +kernel)
  go_enter Try.func40, Try.ntmps40
  go_wp2_with fail
  refine (rat_small_any 1 1 1 _ (by decide) (by decide) (by decide) HR).mono ?_
  rintro e3 w3 ⟨neg3, A3, n3, c3, ne3, B3, m3, d3, rfl, I3, J3, hb3⟩
  have K3 := ((K0.next hb3).int J3).int I3
  obtain ⟨⟨qa3r, qb3r, qc3r, qd3r⟩, ⟨qe3r, qf3r, qg3r, qh3r⟩, qi3r⟩ := (K3.blk (g := w.heap.size) (vs := [.bool false, .slice none 0 0, .bool false, .slice none 0 0]) (by simp)).four
  clear I3 J3 hb3
  go_wp2_with fail
  have KE := (K3.pick (L' := [(w.heap.size, [.bool false, .slice none 0 0, .bool false, .slice none 0 0])]) (l' := [(neg3, A3, n3, c3, (1 : Rat).num), (ne3, B3, m3, d3, ((1 : Rat).den : Int))]) (by simp) (by simp)).set4 (by simp <;> omega) neg3 A3 n3 c3 ne3 B3 m3 d3
  exact bodyPost_ret (v := .agg #[.bool neg3, .slice A3 n3 c3, .bool ne3, .slice B3 m3 d3]) (by simp [results, Try.results40, go_sem, qa3r, qb3r, qc3r, qd3r]) rfl ⟨_, _, _, _, _, _, _, _, rfl, KE.at_ (by simp), KE.at_ (by simp), KE.1⟩

set_option maxRecDepth 100000 in
set_option maxHeartbeats 3200000 in
theorem rat_sign_any (neg neg' : Bool) (A A' : Option Addr) (n c n' c' : Nat) (x : Rat) (v : Int) (w : World) (hx : IsInt w neg A n c x.num) (hx' : IsInt w neg' A' n' c' (x.den : Int)) (hv : Hid (x.num.sign = v)) :
    Calls Try.prog 66 #[.agg #[.bool neg, .slice A n c, .bool neg', .slice A' n' c']] w (RetV w (.int .i64 v)) := by
  have K0 := ((((Mm.nil w).int hx).int hx').var (g := w.heap.size) rfl [.bool neg, .slice A n c, .bool neg', .slice A' n' c'] 26)
  clear hx hx'
  go_enter Try.func66, Try.ntmps66
  go_wp2_with fail
  refine (ex_sign_of neg A n c x.num v _ (K0.at_ (by simp)) hv).mono ?_
  rintro e4 w4 ⟨rfl, hb4⟩
  have K4 := K0.next hb4
  go_wp2_with fail
  go_ret
  exact ⟨rfl, K4.1⟩
end Go.Proofs.Ytejlicacndpfpaa
