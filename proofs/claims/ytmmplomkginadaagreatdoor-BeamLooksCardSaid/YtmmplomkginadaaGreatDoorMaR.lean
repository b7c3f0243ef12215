/-
  The references' fractions (polestarref02): nought, small ones, one; are two of one worth.
  The references' complex numbers (polestarref03): sums, norms, mirrored ones, fractions; polestarref09.cross.
  May all of these fractions be? (polestarref02.Checks)
  The references' fractions (polestarref02): signs.
  May a complex number, a beam, a matrix be? (the references)
-/
import Derived.Test.YtmmplomkginadaaGreatDoorFrS
import Derived.Test.YtmmplomkginadaaGreatDoorAnD
namespace Go.Proofs.YtmmplomkginadaaGreatDoor
open Go.RowKit

set_option maxRecDepth 100000 in
set_option maxHeartbeats 3200000 in
theorem ref2_nou_any (w : World) : Calls Tryz.prog 137 #[] w (RetFr w 0) := by
  have K0 := (Mm.nil w).var (g := w.heap.size) rfl [.bool false, .slice none 0 0, .bool false, .slice none 0 0] 26
  go_enter Tryz.func137, Tryz.ntmps137
  go_wp2_with fail
  refine (ref_of_any 1 _ (by decide)).mono ?_
  rintro e1 w1 ⟨neg1, A1, n1, c1, rfl, I1, hb1⟩
  have K1 := (K0.next hb1).int I1
  obtain ⟨⟨qa1r, qb1r, qc1r, qd1r⟩, ⟨qe1r, qf1r, qg1r, qh1r⟩, qi1r⟩ := (K1.blk (g := w.heap.size) (vs := [.bool false, .slice none 0 0, .bool false, .slice none 0 0]) (by simp)).four
  clear I1 hb1
  go_wp2_with fail
  have KE := K1.set4 (by simp) false none 0 0 neg1 A1 n1 c1
  exact bodyPost_ret (v := .agg #[.bool false, .slice none 0 0, .bool neg1, .slice A1 n1 c1]) (by simp [results, Tryz.results137, go_sem, qa1r, qb1r, qc1r, qd1r]) rfl ⟨false, none, 0, 0, neg1, A1, n1, c1, rfl, isInt_nought, KE.at_ (by simp), KE.1⟩

end Go.Proofs.YtmmplomkginadaaGreatDoor

namespace Go.Proofs.YtmmplomkginadaaGreatDoor
open Go.RowKit

set_option maxRecDepth 100000 in
set_option maxHeartbeats 6400000 in
theorem ga_norm_any (sa za : Bool) (Aa Ba : Option Addr) (na ca ma da : Nat) (xa : Rat) (sb zb : Bool) (Ab Bb : Option Addr) (nb cb mb db : Nat) (xb : Rat) (M : Nat) (w : World) (ha : IsInt w sa Aa na ca xa.num) (ia : IsInt w za Ba ma da (xa.den : Int)) (ya : Sz xa M) (hb : IsInt w sb Ab nb cb xb.num) (ib : IsInt w zb Bb mb db (xb.den : Int)) (yb : Sz xb M) (hM : M ≤ 100000) :
    Calls Tryz.prog 140 #[.agg #[.bool sa, .slice Aa na ca, .bool za, .slice Ba ma da, .bool sb, .slice Ab nb cb, .bool zb, .slice Bb mb db]] w (RetFr w ((xa * xa) + (xb * xb))) := by
  have K0 := (((((((Mm.nil w).int ha).int ia).int hb).int ib).var (g := w.heap.size) rfl [.bool sa, .slice Aa na ca, .bool za, .slice Ba ma da, .bool sb, .slice Ab nb cb, .bool zb, .slice Bb mb db] 30).var (g := w.heap.size + 1) (by simp) [.bool false, .slice none 0 0, .bool false, .slice none 0 0] 26)
  have Ya := Lib.hid ya
  have Yb := Lib.hid yb
  have HS1 : Hid (Sz (xa * xa) (2 * M + 0)) := Lib.hid ((Sz.mul Ya.out Ya.out).mono (by omega))
  have HS2 : Hid (Sz (xb * xb) (2 * M + 0)) := Lib.hid ((Sz.mul Yb.out Yb.out).mono (by omega))
  have HS3 : Hid (Sz ((xa * xa) + (xb * xb)) (4 * M + 1)) := Lib.hid ((Sz.add HS1.out HS2.out).mono (by omega))
  clear ha ia ya hb ib yb
  have ne01 : ¬ w.heap.size = w.heap.size + 1 := by omega
  have ne10 : ¬ w.heap.size + 1 = w.heap.size := by omega
  go_enter Tryz.func140, Tryz.ntmps140
  go_wp2_with fail
  generalize (w.alloc (.cells #[.bool sa, .slice Aa na ca, .bool za, .slice Ba ma da, .bool sb, .slice Ab nb cb, .bool zb, .slice Bb mb db] 30)).alloc (.cells #[.bool false, .slice none 0 0, .bool false, .slice none 0 0] 26) = w0 at K0 ⊢
  obtain ⟨q0_0x, q1_0x, q2_0x, q3_0x, q4_0x, q5_0x, q6_0x, q7_0x⟩ := (K0.blk (g := w.heap.size) (vs := [.bool sa, .slice Aa na ca, .bool za, .slice Ba ma da, .bool sb, .slice Ab nb cb, .bool zb, .slice Bb mb db]) (by simp)).c8
  go_region_held3 (fun w' => w'.cell? ⟨w.heap.size, 0, none⟩ = some (.bool sa) ∧ w'.cell? ⟨w.heap.size, 1, none⟩ = some (.slice Aa na ca) ∧ w'.cell? ⟨w.heap.size, 2, none⟩ = some (.bool za) ∧ w'.cell? ⟨w.heap.size, 3, none⟩ = some (.slice Ba ma da) ∧ w'.cell? ⟨w.heap.size, 4, none⟩ = some (.bool sb) ∧ w'.cell? ⟨w.heap.size, 5, none⟩ = some (.slice Ab nb cb) ∧ w'.cell? ⟨w.heap.size, 6, none⟩ = some (.bool zb) ∧ w'.cell? ⟨w.heap.size, 7, none⟩ = some (.slice Bb mb db))
    (go_keep)
    (first
      | (go_at_call 240; (with_reducible refine (ref2_times_any sa za Aa Ba na ca ma da sa za Aa Ba na ca ma da xa xa (xa * xa) M M _ ?_ ?_ ?_ ?_ Ya.out Ya.out (by omega) (Lib.hid rfl)).mono ?_); (first | (with_reducible exact K0.at_ (List.mem_of_getElem? (i := 3) rfl)) | (with_reducible exact K0.drew.at_ (List.mem_of_getElem? (i := 3) rfl)) | (with_reducible exact (K0.drewN _).at_ (List.mem_of_getElem? (i := 3) rfl))); (first | (with_reducible exact K0.at_ (List.mem_of_getElem? (i := 2) rfl)) | (with_reducible exact K0.drew.at_ (List.mem_of_getElem? (i := 2) rfl)) | (with_reducible exact (K0.drewN _).at_ (List.mem_of_getElem? (i := 2) rfl))); (first | (with_reducible exact K0.at_ (List.mem_of_getElem? (i := 3) rfl)) | (with_reducible exact K0.drew.at_ (List.mem_of_getElem? (i := 3) rfl)) | (with_reducible exact (K0.drewN _).at_ (List.mem_of_getElem? (i := 3) rfl))); (first | (with_reducible exact K0.at_ (List.mem_of_getElem? (i := 2) rfl)) | (with_reducible exact K0.drew.at_ (List.mem_of_getElem? (i := 2) rfl)) | (with_reducible exact (K0.drewN _).at_ (List.mem_of_getElem? (i := 2) rfl))); rintro e1 w1 ⟨neg1, A1, n1, c1, ne1, B1, m1, d1, rfl, IHS1, JHS1, hb1⟩; (first | (with_reducible have K1 := (((K0.next hb1).int JHS1).int IHS1)) | (with_reducible have K1 := (((K0.drew.next hb1).int JHS1).int IHS1)) | (with_reducible have K1 := ((((K0.drewN _).next hb1).int JHS1).int IHS1))); obtain ⟨q0_1x, q1_1x, q2_1x, q3_1x, q4_1x, q5_1x, q6_1x, q7_1x⟩ := (K1.blk (g := w.heap.size) (vs := [.bool sa, .slice Aa na ca, .bool za, .slice Ba ma da, .bool sb, .slice Ab nb cb, .bool zb, .slice Bb mb db]) (List.mem_of_getElem? (i := 1) rfl)).c8; clear IHS1 JHS1 hb1)
      | (go_at_call 240; (with_reducible refine (ref2_times_any sb zb Ab Bb nb cb mb db sb zb Ab Bb nb cb mb db xb xb (xb * xb) M M _ ?_ ?_ ?_ ?_ Yb.out Yb.out (by omega) (Lib.hid rfl)).mono ?_); (first | (with_reducible exact K1.at_ (List.mem_of_getElem? (i := 3) rfl)) | (with_reducible exact K1.drew.at_ (List.mem_of_getElem? (i := 3) rfl)) | (with_reducible exact (K1.drewN _).at_ (List.mem_of_getElem? (i := 3) rfl))); (first | (with_reducible exact K1.at_ (List.mem_of_getElem? (i := 2) rfl)) | (with_reducible exact K1.drew.at_ (List.mem_of_getElem? (i := 2) rfl)) | (with_reducible exact (K1.drewN _).at_ (List.mem_of_getElem? (i := 2) rfl))); (first | (with_reducible exact K1.at_ (List.mem_of_getElem? (i := 3) rfl)) | (with_reducible exact K1.drew.at_ (List.mem_of_getElem? (i := 3) rfl)) | (with_reducible exact (K1.drewN _).at_ (List.mem_of_getElem? (i := 3) rfl))); (first | (with_reducible exact K1.at_ (List.mem_of_getElem? (i := 2) rfl)) | (with_reducible exact K1.drew.at_ (List.mem_of_getElem? (i := 2) rfl)) | (with_reducible exact (K1.drewN _).at_ (List.mem_of_getElem? (i := 2) rfl))); rintro e2 w2 ⟨neg2, A2, n2, c2, ne2, B2, m2, d2, rfl, IHS2, JHS2, hb2⟩; (first | (with_reducible have K2 := (((K1.next hb2).int JHS2).int IHS2)) | (with_reducible have K2 := (((K1.drew.next hb2).int JHS2).int IHS2)) | (with_reducible have K2 := ((((K1.drewN _).next hb2).int JHS2).int IHS2))); obtain ⟨q0_2x, q1_2x, q2_2x, q3_2x, q4_2x, q5_2x, q6_2x, q7_2x⟩ := (K2.blk (g := w.heap.size) (vs := [.bool sa, .slice Aa na ca, .bool za, .slice Ba ma da, .bool sb, .slice Ab nb cb, .bool zb, .slice Bb mb db]) (List.mem_of_getElem? (i := 1) rfl)).c8; clear IHS2 JHS2 hb2)
      | (go_at_call 136; (with_reducible refine (ref2_plus_any neg1 ne1 A1 B1 n1 c1 m1 d1 neg2 ne2 A2 B2 n2 c2 m2 d2 (xa * xa) (xb * xb) ((xa * xa) + (xb * xb)) (2 * M + 0) (2 * M + 0) _ ?_ ?_ ?_ ?_ HS1.out HS2.out (by omega) (Lib.hid rfl)).mono ?_); (first | (with_reducible exact K2.at_ (List.mem_of_getElem? (i := 2) rfl)) | (with_reducible exact K2.drew.at_ (List.mem_of_getElem? (i := 2) rfl)) | (with_reducible exact (K2.drewN _).at_ (List.mem_of_getElem? (i := 2) rfl))); (first | (with_reducible exact K2.at_ (List.mem_of_getElem? (i := 3) rfl)) | (with_reducible exact K2.drew.at_ (List.mem_of_getElem? (i := 3) rfl)) | (with_reducible exact (K2.drewN _).at_ (List.mem_of_getElem? (i := 3) rfl))); (first | (with_reducible exact K2.at_ (List.mem_of_getElem? (i := 0) rfl)) | (with_reducible exact K2.drew.at_ (List.mem_of_getElem? (i := 0) rfl)) | (with_reducible exact (K2.drewN _).at_ (List.mem_of_getElem? (i := 0) rfl))); (first | (with_reducible exact K2.at_ (List.mem_of_getElem? (i := 1) rfl)) | (with_reducible exact K2.drew.at_ (List.mem_of_getElem? (i := 1) rfl)) | (with_reducible exact (K2.drewN _).at_ (List.mem_of_getElem? (i := 1) rfl))); rintro e3 w3 ⟨neg3, A3, n3, c3, ne3, B3, m3, d3, rfl, IHS3, JHS3, hb3⟩; (first | (with_reducible have K3 := (((K2.next hb3).int JHS3).int IHS3)) | (with_reducible have K3 := (((K2.drew.next hb3).int JHS3).int IHS3)) | (with_reducible have K3 := ((((K2.drewN _).next hb3).int JHS3).int IHS3))); obtain ⟨q0_3x, q1_3x, q2_3x, q3_3x, q4_3x, q5_3x, q6_3x, q7_3x⟩ := (K3.blk (g := w.heap.size) (vs := [.bool sa, .slice Aa na ca, .bool za, .slice Ba ma da, .bool sb, .slice Ab nb cb, .bool zb, .slice Bb mb db]) (List.mem_of_getElem? (i := 1) rfl)).c8; obtain ⟨⟨qa3r, qb3r, qc3r, qd3r⟩, ⟨qe3r, qf3r, qg3r, qh3r⟩, qi3r⟩ := (K3.blk (g := w.heap.size + 1) (vs := [.bool false, .slice none 0 0, .bool false, .slice none 0 0]) (List.mem_of_getElem? (i := 0) rfl)).four; clear IHS3 JHS3 hb3))
  all_goals
   go_wp2_with fail
   have KE := (K3.pick (L' := [(w.heap.size + 1, [.bool false, .slice none 0 0, .bool false, .slice none 0 0])]) (l' := [(neg3, A3, n3, c3, (((xa * xa) + (xb * xb)) : Rat).num), (ne3, B3, m3, d3, (((((xa * xa) + (xb * xb)) : Rat).den : Nat) : Int))]) (by simp) (by simp)).set4 (by simp <;> omega) neg3 A3 n3 c3 ne3 B3 m3 d3
   exact bodyPost_ret (v := .agg #[.bool neg3, .slice A3 n3 c3, .bool ne3, .slice B3 m3 d3]) (by simp [results, Tryz.results140, go_sem, qa3r, qb3r, qc3r, qd3r]) rfl ⟨_, _, _, _, _, _, _, _, rfl, KE.at_ (by simp), KE.at_ (by simp), KE.1⟩

end Go.Proofs.YtmmplomkginadaaGreatDoor

namespace Go.Proofs.YtmmplomkginadaaGreatDoor
open Go.RowKit

set_option maxRecDepth 100000 in
set_option maxHeartbeats 3200000 in
theorem ref2_checks_any (g N c : Nat) (F : Nat → LmE) (w : World) (hL : Lfs w g N F) (hN : N ≤ 1000) (hc : N ≤ c) :
    Calls Tryz.prog 179 #[.slice (some ⟨g, 0, none⟩) N c] w (RetV w (.bool (okAll F N))) := by
  have hg := hL.1
  go_enter Tryz.func179, Tryz.ntmps179
  go_wp2_with fail
  go_loopw [3] (fun i wr => ∃ k : Nat, k ≤ N ∧ i = .int .i64 (k : Int) ∧ Hid (okAll F k = true) ∧ Below w.heap.size w wr) (fun i _ => N - (intOf i).toNat)
  case atStart => exact ⟨0, Nat.zero_le _, rfl, Lib.hid rfl, Below.refl _ _⟩
  case round =>
    obtain ⟨k, hk, rfl, HK, hb⟩ := hrel
    have hsz := hb.size
    by_cases hlt : k < N
    · obtain ⟨hg1, hall⟩ := hL.next hb
      obtain ⟨⟨a0, a1, a2, a3⟩, hS, hS', hn, hn'⟩ := hall k hlt
      have HCk := Lib.hid (okB_chk (F k))
      have HOK : Hid (okAll F (k + 1) = (okAll F k && okB (F k))) := Lib.hid rfl
      have HNO : Hid (okB (F k) = false → okAll F N = false) := Lib.hid (okAll_no hlt)
      obtain ⟨f, hf⟩ : ∃ f, F k = f := ⟨_, rfl⟩
      rw [hf] at a0 a1 a2 a3 hS hS' hn hn' HCk HOK HNO
      obtain ⟨⟨neg, A, n, c1, l⟩, neg', A', n', c1', l'⟩ := f
      simp only at a0 a1 a2 a3 hS hS' hn hn' HCk
      have hlt' : (k : Int) < (N : Int) := by omega
      have hk0 : (0 : Int) ≤ (k : Int) := Int.natCast_nonneg _
      clear hall hf
      go_wp2_with fail
      refine (ref2_check neg neg' A A' n c1 n' c1' l l' _ hS hS' hn hn').mono ?_
      rintro e1 w1 ⟨rfl, hb1⟩
      obtain ⟨b, hob⟩ : ∃ b, okB ((neg, A, n, c1, l), (neg', A', n', c1', l')) = b := ⟨_, rfl⟩
      rw [hob] at HCk HOK HNO
      rw [HCk.out]
      clear hob
      cases b with
      | false =>
        have HF : Hid (okAll F N = false) := Lib.hid (HNO.out rfl)
        go_wp2_with fail
        go_ret
        exact ⟨by rw [HF.out]; rfl, below_next hb hb1⟩
      | true =>
        go_wp2_with fail
        refine ⟨⟨k + 1, hlt, congrArg (Value.int .i64) (by omega), Lib.hid (by rw [HOK.out, HK.out]; rfl), below_next hb hb1⟩, ?_⟩
        simp [intOf]
        omega
    · obtain rfl : k = N := by omega
      have hnl : ¬ (k : Int) < (k : Int) := by omega
      go_wp2_with fail
      go_ret
      exact ⟨by rw [HK.out]; rfl, hb⟩
end Go.Proofs.YtmmplomkginadaaGreatDoor

namespace Go.Proofs.YtmmplomkginadaaGreatDoor
open Go.RowKit

set_option maxRecDepth 100000 in
set_option maxHeartbeats 800000 in
theorem ref2_sign_any (neg neg' : Bool) (A A' : Option Addr) (n c n' c' : Nat) (x : Rat) (v : Int) (w : World) (hx : IsInt w neg A n c x.num) (hx' : IsInt w neg' A' n' c' (x.den : Int)) (hv : Hid (x.num.sign = v)) :
    Calls Tryz.prog 65 #[.agg #[.bool neg, .slice A n c, .bool neg', .slice A' n' c']] w (RetV w (.int .i64 v)) := by
  have K0 := (((((Mm.nil w).int hx).int hx').var (g := w.heap.size) rfl [.bool neg, .slice A n c, .bool neg', .slice A' n' c'] 26))
  clear hx hx'
  go_enter Tryz.func65, Tryz.ntmps65
  go_wp2_with fail
  refine (ref_sign_of neg A n c x.num v _ (K0.at_ (by simp)) hv).mono ?_
  rintro e4 w4 ⟨rfl, hb4⟩
  have K4 := K0.next hb4
  go_wp2_with fail
  go_ret
  exact ⟨rfl, K4.1⟩

end Go.Proofs.YtmmplomkginadaaGreatDoor

namespace Go.Proofs.YtmmplomkginadaaGreatDoor
open Go.RowKit

set_option maxRecDepth 100000 in
set_option maxHeartbeats 6400000 in
theorem ref3_may_any (sa : Bool) (Aa : Option Addr) (na ca : Nat) (la : List Nat) (za : Bool) (Ba : Option Addr) (ma da : Nat) (ka : List Nat) (sb : Bool) (Ab : Option Addr) (nb cb : Nat) (lb : List Nat) (zb : Bool) (Bb : Option Addr) (mb db : Nat) (kb : List Nat) (w : World) (ha : LmE.at_ w ((sa, Aa, na, ca, la), (za, Ba, ma, da, ka))) (hb : LmE.at_ w ((sb, Ab, nb, cb, lb), (zb, Bb, mb, db, kb))) :
    Calls Tryz.prog 64 #[.agg #[.bool sa, .slice Aa na ca, .bool za, .slice Ba ma da, .bool sb, .slice Ab nb cb, .bool zb, .slice Bb mb db]] w (RetV w (.bool (okB ((sa, Aa, na, ca, la), (za, Ba, ma, da, ka)) && okB ((sb, Ab, nb, cb, lb), (zb, Bb, mb, db, kb))))) := by
  have hb0 : Below w.heap.size w (w.alloc (.cells #[.bool sa, .slice Aa na ca, .bool za, .slice Ba ma da, .bool sb, .slice Ab nb cb, .bool zb, .slice Bb mb db] 30)) := (Below.refl _ _).alloc (Nat.le_refl _) _
  have hL : Lfs ((w.alloc (.cells #[.bool sa, .slice Aa na ca, .bool za, .slice Ba ma da, .bool sb, .slice Ab nb cb, .bool zb, .slice Bb mb db] 30)).alloc (.cells #[.bool sa, .slice Aa na ca, .bool za, .slice Ba ma da, .bool sb, .slice Ab nb cb, .bool zb, .slice Bb mb db] 26)) (w.heap.size + 1) 2 (two ((sa, Aa, na, ca, la), (za, Ba, ma, da, ka)) ((sb, Ab, nb, cb, lb), (zb, Bb, mb, db, kb))) := lfs_two _ (by simp) _ (LmE.at_.below ha hb0) (LmE.at_.below hb hb0)
  have HL := Lib.hid hL
  have HO := Lib.hid (okAll_two ((sa, Aa, na, ca, la), (za, Ba, ma, da, ka)) ((sb, Ab, nb, cb, lb), (zb, Bb, mb, db, kb)))
  clear ha hb hL
  go_enter Tryz.func64, Tryz.ntmps64
  go_wp2_with fail
  refine (ref2_checks_any (w.heap.size + 1) 2 2 (two ((sa, Aa, na, ca, la), (za, Ba, ma, da, ka)) ((sb, Ab, nb, cb, lb), (zb, Bb, mb, db, kb))) _ HL.out (by decide) (by decide)).mono ?_
  rintro e1 w1 ⟨rfl, hb1⟩
  rw [HO.out]
  go_wp2_with fail
  go_ret
  exact ⟨rfl, below_box2 hb1⟩

set_option maxRecDepth 100000 in
set_option maxHeartbeats 6400000 in
theorem ref15_check_any (sa : Bool) (Aa : Option Addr) (na ca : Nat) (la : List Nat) (za : Bool) (Ba : Option Addr) (ma da : Nat) (ka : List Nat) (sb : Bool) (Ab : Option Addr) (nb cb : Nat) (lb : List Nat) (zb : Bool) (Bb : Option Addr) (mb db : Nat) (kb : List Nat) (w : World) (ha : LmE.at_ w ((sa, Aa, na, ca, la), (za, Ba, ma, da, ka))) (hb : LmE.at_ w ((sb, Ab, nb, cb, lb), (zb, Bb, mb, db, kb))) :
    Calls Tryz.prog 18 #[.agg #[.bool sa, .slice Aa na ca, .bool za, .slice Ba ma da, .bool sb, .slice Ab nb cb, .bool zb, .slice Bb mb db]] w (RetV w (.int .i64 (chkBm ((sa, Aa, na, ca, la), (za, Ba, ma, da, ka)) ((sb, Ab, nb, cb, lb), (zb, Bb, mb, db, kb))))) := by
  have K0 := (Mm.nil w).var (g := w.heap.size) rfl [.bool sa, .slice Aa na ca, .bool za, .slice Ba ma da, .bool sb, .slice Ab nb cb, .bool zb, .slice Bb mb db] 30
  have ha0 := LmE.at_.below ha K0.1
  have hb0 := LmE.at_.below hb K0.1
  clear ha hb
  obtain ⟨o, ho⟩ : ∃ o, (okB ((sa, Aa, na, ca, la), (za, Ba, ma, da, ka)) && okB ((sb, Ab, nb, cb, lb), (zb, Bb, mb, db, kb))) = o := ⟨_, rfl⟩
  have HC : Hid (chkBm ((sa, Aa, na, ca, la), (za, Ba, ma, da, ka)) ((sb, Ab, nb, cb, lb), (zb, Bb, mb, db, kb)) = if o then (if 0 < rv ((sb, Ab, nb, cb, lb), (zb, Bb, mb, db, kb)) then 0 else 8) else 1) := Lib.hid (by unfold chkBm; rw [ho])
  go_enter Tryz.func18, Tryz.ntmps18
  go_wp2_with fail
  refine (ref3_may_any sa Aa na ca la za Ba ma da ka sb Ab nb cb lb zb Bb mb db kb _ ha0 hb0).mono ?_
  rintro e1 w1 ⟨rfl, hb1⟩
  rw [ho]
  have K1 := K0.next hb1
  have hb2 := LmE.at_.below hb0 hb1
  obtain ⟨q0, q1, q2, q3, q4, q5, q6, q7⟩ := (K1.blk (g := w.heap.size) (vs := [.bool sa, .slice Aa na ca, .bool za, .slice Ba ma da, .bool sb, .slice Ab nb cb, .bool zb, .slice Bb mb db]) (by simp)).c8
  cases o with
  | false =>
    go_wp2_with fail
    go_ret
    exact ⟨by rw [HC.out]; rfl, K1.1⟩
  | true =>
    have hbb : okB ((sb, Ab, nb, cb, lb), (zb, Bb, mb, db, kb)) = true := (Bool.and_eq_true _ _ ▸ ho).2
    obtain ⟨i1, i2, _⟩ := ok_ints hbb hb2
    obtain ⟨g1, g2⟩ := rat_num_sign (rv ((sb, Ab, nb, cb, lb), (zb, Bb, mb, db, kb)))
    obtain ⟨xb, hxb⟩ : ∃ xb, rv ((sb, Ab, nb, cb, lb), (zb, Bb, mb, db, kb)) = xb := ⟨_, rfl⟩
    rw [hxb] at i1 i2 g1 g2 HC
    have I1 := Lib.hid i1
    have I2 := Lib.hid i2
    clear i1 i2 hb1 K0 ha0 hb0 hb2 ho hbb
    go_wp2_with fail
    by_cases hp : 0 < xb
    · refine (ref2_sign_any sb zb Ab Bb nb cb mb db xb 1 _ I1.out I2.out (Lib.hid (g1 hp))).mono ?_
      rintro e2 w2 ⟨rfl, hb3⟩
      go_wp2_with fail
      go_ret
      exact ⟨by rw [HC.out, if_pos (by trivial), if_pos hp]; rfl, (K1.next hb3).1⟩
    · rcases g2 hp with g | g
      · refine (ref2_sign_any sb zb Ab Bb nb cb mb db xb 0 _ I1.out I2.out (Lib.hid g)).mono ?_
        rintro e2 w2 ⟨rfl, hb3⟩
        go_wp2_with fail
        go_ret
        exact ⟨by rw [HC.out, if_pos (by trivial), if_neg hp]; rfl, (K1.next hb3).1⟩
      · refine (ref2_sign_any sb zb Ab Bb nb cb mb db xb (-1) _ I1.out I2.out (Lib.hid g)).mono ?_
        rintro e2 w2 ⟨rfl, hb3⟩
        go_wp2_with fail
        go_ret
        exact ⟨by rw [HC.out, if_pos (by trivial), if_neg hp]; rfl, (K1.next hb3).1⟩

end Go.Proofs.YtmmplomkginadaaGreatDoor
