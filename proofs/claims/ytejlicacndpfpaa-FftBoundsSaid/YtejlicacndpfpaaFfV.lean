/-
  Over a row in rounds (fft.steps).
-/
import Derived.Test.YtejlicacndpfpaaFfU
namespace Go.Proofs.Ytejlicacndpfpaa
open Go.RowKit

/-- Of two elements: what has been done with them, if it has been done. -/
def Two2 (zs0 : List (Nat × Nat)) (d : Prop) (zs : List (Nat × Nat)) : Prop := ∀ a b, zs0 = [a, b] → (d → ∃ r1 r2, zs = [r1, r2] ∧ StepR (uF (jF 0 1)) a b r1 r2) ∧ (¬ d → zs = [a, b])
theorem Two2.iff {zs0 zs : List (Nat × Nat)} {d d' : Prop} (h : Two2 zs0 d zs) (k : ∀ a b, zs0 = [a, b] → (d' ↔ d)) : Two2 zs0 d' zs := fun a b e =>
  ⟨fun x => (h a b e).1 ((k a b e).1 x), fun x => (h a b e).2 (fun y => x ((k a b e).2 y))⟩
theorem Two2.step {zs0 zs : List (Nat × Nat)} {N n r H M q F k : Nat} {way : Int} {za zb r1 r2 : Nat × Nat} (hl : zs0.length = N) (hN : 2 ^ n = N) (hr1 : 1 ≤ r) (hr : r ≤ n) (hH : 1 ≤ H) (hk : k < H) (hq : q < M) (hHM : 2 * H * M = N)
    (hF : 2 * H * q = F) (h : Two2 zs0 (r ≠ 1 ∨ q ≠ 0 ∨ k ≠ 0) zs) (ha : zs[F + k]? = some za) (hb : zs[F + (k + H)]? = some zb) (hs : StepR (uF (jF (wrap64 (way * (k : Int))) r)) za zb r1 r2) :
    Two2 zs0 (r ≠ 1 ∨ q ≠ 0 ∨ k + 1 ≠ 0) ((zs.set (F + k) r1).set (F + (k + H)) r2) := by
  rintro a b rfl
  obtain rfl : N = 2 := hl.symm
  have hn1 : n = 1 := by
    rcases Nat.lt_trichotomy n 1 with x | x | x
    · rw [show n = 0 by omega] at hN; exact absurd hN (by decide)
    · exact x
    · have := Nat.pow_le_pow_right (show 0 < 2 by decide) (show 2 ≤ n by omega); omega
  subst hn1
  obtain rfl : r = 1 := by omega
  have hM1 : 1 * 1 ≤ H * M := Nat.mul_le_mul hH (by omega)
  rw [Nat.mul_assoc] at hHM
  have hHM1 : H * M = 1 := by omega
  have hH1 : H = 1 := Nat.dvd_one.1 ⟨M, hHM1.symm⟩
  subst hH1
  rw [Nat.one_mul] at hHM1
  subst hHM1
  obtain rfl : q = 0 := by omega
  obtain rfl : k = 0 := by omega
  obtain rfl : F = 0 := by omega
  have hz := (h a b rfl).2 (by omega)
  subst hz
  injection ha with ha
  injection hb with hb
  subst ha hb
  refine ⟨fun _ => ⟨r1, r2, rfl, ?_⟩, fun x => absurd (Or.inr (Or.inr (by decide))) x⟩
  have e : wrap64 (way * ((0 : Nat) : Int)) = 0 := by simp [wrap64]
  rw [e] at hs
  exact hs
def RetSteps (W : World) (base G N : Nat) (zs0 : List (Nat × Nat)) (e : Ending) (w' : World) : Prop :=
  e = .returned (.bool true) ∧ ∃ zs : List (Nat × Nat), zs.length = N ∧ w'.ownsRow base 111 1 (.slice (some ⟨G, 0, none⟩) N N) N (cxs zs) ∧ Below base W w' ∧ Two2 zs0 True zs
theorem ffw {x : Int} (h0 : 0 ≤ x) (h1 : x ≤ 1000000) : IntKind.i64.wrap x = x := IntWalk.i64_in _ ⟨by omega, by omega⟩
theorem ffw64 {x : Int} (h0 : 0 ≤ x) (h1 : x ≤ 1000000) : wrap64 x = x := by unfold wrap64; omega
theorem ff_cast (F k : Nat) : ((F + 2 * k : Nat) : Int) = (F : Int) + 2 * (k : Int) := by omega
theorem ff_less {F k N : Nat} (h : F + 2 * k ≤ N) (hk : 1 ≤ k) : N - (intOf (.int .i64 ((F : Int) + 2 * (k : Int)))).toNat < N - (intOf (.int .i64 (F : Int))).toNat := by
  simp [intOf]
  omega
theorem half_facts {r n N : Nat} (h1 : 1 ≤ r) (h2 : r ≤ n) (hn : n ≤ 12) (hN : 2 ^ n = N) :
    ∃ H M : Nat, 1 ≤ H ∧ H ≤ 4096 ∧ wrap64 ((2 : Int) ^ (r - 1)) = (H : Int) ∧ IntKind.i64.wrap (2 * (H : Int)) = 2 * (H : Int) ∧ 2 * H * M = N := by
  have hle : 2 ^ (r - 1) ≤ 4096 := Nat.le_trans (Nat.pow_le_pow_right (by decide) (show r - 1 ≤ 12 by omega)) (by decide)
  have hpos : 1 ≤ 2 ^ (r - 1) := Nat.one_le_two_pow
  have hmul : 2 * 2 ^ (r - 1) * 2 ^ (n - r) = N := by
    rw [← hN, show n = 1 + (r - 1) + (n - r) by omega, Nat.pow_add, Nat.pow_add, Nat.pow_one, show 1 + (r - 1) + (n - r) - r = n - r by omega]
  have hi : (2 : Int) ^ (r - 1) = ((2 ^ (r - 1) : Nat) : Int) := by rw [Int.natCast_pow]; rfl
  rw [hi]
  generalize 2 ^ (r - 1) = H at *
  exact ⟨H, 2 ^ (n - r), hpos, hle, ffw64 (by omega) (by omega), ffw (by omega) (by omega), hmul⟩
theorem ffv_round {F k H N : Nat} (hk : k < H) (hle : F + 2 * H ≤ N) (hN : N ≤ 4096) :
    (k : Int) < (H : Int) ∧ (0 : Int) ≤ (k : Int) ∧ IntKind.i64.wrap ((k : Int) + (H : Int)) = (k : Int) + (H : Int) ∧ (k : Int) < 2 * (H : Int) ∧ (k : Int) + (H : Int) < 2 * (H : Int) ∧ (0 : Int) ≤ (k : Int) + (H : Int) ∧ F + k < N ∧ F + (k + H) < N ∧ F + k ≠ F + (k + H) :=
  ⟨by omega, by omega, ffw (by omega) (by omega), by omega, by omega, by omega, by omega, by omega, by omega⟩
theorem ffv_less {H k : Nat} (h : k < H) : H - (intOf (.int .i64 ((k : Int) + 1))).toNat < H - (intOf (.int .i64 (k : Int))).toNat := by
  simp [intOf]
  omega
theorem steps_end {zs0 zs : List (Nat × Nat)} {r : Nat} (h : Two2 zs0 (r ≠ 1) zs) (hr : 2 ≤ r ∨ ∀ a b, zs0 ≠ [a, b]) : Two2 zs0 True zs := fun a b e =>
  ⟨fun _ => (h a b e).1 (by rcases hr with x | x; omega; exact absurd e (x a b)), fun x => absurd trivial x⟩
set_option maxRecDepth 100000 in
set_option maxHeartbeats 3200000 in
theorem steps_any (base G n gw : Nat) (way : Int) (zs0 : List (Nat × Nat)) (w : World) (hn : n ≤ 12) (hown : w.ownsRow base 111 1 (.slice (some ⟨G, 0, none⟩) (2 ^ n) (2 ^ n)) (2 ^ n) (cxs zs0)) (hbase : base ≤ w.heap.size) (hgw : gw < base) (hw : w.cell? ⟨gw, 0, none⟩ = some (.int .i64 way)) :
    Calls Try.prog 122 #[.slice (some ⟨G, 0, none⟩) (2 ^ n) (2 ^ n), .int .i64 (n : Int), .func (.func 123) #[] #[.pointer (some ⟨gw, 0, none⟩)]] w (RetSteps w base G (2 ^ n) zs0) := by
  obtain ⟨N, hN⟩ : ∃ N, 2 ^ n = N := ⟨_, rfl⟩
  have HN := Lib.hid hN
  have hN1 : N ≤ 4096 := by rw [← hN]; exact Nat.le_trans (Nat.pow_le_pow_right (by decide) hn) (by decide)
  rw [hN] at hown ⊢
  clear hN
  have hlz : zs0.length = N := by have := hown.1; rw [cxs_len] at this; simpa using this
  have HLZ0 := Lib.hid hlz
  clear hlz
  go_enter Try.func122, Try.ntmps122
  go_wp2_with fail
  go_loopw [7] (fun i wr => ∃ (r : Nat) (zs : List (Nat × Nat)), 1 ≤ r ∧ r ≤ n + 1 ∧ i = .int .i64 (r : Int) ∧ Hid (zs.length = N ∧ Two2 zs0 (r ≠ 1) zs) ∧ wr.ownsRow base 111 1 (.slice (some ⟨G, 0, none⟩) N N) N (cxs zs) ∧ Below base w wr)
    (fun i _ => n + 1 - (intOf i).toNat)
  case atStart => exact ⟨1, zs0, Nat.le_refl _, by omega, rfl, Lib.hid ⟨HLZ0.out, fun a b e => ⟨fun x => absurd rfl x, fun _ => e⟩⟩, hown, Below.refl _ _⟩
  case round =>
    clear hown
    obtain ⟨r, zs, hr1, hr2, rfl, HLZ, hown, hb⟩ := hrel
    by_cases hlt : r ≤ n
    · have hlt' : (r : Int) ≤ (n : Int) := by omega
      have hr0 : (0 : Int) ≤ (r : Int) - 1 := by omega
      have hr3 : IntKind.i64.wrap ((r : Int) - 1) = (r : Int) - 1 := IntWalk.i64_in _ (by omega)
      obtain ⟨H, M, hH1, hH2, hHw, hHw2, hHM⟩ := half_facts hr1 hlt hn HN.out
      have HHM := Lib.hid hHM
      clear hHM
      go_wp2_with fail
      simp only [hHw]
      clear hHw hr3
      have hr16 : r ≤ 16 := by omega
      go_loopw [9] (fun i wr => ∃ (q : Nat) (zs : List (Nat × Nat)), q ≤ M ∧ i = .int .i64 ((2 * H * q : Nat) : Int) ∧ Hid (zs.length = N ∧ Two2 zs0 (r ≠ 1 ∨ q ≠ 0) zs) ∧ wr.ownsRow base 111 1 (.slice (some ⟨G, 0, none⟩) N N) N (cxs zs) ∧ Below base w wr)
        (fun i _ => N - (intOf i).toNat)
      case atStart => exact ⟨0, zs, Nat.zero_le _, rfl, Lib.hid ⟨HLZ.out.1, HLZ.out.2.iff fun _ _ _ => ⟨fun x => x.resolve_right (fun y => y rfl), Or.inl⟩⟩, hown, hb⟩
      case round =>
        clear hown HLZ hb zs
        obtain ⟨q, zs, hq, rfl, HLZ, hown, hb⟩ := hrel
        by_cases hqM : q < M
        · have hle : 2 * H * q + 2 * H ≤ N := by rw [← HHM.out, ← Nat.mul_succ]; exact Nat.mul_le_mul_left _ hqM
          have HNX : Hid (2 * H * q + 2 * H = 2 * H * (q + 1)) := Lib.hid (by rw [Nat.mul_succ])
          obtain ⟨F, hF⟩ : ∃ F, 2 * H * q = F := ⟨_, rfl⟩
          have HF := Lib.hid hF
          rw [hF] at hle HNX ⊢
          clear hF
          have f1 : (F : Int) < (N : Int) := by omega
          have f2 : IntKind.i64.wrap ((F : Int) + 2 * (H : Int)) = (F : Int) + 2 * (H : Int) := ffw (by omega) (by omega)
          have f3 : (F : Int) ≤ (F : Int) + 2 * (H : Int) := by omega
          have f4 : (F : Int) + 2 * (H : Int) ≤ (N : Int) := by omega
          have f5 : (0 : Int) ≤ (F : Int) := by omega
          go_wp2_with fail
          rw [show F + 2 * H - F = 2 * H by omega]
          go_loopw [40] (fun i wr => ∃ (k : Nat) (zs : List (Nat × Nat)), k ≤ H ∧ i = .int .i64 (k : Int) ∧ Hid (zs.length = N ∧ Two2 zs0 (r ≠ 1 ∨ q ≠ 0 ∨ k ≠ 0) zs) ∧ wr.ownsRow base 111 1 (.slice (some ⟨G, 0, none⟩) N N) N (cxs zs) ∧ Below base w wr)
            (fun i _ => H - (intOf i).toNat)
          case atStart => exact ⟨0, zs, Nat.zero_le _, rfl, Lib.hid ⟨HLZ.out.1, HLZ.out.2.iff fun _ _ _ => ⟨fun x => x.imp id (fun y => y.resolve_right (fun z => z rfl)), fun x => x.imp id Or.inl⟩⟩, hown, hb⟩
          case round =>
            clear hown HLZ hb zs
            obtain ⟨k, zs, hk, rfl, HLZ, hown, hb⟩ := hrel
            by_cases hkH : k < H
            · obtain ⟨k1, k0, k2, k3, k4, k5, p1, p2, hne⟩ := ffv_round hkH hle hN1
              have hG := (hown.lt _ rfl).2
              have hwy : wr.cell? ⟨gw, 0, none⟩ = some (.int .i64 way) := hb.cell (p := ⟨gw, 0, none⟩) hgw |>.trans hw
              have hGb := (hown.lt _ rfl).1
              rw [← HLZ.out.1] at p1 p2
              have ca := cx_at hown p1
              have cb := cx_at hown p2
              have fa := hown.frozenAt (F + k)
              have fb := hown.frozenAt (F + (k + H))
              obtain ⟨⟨a1, a2⟩, hza⟩ : ∃ z, zs[F + k] = z := ⟨_, rfl⟩
              obtain ⟨⟨b1, b2⟩, hzb⟩ : ∃ z, zs[F + (k + H)] = z := ⟨_, rfl⟩
              have HZA : Hid (zs[F + k]? = some (a1, a2)) := Lib.hid (by rw [List.getElem?_eq_getElem p1, hza])
              have HZB : Hid (zs[F + (k + H)]? = some (b1, b2)) := Lib.hid (by rw [List.getElem?_eq_getElem p2, hzb])
              rw [hza] at ca
              rw [hzb] at cb
              have hbw : base ≤ wr.heap.size := Nat.le_trans hbase hb.size
              have HNE := Lib.hid hne
              have HQ := Lib.hid hqM
              have HKH := Lib.hid hkH
              clear hza hzb p1 p2 hne hqM hkH HNX f1 f2 f3 f4 hlt' hr0 hHw2 hle
              go_wp2_with fail
              go_region_held3 (fun _ => True)
                (trivial)
                (first
                  | (go_at_call 123; (refine (step_any (k : Int) way r hr16 gw G (F + k) (F + (k + H)) a1 a2 b1 b2 _ ?_ ?_ ?_ ?_ ?_ HNE.out ?_).mono ?_); (exact hwy); (exact ca); (exact cb); (exact fa); (exact fb); (exact hG); rintro e2 w2 ⟨rfl, r1, r2, w5, hsr, hb5, rfl⟩; have hb6 : Below wr.heap.size wr w5 := (by first | exact hb5 | exact below_of_drew hb5 | exact below_of_drewN hb5); have HSR := Lib.hid hsr; clear hsr hb5)
                  | fail)
              all_goals
                go_wp2_with fail
                have hst1 := ((own_kept hown hb6).stored (F + k) (.complex .f64 r1.1 r1.2)).1
                rw [cxs_set] at hst1
                have hst2 := (hst1.stored (F + (k + H)) (.complex .f64 r2.1 r2.2)).1
                rw [cxs_set] at hst2
                have hrn : ∃ (k' : Nat) (zs : List (Nat × Nat)), k' ≤ H ∧ Value.int .i64 ((k : Int) + 1) = .int .i64 (k' : Int) ∧ Hid (zs.length = N ∧ Two2 zs0 (r ≠ 1 ∨ q ≠ 0 ∨ k' ≠ 0) zs) ∧ ((w5.setCell ⟨G, F + k, none⟩ (.complex .f64 r1.1 r1.2)).setCell ⟨G, F + (k + H), none⟩ (.complex .f64 r2.1 r2.2)).ownsRow base 111 1 (.slice (some ⟨G, 0, none⟩) N N) N (cxs zs) ∧ Below base w ((w5.setCell ⟨G, F + k, none⟩ (.complex .f64 r1.1 r1.2)).setCell ⟨G, F + (k + H), none⟩ (.complex .f64 r2.1 r2.2)) :=
                  ⟨k + 1, _, HKH.out, rfl, Lib.hid ⟨by rw [List.length_set, List.length_set]; exact HLZ.out.1, HLZ.out.2.step HLZ0.out HN.out hr1 hlt hH1 HKH.out HQ.out HHM.out HF.out HZA.out HZB.out HSR.out⟩, hst2, ((hb.trans (hb6.mono hbw)).setCell (p := ⟨G, F + k, none⟩) hGb _).setCell (p := ⟨G, F + (k + H), none⟩) hGb _⟩
                clear hst1 hst2
                go_roundw
                case rel => exact hrn
                case measure => exact ffv_less HKH.out
            · obtain rfl : k = H := by omega
              have hnl : ¬ (k : Int) < (k : Int) := by omega
              go_wp2_with fail
              have hnx : (F : Int) + 2 * (k : Int) = ((2 * k * (q + 1) : Nat) : Int) := by rw [← HNX.out]; exact (ff_cast F k).symm
              refine ⟨⟨q + 1, zs, hqM, congrArg (Value.int .i64) hnx, Lib.hid ⟨HLZ.out.1, HLZ.out.2.iff fun _ _ _ => ⟨fun _ => Or.inr (Or.inr (by omega)), fun _ => Or.inr (by omega)⟩⟩, hown, hb⟩, ?_⟩
              clear hnx
              exact ff_less hle hH1
        · obtain rfl : q = M := by omega
          have hnl : ¬ ((2 * H * q : Nat) : Int) < (N : Int) := by have := HHM.out; omega
          have hq1 : q ≠ 0 := by
            rintro rfl
            have := HHM.out
            have h2 := Nat.two_pow_pos n
            have h3 := HN.out
            omega
          have HQ1 := Lib.hid hq1
          obtain ⟨F, hF⟩ : ∃ F, 2 * H * q = F := ⟨_, rfl⟩
          rw [hF] at hnl ⊢
          clear hq1
          go_wp2_with fail
          refine ⟨⟨r + 1, zs, by omega, by omega, congrArg (Value.int .i64) (by omega), Lib.hid ⟨HLZ.out.1, HLZ.out.2.iff fun _ _ _ => ⟨fun _ => Or.inr HQ1.out, fun _ => by omega⟩⟩, hown, hb⟩, ?_⟩
          simp [intOf]
          omega
    · obtain rfl : r = n + 1 := by omega
      have hnl : ¬ ((n + 1 : Nat) : Int) ≤ (n : Int) := by omega
      have hnl2 : ¬ (n : Int) + 1 ≤ (n : Int) := by omega
      go_wp2_with fail
      go_ret
      refine ⟨rfl, zs, HLZ.out.1, hown, hb, steps_end HLZ.out.2 ?_⟩
      by_cases h0 : n = 0
      · right
        rintro a b e
        have h1 := HLZ0.out
        have h2 := HN.out
        rw [h0] at h2
        rw [e, ← h2] at h1
        simp at h1
      · left; omega
end Go.Proofs.Ytejlicacndpfpaa
