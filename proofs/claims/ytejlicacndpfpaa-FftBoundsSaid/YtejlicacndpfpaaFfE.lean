/-
  The energy of rows of noughts, of one three behind noughts, of rows that are too long (fft.Energy).
-/
import Derived.Test.YtejlicacndpfpaaFfW
import Derived.Test.YtejlicacndpfpaaFfP
namespace Go.Proofs.Ytejlicacndpfpaa
open Go.RowKit

def RetEn (W : World) (e : Ending) (w' : World) : Prop := ∃ a, e = .returned (.tuple #[.agg #[.float .f64 a, .float .f64 a], .int .i64 0]) ∧ Below W.heap.size W w'
theorem fin_few {a : Nat} (h : Few3 a) : fin2 (a, 0) = true := by rcases h with rfl | rfl <;> decide +kernel
def LastFew (zs : List (Nat × Nat)) (N : Nat) : Prop := ∀ i z, zs[i]? = some z → z.2 = 0 ∧ Few3 z.1 ∧ (z.1 = 0 ∨ i + 1 = N)
theorem cx_read {w : World} {B N : Nat} {A : Option Addr} {zs : List (Nat × Nat)} (h : Reads w B A N (cxs zs)) (hl : zs.length = N) (hf : LastFew zs N) {k : Nat} (hk : k < N) :
    ∃ ad a, A = some ad ∧ ad.block < B ∧ Few3 a ∧ (a = 0 ∨ k + 1 = N) ∧ w.cell? (ad.add k) = some (.complex .f64 a 0) := by
  obtain ⟨ad, u, e, hb, hu, hc⟩ := h.at_ hk
  have hk2 : k < zs.length := by omega
  rw [cxs_get hk2] at hu
  injection hu with hu
  obtain ⟨h1, h2, h3⟩ := hf k zs[k] (List.getElem?_eq_getElem hk2)
  refine ⟨ad, zs[k].1, e, hb, h2, h3, ?_⟩
  rw [hc, ← hu, h1]
theorem ff_meas {k N : Nat} (h : k < N) : N - (intOf (.int .i64 ((k : Int) + 1))).toNat < N - (intOf (.int .i64 (k : Int))).toNat := by
  simp [intOf]
  omega
theorem ix_zero (v : Nat) (w : World) : (Instr.index 113 (.agg #[.float .f64 v, .float .f64 0]) (.int .i64 0)).run Try.prog w = .ok (.float .f64 v) w := by kernel_rfl
theorem ix_one (v : Nat) (w : World) : (Instr.index 113 (.agg #[.float .f64 v, .float .f64 0]) (.int .i64 1)).run Try.prog w = .ok (.float .f64 0) w := by kernel_rfl
set_option maxRecDepth 100000 in
set_option maxHeartbeats 3200000 in
theorem energy_few (A : Option Addr) (N c : Nat) (zs : List (Nat × Nat)) (w : World) (h : Reads w w.heap.size A N (cxs zs)) (hN : N ≤ 65536) (hf : LastFew zs N) :
    Calls Try.prog 31 #[.slice A N c] w (RetEn w) := by
  have hlz : zs.length = N := by have := h.1; rw [cxs_len] at this; exact this
  have HLZ := Lib.hid hlz
  have HF := Lib.hid hf
  clear hlz hf
  have K0 := (Mm.nil w).var (g := w.heap.size) rfl [.float .f64 0, .float .f64 0] 69
  have hN' : ¬ (65536 : Int) < (N : Int) := by omega
  go_enter Try.func31, Try.ntmps31
  go_wp2_with fail
  have s0 : w.heap.size < (w.alloc (.cells #[.float .f64 0, .float .f64 0] 69)).heap.size := by simp
  generalize w.alloc (.cells #[.float .f64 0, .float .f64 0] 69) = w0 at K0 s0 ⊢
  go_loopw [19] (fun i wr => ∃ k : Nat, k ≤ N ∧ i = .int .i64 (k : Int) ∧ wr = w0) (fun i _ => N - (intOf i).toNat)
  case atStart => exact ⟨0, Nat.zero_le _, rfl, rfl⟩
  case round =>
    obtain ⟨k, hk, rfl, rfl⟩ := hrel
    by_cases hlt : k < N
    · obtain ⟨ad, a, rfl, hba, ha, _, hcell⟩ := cx_read (h.below K0.1) HLZ.out HF.out hlt
      have HA := Lib.hid (fin_few ha)
      have hlt' : (k : Int) < (N : Int) := by omega
      have hk0 : (0 : Int) ≤ (k : Int) := by omega
      have ha64 := few3_lt ha
      clear ha
      go_wp2_with fail
      refine (cplx_Finite_any a 0 ha64 (by decide) _).mono ?_
      rintro e1 w1 ⟨rfl, rfl⟩
      rw [HA.out]
      clear ha64
      go_wp2_with fail
      go_roundw
      case rel => exact ⟨k + 1, hlt, rfl, trivial⟩
      case measure => exact ff_meas hlt
    · obtain rfl : k = N := by omega
      have hnl : ¬ (k : Int) < (k : Int) := by omega
      go_upto_region 10 with (fail)
      have K1 := K0.var (g := wr.heap.size) rfl [.float .f64 0, .float .f64 0] 69
      have s1 : ¬ wr.heap.size = w.heap.size := by omega
      generalize wr.heap.size = g6 at K1 s1 ⊢
      generalize wr.alloc (.cells #[.float .f64 0, .float .f64 0] 69) = w1 at K1 ⊢
      clear K0 s0
      go_wp2_with fail
      go_loopw [31] (fun i w9 => ∃ (q a : Nat), q ≤ k ∧ i = .int .i64 (q : Int) ∧ Hid (a = 0 ∨ q = k) ∧ Mm w [(g6, [.float .f64 a, .float .f64 a]), (w.heap.size, [.float .f64 0, .float .f64 0])] [] w9) (fun i _ => k - (intOf i).toNat)
      case atStart => exact ⟨0, 0, Nat.zero_le _, rfl, Lib.hid (.inl rfl), K1⟩
      case round =>
        clear K1
        obtain ⟨q, a, hq, rfl, ha, K⟩ := hrel
        by_cases hqk : q < k
        · obtain ⟨ad, v, rfl, hba, hv, hv0, hcell⟩ := cx_read (h.below K.1) HLZ.out HF.out hqk
          obtain rfl : a = 0 := ha.out.resolve_right (by omega)
          have HV0 := Lib.hid hv0
          have HV := Lib.hid hv
          have HQK := Lib.hid hqk
          have hlt' : (q : Int) < (k : Int) := by omega
          have hk0 : (0 : Int) ≤ (q : Int) := by omega
          clear hv hv0 ha hqk
          rename World => wo
          go_wp2_with fail
          go_loopw [40] (fun i w9 => ∃ (m a : Nat), m ≤ 2 ∧ i = .int .i64 (m : Int) ∧ Hid (a = if m = 0 then 0 else sq9 v) ∧ Mm w [(g6, [.float .f64 a, .float .f64 a]), (w.heap.size, [.float .f64 0, .float .f64 0])] [] w9) (fun i _ => 2 - (intOf i).toNat)
          case atStart => exact ⟨0, 0, Nat.zero_le _, rfl, Lib.hid rfl, K⟩
          case round =>
            clear K hcell
            obtain ⟨m, a, hm, rfl, ha, K⟩ := hrel
            rename World => wi
            obtain ⟨ra, rb, rc, rd, hg6⟩ := (K.blk (g := g6) (vs := [.float .f64 a, .float .f64 a]) (by simp)).two
            by_cases hm2 : m = 2
            · subst hm2
              go_wp2_with fail
              go_roundw
              case rel => exact ⟨q + 1, a, HQK.out, rfl, Lib.hid (by rcases HV0.out with h0 | h0; left; rw [ha.out, h0]; rfl; right; exact h0), K⟩
              case measure => exact ff_meas HQK.out
            · have HM2 := Lib.hid hm2
              have key : ∀ x : Nat, Few3 x → (m = 0 ∧ x = v ∨ m = 1 ∧ x = 0) → ∃ r, Few9 (sq9 x) ∧ Few9 a ∧ (a = 0 ∨ sq9 x = 0) ∧ a + sq9 x = r ∧ r = (if m + 1 = 0 then 0 else sq9 v) := fun x hx hc => by
                have hq9 := few9_sq HV.out
                rcases hc with ⟨rfl, rfl⟩ | ⟨rfl, rfl⟩
                · have h0 : a = 0 := ha.out
                  subst h0
                  exact ⟨sq9 x, hq9, .inl rfl, .inl rfl, Nat.zero_add _, rfl⟩
                · have h0 : a = sq9 v := ha.out
                  subst h0
                  exact ⟨sq9 v, .inl rfl, hq9, .inr rfl, Nat.add_zero _, rfl⟩
              have hcase : ∃ x, Few3 x ∧ (m = 0 ∧ x = v ∨ m = 1 ∧ x = 0) := by
                rcases (show m = 0 ∨ m = 1 by omega) with h0 | h0
                · exact ⟨v, HV.out, .inl ⟨h0, rfl⟩⟩
                · exact ⟨0, .inl rfl, .inr ⟨h0, rfl⟩⟩
              have KEY := Lib.hid key
              clear key
              rcases (show m = 0 ∨ m = 1 by omega) with rfl | rfl
              · obtain ⟨r, y1, y2, y3, y4, y5⟩ := KEY.out v HV.out (.inl ⟨rfl, rfl⟩)
                have Y1 := Lib.hid y1
                have Y2 := Lib.hid y2
                have Y3 := Lib.hid y3
                have Y4 := Lib.hid y4
                have Y5 := Lib.hid y5
                clear y1 y2 y3 y4 y5 hcase hm2
                have hix := ix_zero v wi
                go_wp2_with fail
                refine (square_few v HV.out _).mono ?_
                rintro e5 w5 ⟨rfl, hb5⟩
                have K5 := (K.next hb5).var (g := w5.heap.size) rfl [.float .f64 (sq9 v), .float .f64 (sq9 v)] 69
                clear ra rb rc rd hg6 K hb5
                go_upto_region 17 with (fail)
                generalize w5.heap.size = g5 at K5 ⊢
                generalize w5.alloc (.cells #[.float .f64 (sq9 v), .float .f64 (sq9 v)] 69) = w6 at K5 ⊢
                obtain ⟨ra, rb, rc, rd, hg6⟩ := (K5.blk (g := g6) (vs := [.float .f64 a, .float .f64 a]) (by simp)).two
                obtain ⟨rp, rq, _, _, _⟩ := (K5.blk (g := g5) (vs := [.float .f64 (sq9 v), .float .f64 (sq9 v)]) (by simp)).two
                go_wp2_with fail
                refine (spadd_few a (sq9 v) r Y2.out Y1.out Y3.out Y4 _).mono ?_
                rintro e7 w7 ⟨rfl, hb7⟩
                have K7 := K5.next hb7
                clear ra rb rc rd rp rq hg6 K5 hb7
                obtain ⟨ra, rb, rc, rd, hg6⟩ := (K7.blk (g := g6) (vs := [.float .f64 a, .float .f64 a]) (by simp)).two
                go_wp2_with fail
                have KE := ((K7.pick (L' := [(g6, [.float .f64 a, .float .f64 a]), (w.heap.size, [.float .f64 0, .float .f64 0])]) (l' := []) (by simp) (by simp)).set (by simp; exact s1) (j := 0) (.float .f64 a) (.float .f64 r) rfl (by simp)).set (by simp; exact s1) (j := 1) (.float .f64 a) (.float .f64 r) rfl (by simp)
                go_roundw
                case rel => exact ⟨1, r, by decide, rfl, Lib.hid Y5.out, KE⟩
                case measure => simp [intOf]
              · obtain ⟨r, y1, y2, y3, y4, y5⟩ := KEY.out 0 (.inl rfl) (.inr ⟨rfl, rfl⟩)
                have Y1 := Lib.hid y1
                have Y2 := Lib.hid y2
                have Y3 := Lib.hid y3
                have Y4 := Lib.hid y4
                have Y5 := Lib.hid y5
                clear y1 y2 y3 y4 y5 hcase hm2
                have hix := ix_one v wi
                go_wp2_with fail
                refine (square_few 0 (.inl rfl) _).mono ?_
                rintro e5 w5 ⟨rfl, hb5⟩
                have K5 := (K.next hb5).var (g := w5.heap.size) rfl [.float .f64 (sq9 0), .float .f64 (sq9 0)] 69
                clear ra rb rc rd hg6 K hb5
                go_upto_region 17 with (fail)
                generalize w5.heap.size = g5 at K5 ⊢
                generalize w5.alloc (.cells #[.float .f64 (sq9 0), .float .f64 (sq9 0)] 69) = w6 at K5 ⊢
                obtain ⟨ra, rb, rc, rd, hg6⟩ := (K5.blk (g := g6) (vs := [.float .f64 a, .float .f64 a]) (by simp)).two
                obtain ⟨rp, rq, _, _, _⟩ := (K5.blk (g := g5) (vs := [.float .f64 (sq9 0), .float .f64 (sq9 0)]) (by simp)).two
                go_wp2_with fail
                refine (spadd_few a (sq9 0) r Y2.out Y1.out Y3.out Y4 _).mono ?_
                rintro e7 w7 ⟨rfl, hb7⟩
                have K7 := K5.next hb7
                clear ra rb rc rd rp rq hg6 K5 hb7
                obtain ⟨ra, rb, rc, rd, hg6⟩ := (K7.blk (g := g6) (vs := [.float .f64 a, .float .f64 a]) (by simp)).two
                go_wp2_with fail
                have KE := ((K7.pick (L' := [(g6, [.float .f64 a, .float .f64 a]), (w.heap.size, [.float .f64 0, .float .f64 0])]) (l' := []) (by simp) (by simp)).set (by simp; exact s1) (j := 0) (.float .f64 a) (.float .f64 r) rfl (by simp)).set (by simp; exact s1) (j := 1) (.float .f64 a) (.float .f64 r) rfl (by simp)
                go_roundw
                case rel => exact ⟨2, r, by decide, rfl, Lib.hid Y5.out, KE⟩
                case measure => simp [intOf]
        · obtain rfl : q = k := by omega
          have hnl2 : ¬ (q : Int) < (q : Int) := by omega
          obtain ⟨ra, rb, rc, rd, _⟩ := (K.blk (g := g6) (vs := [.float .f64 a, .float .f64 a]) (by simp)).two
          obtain ⟨rp, rq, rr, rs, _⟩ := (K.blk (g := w.heap.size) (vs := [.float .f64 0, .float .f64 0]) (by simp)).two
          go_wp2_with fail
          have KE := ((K.pick (L' := [(w.heap.size, [.float .f64 0, .float .f64 0])]) (l' := []) (by simp) (by simp)).set (by simp) (j := 0) (.float .f64 0) (.float .f64 a) rfl (by simp)).set (by simp) (j := 1) (.float .f64 0) (.float .f64 a) rfl (by simp)
          exact bodyPost_ret (v := .tuple #[.agg #[.float .f64 a, .float .f64 a], .int .i64 0]) (by simp [results, Try.results31, go_sem, rp, rq]) rfl ⟨a, rfl, KE.1⟩
end Go.Proofs.Ytejlicacndpfpaa
