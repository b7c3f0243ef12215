/-
  The transform (fft.transform, fft.Forward).
-/
import Derived.Test.YtejlicacndpfpaaFfV
import Derived.Test.YtejlicacndpfpaaFfS
namespace Go.Proofs.Ytejlicacndpfpaa
open Go.RowKit

def RetTr (W : World) (N : Nat) (zs : List (Nat × Nat)) (e : Ending) (w' : World) : Prop :=
  ∃ g out, e = .returned (.slice (some ⟨g, 0, none⟩) N N) ∧ w'.ownsRow W.heap.size 111 1 (.slice (some ⟨g, 0, none⟩) N N) N (cxs out) ∧ out.length = N ∧ Below W.heap.size W w' ∧ Two2 zs True out
theorem own_base {w : World} {b base : Nat} {e : TypeId} {v : Value} {n : Nat} {xs : List Value} (h : w.ownsRow base e 1 v n xs) (hb : b ≤ base) : w.ownsRow b e 1 v n xs :=
  ⟨h.1, h.2.imp id (fun ⟨g, cap, cur, h1, h2, h3⟩ => ⟨g, cap, cur, h1, Nat.le_trans hb h2, h3⟩)⟩
theorem two_keep {zs out out2 : List (Nat × Nat)} (h : KeepTwo zs out) (k : Two2 out True out2) : Two2 zs True out2 := fun a b e => k a b (h a b e)
set_option maxRecDepth 100000 in
set_option maxHeartbeats 3200000 in
theorem transform_any (A : Option Addr) (c n : Nat) (way : Int) (zs : List (Nat × Nat)) (w : World) (h : Reads w w.heap.size A (2 ^ n) (cxs zs)) (hz : Cok zs) (hc : 2 ^ n ≤ c) (hn : n ≤ 12) :
    Calls Try.prog 77 #[.slice A (2 ^ n) c, .int .i64 (n : Int), .int .i64 way] w (RetTr w (2 ^ n) zs) := by
  have hN1 : 2 ^ n ≤ 4096 := Nat.le_trans (Nat.pow_le_pow_right (by decide) hn) (by decide)
  have hN0 : 0 < 2 ^ n := Nat.two_pow_pos n
  have hNn : Hid (2 ^ n = 2 → n = 1) := Lib.hid (fun e => by
    rcases Nat.lt_trichotomy n 1 with x | x | x
    · rw [show n = 0 by omega] at e; exact absurd e (by decide)
    · exact x
    · have := Nat.pow_le_pow_right (show 0 < 2 by decide) (show 2 ≤ n by omega); omega)
  obtain ⟨N, hN⟩ : ∃ N, 2 ^ n = N := ⟨_, rfl⟩
  have HN := Lib.hid hN
  have K0 := (Mm.nil w).var (g := w.heap.size) rfl [.int .i64 way] 3
  rw [hN] at h hc hN1 hN0 hNn ⊢
  clear hN
  have HZ := Lib.hid hz
  clear hz
  go_enter Try.func77, Try.ntmps77
  go_upto_region 1 with (fail)
  have h0 := (h.below K0.1).more (B' := (w.alloc (.cells #[.int .i64 way] 3)).heap.size) (by simp)
  have s0 : w.heap.size < (w.alloc (.cells #[.int .i64 way] 3)).heap.size := by simp
  generalize w.alloc (.cells #[.int .i64 way] 3) = w0 at K0 h0 s0 ⊢
  go_wp2_with fail
  refine (sorted_any A N c n zs _ h0 HZ.out hc hN0 (by omega) (by omega) hNn).mono ?_
  rintro e1 w1 ⟨g, out, rfl, hown, hl1, _, hk, hb1⟩
  have HK := Lib.hid hk
  have K1 := K0.next hb1
  have hcw := ((K1.blk (g := w.heap.size) (vs := [.int .i64 way]) (by simp)).2 0 _ rfl).1
  clear h0 hk hl1
  go_wp2_with fail
  have hst := (steps_any w0.heap.size g n w.heap.size way out w1 hn (by rw [HN.out]; exact hown) hb1.size s0 hcw)
  rw [HN.out] at hst
  refine hst.mono ?_
  rintro e2 w2 ⟨rfl, out2, hl2, hown2, hb2, hk2⟩
  have HK2 := Lib.hid (two_keep HK.out hk2)
  clear hst hown hk2
  go_wp2_with fail
  go_ret
  exact ⟨g, out2, rfl, own_base hown2 (Nat.le_of_lt s0), hl2, K1.1.trans (hb2.mono (Nat.le_of_lt s0)), HK2.out⟩
end Go.Proofs.Ytejlicacndpfpaa
