/-
  A row in the order of the places' digits read from behind (fft.sorted): a row of its own, as long.
-/
import Derived.Test.YtejlicacndpfpaaFfR
import Derived.Test.YtejlicacndpfpaaMem
import Derived.Laws.BitsLemmas
namespace Go.Proofs.Ytejlicacndpfpaa
open Go.RowKit

@[go_sem] theorem run_store_cx {P : Program} {w : World} {a : Addr} {m : Mode} (k : FloatKind) (x y : Nat) : (store a (.complex k x y) m).run P w = stored P w a (.complex k x y) m := run_store P w a _ m rfl
theorem keep_far {w : World} {ad : Addr} {k b x : Nat} {u v : Value} (h : w.cell? (ad.add k) = some v) (hb : ad.block < b) : (w.setCell ⟨b, x, none⟩ u).cell? (ad.add k) = some v := by
  rw [World.cell?_setCell_other w ⟨b, x, none⟩ (ad.add k) u (by
    intro e
    have := congrArg Addr.block e
    rw [block_of_add] at this
    have h2 : b = ad.block := this
    omega)]
  exact h
theorem below_to_drew' {B : Nat} {a w : World} (h : Below B a w) : Below B a w.drew := ⟨h.os, h.tape, h.output, h.size, h.block⟩
def cxs (zs : List (Nat × Nat)) : List Value := zs.map fun z => Value.complex .f64 z.1 z.2
theorem cxs_len (zs : List (Nat × Nat)) : (cxs zs).length = zs.length := by unfold cxs; simp
theorem cxs_get {zs : List (Nat × Nat)} {k : Nat} (h : k < zs.length) : (cxs zs)[k]? = some (.complex .f64 zs[k].1 zs[k].2) := by
  unfold cxs
  rw [List.getElem?_map, List.getElem?_eq_getElem h]
  rfl
theorem cxs_set (zs : List (Nat × Nat)) (k a b : Nat) : (cxs zs).set k (.complex .f64 a b) = cxs (zs.set k (a, b)) := by
  unfold cxs
  rw [List.map_set]
theorem info_cx : (Try.prog.info? 111).map (fun i => (i.zero, i.size, i.bytes)) = some (some (.complex .f64 0 0), 1, 16) := by kernel_rfl
theorem made_cx (n : Nat) : (madeCells #[Value.complex .f64 0 0] n).toList = cxs (List.replicate n (0, 0)) := by
  apply List.ext_getElem?
  intro i
  unfold cxs
  rw [List.getElem?_map, List.getElem?_replicate]
  by_cases h : i < n
  · rw [if_pos h]
    simp [madeCells, h, Nat.mod_one]
  · rw [if_neg h]
    simp [madeCells, h]
theorem cx_at {w : World} {base : Nat} {e : TypeId} {g cap n : Nat} {out : List (Nat × Nat)} (h : w.ownsRow base e 1 (.slice (some ⟨g, 0, none⟩) n cap) n (cxs out)) {j : Nat} (hj : j < out.length) :
    w.cell? ⟨g, j, none⟩ = some (.complex .f64 out[j].1 out[j].2) := by
  have hl : out.length = n := by have := h.1; rw [cxs_len] at this; simpa using this
  rw [h.cellAt j (by omega)]
  exact cxs_get hj
/-- Floats of 64 bits, all of them. -/
def Cok (zs : List (Nat × Nat)) : Prop := ∀ z ∈ zs, z.1 < 2 ^ 64 ∧ z.2 < 2 ^ 64
def RetCrow (W : World) (n : Nat) (P : List (Nat × Nat) → Prop) (e : Ending) (w' : World) : Prop :=
  ∃ g zs, e = .returned (.slice (some ⟨g, 0, none⟩) n n) ∧ w'.ownsRow W.heap.size 111 1 (.slice (some ⟨g, 0, none⟩) n n) n (cxs zs) ∧ zs.length = n ∧ Cok zs ∧ P zs ∧ Below W.heap.size W w'
theorem and_le_mask (a : Int) (b : Nat) (ha : 0 ≤ a) (ha' : a ≤ 18446744073709551615) (hb : b < 18446744073709551616) : 0 ≤ bits .and .u64 a (b : Int) ∧ bits .and .u64 a (b : Int) ≤ (b : Int) := by
  obtain ⟨x, rfl⟩ : ∃ x : Nat, a = (x : Int) := ⟨a.toNat, by omega⟩
  have hx : x < 18446744073709551616 := by omega
  rw [(bits_nat .u64 64 (by decide) (fun n h0 h1 => IntWalk.u64_in _ (by omega)) x b hx hb).1]
  have := Nat.and_le_right (n := x) (m := b)
  omega
theorem place_in (r : Int) (N n : Nat) (hr0 : 0 ≤ r) (hr1 : r ≤ 18446744073709551615) (hN0 : 0 < N) (hN : N ≤ 65536) (hn : n ≤ 16) :
    ∃ x : Nat, x < N ∧ bits .and .u64 (r / 2 ^ (64 - (n : Int)).toNat) ((N : Int) - 1) = (x : Int) ∧ bits .and .u64 (r / 2 ^ (64 - n)) ((N : Int) - 1) = (x : Int) := by
  have e : (64 - (n : Int)).toNat = 64 - n := by omega
  have h2 : (0 : Int) < 2 ^ (64 - n) := Int.pow_pos (by decide)
  have q0 : 0 ≤ r / 2 ^ (64 - n) := Int.ediv_nonneg hr0 (Int.le_of_lt h2)
  have q1 : r / 2 ^ (64 - n) ≤ r := Int.ediv_le_self _ hr0
  have hm : ((N : Int) - 1) = ((N - 1 : Nat) : Int) := by omega
  obtain ⟨b0, b1⟩ := and_le_mask (r / 2 ^ (64 - n)) (N - 1) q0 (by omega) (by omega)
  rw [e, hm]
  refine ⟨(bits .and .u64 (r / 2 ^ (64 - n)) ((N - 1 : Nat) : Int)).toNat, by omega, by omega, by omega⟩
/-- A row of two is as it was. -/
def KeepTwo (zs out : List (Nat × Nat)) : Prop := ∀ a b, zs = [a, b] → out = [a, b]
/-- Two elements, as far as they have been put. -/
def st2 (a b : Nat × Nat) (k : Nat) : List (Nat × Nat) := if k = 0 then [(0, 0), (0, 0)] else if k = 1 then [a, (0, 0)] else [a, b]
theorem st2_next {zs out : List (Nat × Nat)} {k N n x : Nat} {r : Int} {z : Nat × Nat} (hl : zs.length = N) (hNn : N = 2 → n = 1) (hz : zs[k]? = some z) (hr : ((k : Int) = 0 → r = 0) ∧ ((k : Int) = 1 → r = 9223372036854775808))
    (hx : bits .and .u64 (r / 2 ^ (64 - n)) ((N : Int) - 1) = (x : Int)) (h : ∀ a b, zs = [a, b] → out = st2 a b k) : ∀ a b, zs = [a, b] → out.set x z = st2 a b (k + 1) := by
  rintro a b rfl
  obtain rfl : N = 2 := hl.symm
  obtain rfl : n = 1 := hNn rfl
  rw [h a b rfl]
  match k, hz, hr with
  | 0, hz, hr =>
    obtain rfl : r = 0 := hr.1 rfl
    have e : bits .and .u64 ((0 : Int) / 2 ^ (64 - 1)) (((2 : Nat) : Int) - 1) = 0 := by decide +kernel
    obtain rfl : x = 0 := by omega
    injection hz with hz
    subst hz
    rfl
  | 1, hz, hr =>
    obtain rfl : r = 9223372036854775808 := hr.2 rfl
    have e : bits .and .u64 ((9223372036854775808 : Int) / 2 ^ (64 - 1)) (((2 : Nat) : Int) - 1) = 1 := by decide +kernel
    obtain rfl : x = 1 := by omega
    injection hz with hz
    subst hz
    rfl
  | k + 2, hz, _ => exact absurd hz (by simp)
set_option maxRecDepth 100000 in
set_option maxHeartbeats 3200000 in
theorem sorted_any (A : Option Addr) (N c n : Nat) (zs : List (Nat × Nat)) (w : World) (h : Reads w w.heap.size A N (cxs zs)) (hz : Cok zs) (hc : N ≤ c) (hN0 : 0 < N) (hN : N ≤ 65536) (hn : n ≤ 16) (hNn : Hid (N = 2 → n = 1)) :
    Calls Try.prog 121 #[.slice A N c, .int .i64 (n : Int)] w (RetCrow w N (KeepTwo zs)) := by
  obtain ⟨i0, hi, hz0, hz1, hz2⟩ := info_parts info_cx
  have hlz : zs.length = N := by have := h.1; rw [cxs_len] at this; exact this
  have HLZ := Lib.hid hlz
  have HZ := Lib.hid hz
  clear hlz hz
  go_enter Try.func121, Try.ntmps121
  go_wp2_with (at_make; refine wpList_make_full _ rfl _ _ 66 rfl w.heap.size 111 i0 (.complex .f64 0 0) 1 Try.underlying66 hi hz0 hz1 _ _ _ _ N rfl rfl (by omega) (by omega) ?c2 ?c3 (Nat.le_refl _) ?_)
  case c2 => first | omega | (rw [hz2]; omega)
  case c3 => unfold maxLen; omega
  intro w1 hown1 hgrow1
  rw [made_cx] at hown1
  have hb1 : Below w.heap.size w w1 := (Below.refl _ _).grown hgrow1 (Nat.le_refl _) (fun k hk => by cases hk)
  clear hgrow1
  go_wp2_with fail
  go_loopw [12] (fun i wr => ∃ (k : Nat) (out : List (Nat × Nat)), k ≤ N ∧ i = .int .i64 (k : Int) ∧ Hid (out.length = N) ∧ wr.ownsRow w.heap.size 111 1 (.slice (some ⟨w.heap.size, 0, none⟩) N N) N (cxs out) ∧ Hid (Cok out ∧ ∀ a b, zs = [a, b] → out = st2 a b k) ∧ Below w.heap.size w wr)
    (fun i _ => N - (intOf i).toNat)
  case atStart => exact ⟨0, List.replicate N (0, 0), Nat.zero_le _, rfl, Lib.hid List.length_replicate, hown1, Lib.hid ⟨fun z hz => by rw [List.eq_of_mem_replicate hz]; exact ⟨by decide, by decide⟩, fun a b e => by have := HLZ.out; rw [e] at this; subst this; rfl⟩, hb1⟩
  case round =>
    clear hown1 hb1
    obtain ⟨k, out, hk, rfl, hol, hown, hok, hb⟩ := hrel
    by_cases hlt : k < N
    · obtain ⟨ad, u, rfl, hba, hu, hcell⟩ := (h.below hb).at_ hlt
      rw [cxs_get (by rw [HLZ.out]; exact hlt)] at hu
      obtain ⟨z, hz⟩ : ∃ z, zs[k]'(by rw [HLZ.out]; exact hlt) = z := ⟨_, rfl⟩
      rw [hz] at hu
      have hzb : z.1 < 2 ^ 64 ∧ z.2 < 2 ^ 64 := HZ.out z (by rw [← hz]; exact List.getElem_mem _)
      have HZB := Lib.hid hzb
      have HZK : Hid (zs[k]? = some z) := Lib.hid (by rw [List.getElem?_eq_getElem (by rw [HLZ.out]; exact hlt), hz])
      clear hz hzb
      obtain ⟨za, zb⟩ := z
      injection hu with hu
      subst hu
      have hlt' : (k : Int) < (N : Int) := by omega
      have hk0 : (0 : Int) ≤ (k : Int) := Int.natCast_nonneg _
      have hsz := (hown.lt _ rfl).2
      have hkm : (k : Int) ≤ 18446744073709551615 := by omega
      have hn64 : IntKind.i64.wrap (64 - (n : Int)) = 64 - (n : Int) := IntWalk.i64_in _ (by omega)
      have hn65 : (0 : Int) ≤ 64 - (n : Int) := by omega
      have hn66 : (64 : Int) - (n : Int) ≤ 64 := by omega
      have hn67 : (n : Int) ≤ 64 := by omega
      have hn68 : (0 : Int) ≤ (n : Int) := by omega
      have hN1 : IntKind.i64.wrap ((N : Int) - 1) = (N : Int) - 1 := IntWalk.i64_in _ (by omega)
      have hN2 : IntKind.u64.wrap ((N : Int) - 1) = (N : Int) - 1 := IntWalk.u64_in _ (by omega)
      have hk2 : IntKind.u64.wrap (k : Int) = (k : Int) := IntWalk.u64_in _ (by omega)
      go_wp2_with fail
      go_region_held3 (fun w' => w'.cell? (ad.add k) = some (.complex .f64 za zb))
        (first | go_keep | exact hkeep _ | assumption)
        (first
          | (go_at_call 149; (with_reducible refine (reverse_all (k : Int) _ hk0 hkm).mono ?_); rintro e2 w2 ⟨r, rfl, hr0, hr1, hrr, rfl⟩; obtain ⟨x, hxN, hx1, hx2⟩ := place_in r N n hr0 hr1 hN0 hN hn; have HX2 := Lib.hid hx2; have hx3 : (x : Int) < (N : Int) := (by omega); have hx4 : (0 : Int) ≤ (x : Int) := Int.natCast_nonneg _; have hxo : x < out.length := (by rw [hol.out]; exact hxN); obtain ⟨v, hv⟩ : ∃ v, (cxs out)[x]? = some v := ⟨_, List.getElem?_eq_getElem (by rw [cxs_len]; exact hxo)⟩; have hcx := hown.cellAt x (by omega); rw [hv] at hcx; clear hv; have hf := hown.frozenAt x; have hcxD : wr.drew.cell? ⟨w.heap.size, x, none⟩ = some v := hcx; have hfD : wr.drew.frozen? ⟨w.heap.size, x, none⟩ = false := hf; have hszD : w.heap.size < wr.drew.heap.size := hsz; have hkeep : ∀ u, (wr.setCell ⟨w.heap.size, x, none⟩ u).cell? (ad.add k) = some (.complex .f64 za zb) := (fun u => keep_far hcell hba); have hxe := Lib.hid hxo; have hst := (hown.stored x (.complex .f64 za zb)).1; rw [cxs_set] at hst; clear hxo)
          | fail)
      all_goals go_wp2_with fail
      all_goals
        refine ⟨⟨k + 1, out.set x (za, zb), hlt, congrArg (Value.int .i64) (by omega), Lib.hid (by rw [List.length_set]; exact hol.out), hst, Lib.hid ⟨fun z hz => ?_, st2_next HLZ.out hNn.out HZK.out hrr.out HX2.out hok.out.2⟩, (by first | exact hb.setCell (p := ⟨w.heap.size, x, none⟩) (Nat.le_refl _) _ | exact below_to_drew' (hb.setCell (p := ⟨w.heap.size, x, none⟩) (Nat.le_refl _) _))⟩, ?_⟩
        · rcases List.mem_or_eq_of_mem_set hz with h1 | h1
          · exact hok.out.1 z h1
          · rw [h1]; exact HZB.out
        · simp [intOf]; omega
    · obtain rfl : k = N := by omega
      have hnl : ¬ (k : Int) < (k : Int) := by omega
      go_wp2_with fail
      go_ret
      exact ⟨w.heap.size, out, rfl, hown, hol.out, hok.out.1, (fun a b e => by have h2 := hok.out.2 a b e; have := HLZ.out; rw [e] at this; subst this; exact h2), hb⟩
end Go.Proofs.Ytejlicacndpfpaa
