/-
  Floats stored into memory: the laws that the kit has for integers, Booleans, slices.
  A book's lists of one kind (Limb): all filled with marks, grown, looked at.
-/
import Derived.Test.YtgekmbfmfiikkaaGreatDoorZero
import Derived.Test.YtgekmbfmfiikkaaGreatDoorBkP
import Derived.Deep.CutRange
import Derived.Deep.CutBlock
import Derived.Deep.RegionWith
import Derived.Deep.RegionHeld3
set_option maxHeartbeats 6400000
set_option maxRecDepth 100000
namespace Go.Proofs.YtgekmbfmfiikkaaGreatDoor
open Go.RowKit
@[go_sem] theorem run_store_float {P : Program} {w : World} {a : Addr} {m : Mode} (k : FloatKind) (x : Nat) : (store a (.float k x) m).run P w = stored P w a (.float k x) m := run_store P w a _ m rfl
end Go.Proofs.YtgekmbfmfiikkaaGreatDoor
namespace Go.Proofs.YtgekmbfmfiikkaaGreatDoor
open Go.RowKit
def mkLimb (k : Nat) : List Value := [.int .u32 (100000 + ((k : Nat) : Int))]
theorem markLimb_any (k : Nat) (hk : k ≤ 1000000000) (w : World) : Calls Tryz.prog 177 #[.int .i64 (k : Int)] w fun e w' => e = .returned (.int .u32 (100000 + ((k : Nat) : Int))) ∧ Below w.heap.size w w' := by
 go_enter Tryz.func177, Tryz.ntmps177
 go_wp2_with fail
 go_ret
 exact ⟨rfl, Below.refl _ _⟩
theorem isLimb_any (k : Nat) (hk : k ≤ 1000000000) (w : World) : Calls Tryz.prog 193 #[.int .u32 (100000 + ((k : Nat) : Int)), .int .i64 (k : Int)] w fun e w' => e = .returned (.bool true) ∧ Below w.heap.size w w' := by
 go_enter Tryz.func193, Tryz.ntmps193
 go_wp2_with fail
 go_ret
 exact ⟨by simp, Below.refl _ _⟩
def FilledLimb (base : Nat) (w : World) (L : List Hl) : Prop := ∀ (i : Nat) (h : Hl), L[i]? = some h → ∃ zs, w.ownsRow base 164 1 h.v h.n zs ∧ Marked (mkLimb h.k) 1 h.n zs
theorem fillLimb_more {zs : List Value} {k n q : Nat} (hl : zs.length = n * 1) (hq : q < n) (h : ∀ j, j < q * 1 → zs[j]? = (mkLimb k)[j % 1]?) : ∀ j, j < (q + 1) * 1 → (zs.set (q) (.int .u32 (100000 + ((k : Nat) : Int))))[j]? = (mkLimb k)[j % 1]? := fun j hj => by
 by_cases e : q = j
 ·subst e
  rw [List.getElem?_set_self (by omega), Nat.mod_one]
  rfl
 ·rw [List.getElem?_set_ne e]
  exact h j (by omega)
theorem fillLimb_any (B H cap base : Nat) (L : List Hl) (w : World) (hB : w.cell? ⟨B, 1, none⟩ = some (.slice (some ⟨H, 0, none⟩) L.length cap)) (hBl : B < w.heap.size) (hH : Held w H L) (hO : Owd base 164 1 w L) (hD : Dis L) (hSB : ¬ Sv L B) (hSH : ¬ Sv L H)
  (hk : ∀ (i : Nat) (h : Hl), L[i]? = some h → h.k ≤ 1000000000 ∧ h.n ≤ 1000000000) (hm : L.length ≤ 1000000000) :
  Calls Tryz.prog 60 #[.pointer (some ⟨B, 0, none⟩)] w fun e w' => e = .returned (.tuple #[]) ∧ Fr (Sv L) w w' ∧ FilledLimb base w' L := by
 obtain ⟨N, hN⟩ : ∃ N, L.length = N := ⟨_, rfl⟩
 rw [hN] at hB hm
 have HN := Lib.hid hN
 have HB := Lib.hid hB
 have HH := Lib.hid hH
 have HO := Lib.hid hO
 have HD := Lib.hid hD
 have HSB := Lib.hid hSB
 have HSH := Lib.hid hSH
 have HK := Lib.hid hk
 have HBL := Lib.hid hBl
 clear hN hB hH hO hD hSB hSH hk hBl
 go_enter Tryz.func60, Tryz.ntmps60
 go_wp2_with fail
 go_loopw [2] (fun i wr => ∃ m : Nat, i = .int .i64 (m : Int) ∧ m ≤ N ∧ Hid (Fr (Sv L) w wr) ∧ Hid (∀ (j : Nat) (h : Hl), L[j]? = some h → (j < m → ∃ zs, wr.ownsRow base 164 1 h.v h.n zs ∧ Marked (mkLimb h.k) 1 h.n zs) ∧ (m ≤ j → wr.ownsRow base 164 1 h.v h.n h.xs))) (fun i _ => N - (intOf i).toNat)
 case atStart => exact ⟨0, rfl, Nat.zero_le _, Lib.hid (Fr.refl _ _), Lib.hid (fun j h hj => ⟨fun e => absurd e (by omega), fun _ => HO.out j h hj⟩)⟩
 case round =>
  obtain ⟨m, rfl, hmN, HF, HR⟩ := hrel
  have cB : wr.cell? ⟨B, 1, none⟩ = some (.slice (some ⟨H, 0, none⟩) N cap) := (HF.out.cell HBL.out HSB.out).trans HB.out
  by_cases hlt : m < N
  ·obtain ⟨⟨A, n, c, xs, lA, ln, lc, k⟩, hh⟩ : ∃ h, L[m]? = some h := ⟨_, List.getElem?_eq_getElem (by have := HN.out; omega)⟩
   obtain ⟨a0, a1, a2⟩ := (HH.out.next HF.out HSH.out).at_ hh
   obtain ⟨hkk, hnn⟩ : k ≤ 1000000000 ∧ n ≤ 1000000000 := HK.out m _ hh
   have hown0 : wr.ownsRow base 164 1 (.slice A n c) n xs := (HR.out m _ hh).2 (Nat.le_refl _)
   have HE := Lib.hid hh
   clear hh
   go_wp2_with fail
   obtain ⟨W, hW⟩ : ∃ W, W = wr := ⟨_, rfl⟩
   subst hW
   have hownA := hown0.alloc (.cells #[.slice A n c, .slice lA ln lc, .int .i64 (k : Int)] 163)
   have hne : ∀ g, Value.ownBlock (.slice A n c) = some g → g < W.heap.size := fun g hg => (hown0.lt g hg).2
   have HNE := Lib.hid hne
   clear hne hown0
   go_loopw [4] (fun i wr => ∃ (q : Nat) (zs : List Value), i = .int .i64 (q : Int) ∧ q ≤ n ∧ Hid (Fr (fun b => Value.ownBlock (.slice A n c) = some b) (W.alloc (.cells #[.slice A n c, .slice lA ln lc, .int .i64 (k : Int)] 163)) wr) ∧ wr.ownsRow base 164 1 (.slice A n c) n zs ∧ Hid (∀ j, j < q * 1 → zs[j]? = (mkLimb k)[j % 1]?)) (fun i _ => n - (intOf i).toNat)
   case atStart => exact ⟨0, xs, rfl, Nat.zero_le _, Lib.hid (Fr.refl _ _), hownA, Lib.hid (fun j hj => absurd hj (by omega))⟩
   case round =>
    clear hownA
    obtain ⟨q, zs, rfl, hqn, HFq, hown, HZ⟩ := hrel
    have hbx : W.heap.size < (W.alloc (.cells #[.slice A n c, .slice lA ln lc, .int .i64 (k : Int)] 163)).heap.size := by simp
    have hnb : ¬ (Value.ownBlock (.slice A n c) = some W.heap.size) := fun e => by have := HNE.out _ e; omega
    have b0 : wr.cell? ⟨W.heap.size, 0, none⟩ = some (.slice A n c) := (HFq.out.cell hbx hnb).trans (by simp [go_sem])
    have b2 : wr.cell? ⟨W.heap.size, 2, none⟩ = some (.int .i64 (k : Int)) := (HFq.out.cell hbx hnb).trans (by simp [go_sem])
    have hbl : W.heap.size < wr.heap.size := Nat.lt_of_lt_of_le hbx HFq.out.size
    clear hbx
    by_cases hqlt : q < n
    ·obtain ⟨g, c', hv, hbg, hg⟩ := hown.form (by omega)
     injection hv with hv1 hv2 hv3
     subst hv1; subst hv3
     have hgb : ¬ g = W.heap.size := fun e => hnb (by rw [← e]; rfl)
     have hgb2 : ¬ W.heap.size = g := fun e => hgb e.symm
     have c0 := hown.cellAt (q) (by omega)
     have f0 := hown.frozenAt (q)
     rw [List.getElem?_eq_getElem (by have := hown.1; omega)] at c0
     clear hnb
     go_wp2_with fail
     go_region_with (first
      | (go_at_call 177; (with_reducible refine (markLimb_any k hkk _).mono ?_); rintro e1 w1 ⟨rfl, hb1⟩; obtain ⟨r1, r2⟩ := bcell hb1; have b01 := (r1 W.heap.size 0 (by exact hbl)).trans b0; have b21 := (r1 W.heap.size 2 (by exact hbl)).trans b2; have hown1 := Fr.row hown.drew (Fr.of_below (fun _ => False) hb1) (fun _ _ => id); have c10 := hown1.cellAt (q) (by omega); have f10 := hown1.frozenAt (q); rw [List.getElem?_eq_getElem (by have := hown1.1; omega)] at c10; have HF1 := Lib.hid (HFq.out.drew.next hb1); clear r1 r2 hb1)
      | fail)
     all_goals (go_wp2_with fail)
     all_goals (go_roundw)
     all_goals (first
      | exact ⟨q + 1, _, by go_num, by omega, Lib.hid (HF1.out.trans (Fr.set (fun b => Value.ownBlock (.slice (some ⟨g, 0, none⟩) n c) = some b) _ rfl (q) (.int .u32 (100000 + ((k : Nat) : Int))))), (hown1.stored (q) (.int .u32 (100000 + ((k : Nat) : Int)))).1, Lib.hid (fillLimb_more hown.1 hqlt HZ.out)⟩
      | (simp [intOf]; omega))
    ·obtain rfl : q = n := by omega
     go_wp2_with fail
     refine ⟨⟨m + 1, by go_num, by omega, Lib.hid (fr_step HE.out HF.out HFq.out), Lib.hid (fun j h hj => ⟨fun hlt => ?_, fun hle => row_step HE.out HD.out HFq.out hj (by omega) ((HR.out j h hj).2 (by omega))⟩)⟩, ?_⟩
     ·by_cases e : j = m
      ·subst e
       obtain rfl : h = ⟨A, q, c, xs, lA, ln, lc, k⟩ := by have := HE.out.symm.trans hj; injection this with this; exact this.symm
       exact ⟨zs, hown, HZ.out⟩
      ·obtain ⟨zs', h1, h2⟩ := (HR.out j h hj).1 (by omega)
       exact ⟨zs', row_step HE.out HD.out HFq.out hj e h1, h2⟩
     ·simp [intOf]
      omega
  ·obtain rfl : m = N := by omega
   go_wp2_with fail
   exact bodyPost_end (v := .tuple #[]) (by simp [results, Tryz.results60]) rfl ⟨rfl, HF.out, fun j h hj => (HR.out j h hj).1 (by have := (List.getElem?_eq_some_iff.1 hj).1; have := HN.out; omega)⟩
theorem infoLimb : (Tryz.prog.info? 164).map (fun i => (i.zero, i.size, i.bytes)) = some (some (.int .u32 0), 1, 4) := by kernel_rfl
theorem growLimb_any (B H cap base : Nat) (L : List Hl) (w : World) (hB : w.cell? ⟨B, 1, none⟩ = some (.slice (some ⟨H, 0, none⟩) L.length cap)) (hBl : B < w.heap.size) (hH : w.ownsRow base 163 3 (.slice (some ⟨H, 0, none⟩) L.length cap) L.length (flat L)) (hO : FilledLimb base w L) (hD : Dis L) (hSB : ¬ Sv L B) (hSH : ¬ Sv L H) (hBH : B ≠ H)
  (hk : ∀ (i : Nat) (h : Hl), L[i]? = some h → h.k ≤ 1000000000 ∧ h.n ≤ 1000000000) (hm : L.length ≤ 1000000000) (hbase : base ≤ w.heap.size) :
  Calls Tryz.prog 76 #[.pointer (some ⟨B, 0, none⟩)] w fun e w' => e = .returned (.tuple #[]) ∧ ∃ L' : List Hl, L'.length = L.length ∧ w'.ownsRow base 163 3 (.slice (some ⟨H, 0, none⟩) L'.length cap) L'.length (flat L') ∧ Fr (fun b => Sv L b ∨ b = H) w w' ∧ ∀ (i : Nat) (h : Hl), L[i]? = some h → ∃ h', L'[i]? = some h' ∧ Gr w.heap.size mkLimb 1 w' h h' := by
 obtain ⟨i0, hi, hz0, hz1, hz2⟩ := info_parts infoLimb
 obtain ⟨N, hN⟩ : ∃ N, L.length = N := ⟨_, rfl⟩
 rw [hN] at hB hm hH
 have hHl := (hH.lt H rfl).2
 have hold : ∀ b, Sv L b → b < w.heap.size := fun b ⟨i, h, hi, hb⟩ => by obtain ⟨zs, hz, _⟩ := hO i h hi; exact (hz.lt b hb).2
 have HOLD := Lib.hid hold
 have HHL := Lib.hid hHl
 have HN := Lib.hid hN
 have HB := Lib.hid hB
 have HH := Lib.hid hH
 have HO := Lib.hid hO
 have HD := Lib.hid hD
 have HSB := Lib.hid hSB
 have HSH := Lib.hid hSH
 have HK := Lib.hid hk
 have HBL := Lib.hid hBl
 have HBH := Lib.hid hBH
 clear hN hB hH hO hD hSB hSH hk hBl hBH hold hHl
 go_enter Tryz.func76, Tryz.ntmps76
 go_wp2_with fail
 go_loopw [2] (fun i wr => ∃ (m : Nat) (L' : List Hl), i = .int .i64 (m : Int) ∧ m ≤ N ∧ L'.length = N ∧ wr.ownsRow base 163 3 (.slice (some ⟨H, 0, none⟩) N cap) N (flat L') ∧ Hid (Fr (fun b => Sv L b ∨ b = H) w wr) ∧
   Hid (∀ (j : Nat) (h : Hl), L[j]? = some h → (j < m → ∃ h', L'[j]? = some h' ∧ Gr w.heap.size mkLimb 1 wr h h') ∧ (m ≤ j → L'[j]? = some h ∧ ∃ zs, wr.ownsRow base 164 1 h.v h.n zs ∧ Marked (mkLimb h.k) 1 h.n zs))) (fun i _ => N - (intOf i).toNat)
 case atStart => exact ⟨0, L, rfl, Nat.zero_le _, HN.out, HH.out, Lib.hid (Fr.refl _ _), Lib.hid (fun j h hj => ⟨fun e => absurd e (by omega), fun _ => ⟨hj, HO.out j h hj⟩⟩)⟩
 case round =>
  obtain ⟨m, L', rfl, hmN, hL', hrow, HF, HR⟩ := hrel
  have cB : wr.cell? ⟨B, 1, none⟩ = some (.slice (some ⟨H, 0, none⟩) N cap) := (HF.out.cell HBL.out (fun e => e.elim HSB.out HBH.out)).trans HB.out
  by_cases hlt : m < N
  ·obtain ⟨⟨A, n, c, xs, lA, ln, lc, k⟩, hh⟩ : ∃ h, L[m]? = some h := ⟨_, List.getElem?_eq_getElem (by have := HN.out; omega)⟩
   obtain ⟨hL2, zs, hownz, hmz⟩ := (HR.out m _ hh).2 (Nat.le_refl _)
   have hHd : Held wr H L' := ⟨(hrow.lt H rfl).2, fun j u hu => by rw [hrow.cellAt j (by have := (List.getElem?_eq_some_iff.1 hu).1; rw [flat_len] at this; omega)]; exact hu⟩
   obtain ⟨a0, a1, a2⟩ := hHd.at_ hL2
   obtain ⟨hkk, hnn⟩ : k ≤ 1000000000 ∧ n ≤ 1000000000 := HK.out m _ hh
   have hown0 : wr.ownsRow base 164 1 (.slice A n c) n zs := hownz
   have HE := Lib.hid hh
   have HM0 : Hid (Marked (mkLimb k) 1 n zs) := Lib.hid hmz
   have HL2 := Lib.hid hL2
   have HLN := Lib.hid hL'
   have hbw : base ≤ wr.heap.size := Nat.le_trans hbase HF.out.size
   clear hh hownz hmz hHd hL2 hL'
   obtain ⟨W, hW⟩ : ∃ W, W = wr := ⟨_, rfl⟩
   subst hW
   go_wp2_with fail
   have hownA := hown0.alloc (.cells #[.slice A n c, .slice lA ln lc, .int .i64 (k : Int)] 163)
   have hne : ∀ g, Value.ownBlock (.slice A n c) = some g → g < W.heap.size := fun g hg => (hown0.lt g hg).2
   have HNE := Lib.hid hne
   have HROW := Lib.hid hrow
   clear hne hown0 hrow
   go_loopw [4, 5] (fun lo i wr => ∃ (t : Nat) (A' : Option Addr) (c' : Nat) (ys : List Value), lo = (.slice A' (n + t) c') ∧ i = .int .i64 (t : Int) ∧ t ≤ 70 ∧ wr.ownsRow base 164 1 (.slice A' (n + t) c') (n + t) ys ∧ Hid (Marked (mkLimb k) 1 (n + t) ys) ∧ Hid (Mk wr (mkLimb k) 1 (.slice A n c) n) ∧
     Hid (∀ g, Value.ownBlock (.slice A' (n + t) c') = some g → Value.ownBlock (.slice A n c) = some g ∨ (W.alloc (.cells #[.slice A n c, .slice lA ln lc, .int .i64 (k : Int)] 163)).heap.size ≤ g) ∧ Hid (Fr (fun b => Value.ownBlock (.slice A n c) = some b) (W.alloc (.cells #[.slice A n c, .slice lA ln lc, .int .i64 (k : Int)] 163)) wr)) (fun _ i _ => 70 - (intOf i).toNat)
   case atStart => exact ⟨0, A, c, zs, rfl, rfl, by omega, hownA, HM0, Lib.hid (Mk.of_row hownA HM0.out), Lib.hid (fun g hg => .inl hg), Lib.hid (Fr.refl _ _)⟩
   case round =>
    clear hownA
    obtain ⟨t, A', c', ys, rfl, rfl, ht, hown, HZ, HMk, HLB, HFq⟩ := hrel
    have hbx : W.heap.size < (W.alloc (.cells #[.slice A n c, .slice lA ln lc, .int .i64 (k : Int)] 163)).heap.size := by simp
    have hnb : ¬ (Value.ownBlock (.slice A n c) = some W.heap.size) := fun e => by have := HNE.out _ e; omega
    have b2 : wr.cell? ⟨W.heap.size, 2, none⟩ = some (.int .i64 (k : Int)) := (HFq.out.cell hbx hnb).trans (by simp [go_sem])
    have hbr : base ≤ wr.heap.size := by have := HFq.out.size; simp at this; omega
    have hbl : W.heap.size < wr.heap.size := Nat.lt_of_lt_of_le hbx HFq.out.size
    clear hbx hnb
    by_cases hqlt : t < 70
    ·go_wp2_with (first
      | (go_at_call 177; (with_reducible refine (markLimb_any k hkk _).mono ?_); rintro e1 w1 ⟨rfl, hb1⟩; have hown1 := (Fr.row hown (Fr.of_below (fun _ => False) hb1) (fun _ _ => id)).alloc (.cells #[.int .u32 (100000 + ((k : Nat) : Int))] 164); have HM1 := Lib.hid ((HMk.out.next (Fr.of_below (fun _ => False) hb1) (fun _ _ => id)).next ((Fr.refl (fun _ => False) w1).alloc (.cells #[.int .u32 (100000 + ((k : Nat) : Int))] 164)) (fun _ _ => id)); have HF1 := Lib.hid ((HFq.out.next hb1).alloc (.cells #[.int .u32 (100000 + ((k : Nat) : Int))] 164)); have hsz1 := hb1.size)
      | (at_builtin; refine wpList_append_either _ rfl _ _ 22 rfl base 164 i0 (.int .u32 0) 1 4 Tryz.underlying22 hi hz0 hz1 hz2 rfl (by decide) (.slice A' (n + t) c') (n + t) ys rfl hown1 ⟨w1.heap.size, 0, none⟩ 1 1 [.int .u32 (100000 + ((k : Nat) : Int))] rfl rfl (World.news_of_block (heap_alloc_new w1 _)) (by simp [Value.oneCell']) (by decide) (by simp [maxLen]; omega) (by omega) (by simp; omega) ?_; intro g' cap' w2 hown2 hor))
     have hm2 : Marked (mkLimb k) 1 (n + t + 1) (ys ++ [.int .u32 (100000 + ((k : Nat) : Int))]) := HZ.out.app hown.1 rfl
     obtain ⟨hF2, hl2⟩ := fr_grow HF1.out HLB.out hor
     have hM2 := mk_grow HM1.out hown2 hm2 (by omega) hor
     go_roundw
     case rel => exact ⟨t + 1, some ⟨g', 0, none⟩, cap', _, rfl, by go_num, by omega, hown2, Lib.hid hm2, Lib.hid hM2, Lib.hid (fun g hg => by injection hg with hg; subst hg; exact hl2), Lib.hid hF2⟩
     case measure => simp [intOf]; omega
    ·obtain rfl : t = 70 := by omega
     have hHS : ¬ (Value.ownBlock (.slice A n c) = some H) := fun e => HSH.out ⟨m, _, HE.out, e⟩
     have hBS : ¬ (Value.ownBlock (.slice A n c) = some B) := fun e => HSB.out ⟨m, _, HE.out, e⟩
     have hrow1 : wr.ownsRow base 163 3 (.slice (some ⟨H, 0, none⟩) N cap) N (flat L') := Fr.row (HROW.out.alloc (.cells #[.slice A n c, .slice lA ln lc, .int .i64 (k : Int)] 163)) HFq.out (fun g hg => by injection hg with hg; subst hg; exact hHS)
     have hBw : B < W.heap.size := Nat.lt_of_lt_of_le HBL.out HF.out.size
     have cB1 : wr.cell? ⟨B, 1, none⟩ = some (.slice (some ⟨H, 0, none⟩) N cap) := (HFq.out.cell (by simp; omega) hBS).trans ((World.cell?_alloc_lt W _ _ hBw).trans cB)
     have d1 := hrow1.cellAt (m * 3 + 1) (by omega)
     rw [(flat_get HL2.out).2.1] at d1
     have e1 := hrow1.frozenAt (m * 3 + 1)
     have hst := (hrow1.stored (m * 3 + 1) (.slice A' (n + 70) c')).1
     rw [flat_set L' m _ A' (n + 70) c' HL2.out] at hst
     have hFs : Fr (fun b => b = H) wr (wr.setCell ⟨H, m * 3 + 1, none⟩ (.slice A' (n + 70) c')) := Fr.set (fun b => b = H) _ rfl _ _
     have hF3 : Fr (fun b => Value.ownBlock (.slice A n c) = some b ∨ b = H) W (wr.setCell ⟨H, m * 3 + 1, none⟩ (.slice A' (n + 70) c')) := (((Fr.refl _ W).alloc (.cells #[.slice A n c, .slice lA ln lc, .int .i64 (k : Int)] 163)).trans (HFq.out.mono fun _ h => .inl h)).trans (hFs.mono fun _ h => .inr h)
     have hlate : ∀ g, w.heap.size ≤ g → ¬ (Value.ownBlock (.slice A n c) = some g ∨ g = H) := fun g hg e => e.elim (fun e => by have := HOLD.out g ⟨m, _, HE.out, e⟩; omega) (fun e => by have := HHL.out; omega)
     have hother : ∀ (j : Nat) (h : Hl), j ≠ m → L[j]? = some h → ∀ g, h.v.ownBlock = some g → ¬ (Value.ownBlock (.slice A n c) = some g ∨ g = H) := fun j h hne hj g hg e => e.elim (fun e => HD.out m j _ h (fun q => hne q.symm) HE.out hj g e hg) (fun e => HSH.out ⟨j, h, hj, by rw [← e]; exact hg⟩)
     have hHW : H < W.heap.size := Nat.lt_of_lt_of_le HHL.out HF.out.size
     have hWw : w.heap.size ≤ (W.alloc (.cells #[.slice A n c, .slice lA ln lc, .int .i64 (k : Int)] 163)).heap.size := by have := HF.out.size; simp; omega
     have hM3 : Mk (wr.setCell ⟨H, m * 3 + 1, none⟩ (.slice A' (n + 70) c')) (mkLimb k) 1 (.slice A n c) n := HMk.out.next hFs (fun g hg e => hHS (by rw [← e]; exact hg))
     have hM4 : Mk (wr.setCell ⟨H, m * 3 + 1, none⟩ (.slice A' (n + 70) c')) (mkLimb k) 1 (.slice A' (n + 70) c') (n + 70) := (Mk.of_row hown HZ.out).next hFs (fun g hg e => (HLB.out g hg).elim (fun q => hHS (by rw [← e]; exact q)) (fun q => by simp at q; omega))
     have hLB2 : ∀ g, Value.ownBlock (.slice A' (n + 70) c') = some g → Value.ownBlock (.slice A n c) = some g ∨ w.heap.size ≤ g := fun g hg => (HLB.out g hg).imp id (fun q => by omega)
     have HX1 := Lib.hid hF3
     have HX2 := Lib.hid hlate
     have HX3 := Lib.hid hother
     have HX4 := Lib.hid hM3
     have HX5 := Lib.hid hM4
     have HX6 := Lib.hid hLB2
     clear cB b2 hF3 hlate hother hM3 hM4 hLB2 hFs hWw hHW
     go_wp2_with fail
     refine ⟨⟨m + 1, _, by go_num, by omega, ?_, hst, Lib.hid (HF.out.trans (HX1.out.mono fun b hb => hb.imp (fun e => ⟨m, _, HE.out, e⟩) id)), Lib.hid (fun j h hj => ⟨fun hlt => ?_, fun hle => ?_⟩)⟩, ?_⟩
     ·rw [List.length_set]; exact HLN.out
     ·by_cases e : j = m
      ·subst e
       obtain rfl : h = ⟨A, n, c, xs, lA, ln, lc, k⟩ := by have := HE.out.symm.trans hj; injection this with this; exact this.symm
       exact ⟨_, List.getElem?_set_self (by have := HLN.out; omega), rfl, rfl, rfl, rfl, rfl, HX4.out, HX5.out, HX6.out⟩
      ·obtain ⟨h', h1, h2⟩ := (HR.out j h hj).1 (by omega)
       exact ⟨h', by rw [List.getElem?_set_ne (fun q => e q.symm)]; exact h1, h2.next HX1.out (HX3.out j h e hj) HX2.out⟩
     ·obtain ⟨h1, zs', h2, h3⟩ := (HR.out j h hj).2 (by omega)
      exact ⟨by rw [List.getElem?_set_ne (by omega)]; exact h1, zs', Fr.row h2 HX1.out (HX3.out j h (by omega) hj), h3⟩
     ·simp [intOf]
      omega
  ·obtain rfl : m = N := by omega
   go_wp2_with fail
   exact bodyPost_end (v := .tuple #[]) (by simp [results, Tryz.results76]) rfl ⟨rfl, L', hL'.trans HN.out.symm, by rw [hL']; exact hrow, HF.out, fun j h hj => (HR.out j h hj).1 (by have := (List.getElem?_eq_some_iff.1 hj).1; have := HN.out; omega)⟩
end Go.Proofs.YtgekmbfmfiikkaaGreatDoor
