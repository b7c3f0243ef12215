/-
  The references' spans (polestarref05): the least and the greatest of some fractions.
-/
import Derived.Test.YtcjpocepgkfkaaaGreatFrX
namespace Go.Proofs.YtcjpocepgkfkaaaGreat
open Go.RowKit

/-- A fraction in memory: its two numbers' values, and what it is worth. -/
abbrev FrE := (Bool × Option Addr × Nat × Nat) × (Bool × Option Addr × Nat × Nat) × Rat
def FrE.vs (f : FrE) : List Value := [.bool f.1.1, .slice f.1.2.1 f.1.2.2.1 f.1.2.2.2, .bool f.2.1.1, .slice f.2.1.2.1 f.2.1.2.2.1 f.2.1.2.2.2]
def FrE.at_ (wr : World) (f : FrE) : Prop := IsInt wr f.1.1 f.1.2.1 f.1.2.2.1 f.1.2.2.2 f.2.2.num ∧ IsInt wr f.2.1.1 f.2.1.2.1 f.2.1.2.2.1 f.2.1.2.2.2 (f.2.2.den : Int)
/-- A block that holds fractions. -/
def Frs (wr : World) (g N : Nat) (F : Nat → FrE) : Prop :=
  g < wr.heap.size ∧ ∀ i, i < N → (wr.cell? ⟨g, i * 4, none⟩ = some (.bool (F i).1.1) ∧ wr.cell? ⟨g, i * 4 + 1, none⟩ = some (.slice (F i).1.2.1 (F i).1.2.2.1 (F i).1.2.2.2) ∧
    wr.cell? ⟨g, i * 4 + 2, none⟩ = some (.bool (F i).2.1.1) ∧ wr.cell? ⟨g, i * 4 + 3, none⟩ = some (.slice (F i).2.1.2.1 (F i).2.1.2.2.1 (F i).2.1.2.2.2)) ∧ FrE.at_ wr (F i)
theorem Frs.next {wr w' : World} {g N : Nat} {F : Nat → FrE} (h : Frs wr g N F) (hb : Below wr.heap.size wr w') : Frs w' g N F := by
  refine ⟨Nat.lt_of_lt_of_le h.1 hb.size, fun i hi => ?_⟩
  obtain ⟨⟨h0, h1, h2, h3⟩, h4⟩ := h.2 i hi
  obtain ⟨hc, _⟩ := bcell hb
  exact ⟨⟨(hc _ _ h.1).trans h0, (hc _ _ h.1).trans h1, (hc _ _ h.1).trans h2, (hc _ _ h.1).trans h3⟩, h4.1.below hb, h4.2.below hb⟩
theorem Frs.drewN {wr : World} {g N : Nat} {F : Nat → FrE} (h : Frs wr g N F) (j : Nat) : Frs (wr.drewN j) g N F := h.next (below_drewN (Below.refl _ _) j)
theorem Frs.store {wr : World} {g N : Nat} {F : Nat → FrE} (h : Frs wr g N F) {g' j : Nat} (hne : g' ≠ g) {u : Value} (hc : wr.cell? ⟨g', j, none⟩ = some u) (hu : ∀ x, u ≠ .int .u32 x) (v : Value) : Frs (wr.setCell ⟨g', j, none⟩ v) g N F := by
  have far : ∀ o, (wr.setCell ⟨g', j, none⟩ v).cell? ⟨g, o, none⟩ = wr.cell? ⟨g, o, none⟩ := fun o => World.cell?_setCell_other wr ⟨g', j, none⟩ ⟨g, o, none⟩ _ (by intro q; injection q with q; exact hne q)
  refine ⟨by simpa [World.setCell] using h.1, fun i hi => ?_⟩
  obtain ⟨⟨h0, h1, h2, h3⟩, h4⟩ := h.2 i hi
  exact ⟨⟨(far _).trans h0, (far _).trans h1, (far _).trans h2, (far _).trans h3⟩, IsInt.store h4.1 v hc hu, IsInt.store h4.2 v hc hu⟩
theorem Frs.store4 {wr : World} {g N : Nat} {F : Nat → FrE} (h : Frs wr g N F) {g' : Nat} (hne : g' ≠ g) {b0 b1 : Bool} {a0 a1 : Option Addr} {n0 c0 n1 c1 : Nat} (hB : Blk wr g' [.bool b0, .slice a0 n0 c0, .bool b1, .slice a1 n1 c1]) (v0 v1 v2 v3 : Value) :
    Frs ((((wr.setCell ⟨g', 0, none⟩ v0).setCell ⟨g', 1, none⟩ v1).setCell ⟨g', 2, none⟩ v2).setCell ⟨g', 3, none⟩ v3) g N F := by
  have B1 := hB.set (j := 0) (by simp) v0
  have B2 := B1.set (j := 1) (by simp) v1
  have B3 := B2.set (j := 2) (by simp) v2
  exact (((h.store hne (hB.2 0 _ rfl).1 (by simp) v0).store hne (B1.2 1 _ rfl).1 (by simp) v1).store hne (B2.2 2 _ rfl).1 (by simp) v2).store hne (B3.2 3 _ rfl).1 (by simp) v3
def FrE.val (f : FrE) : Value := .agg #[.bool f.1.1, .slice f.1.2.1 f.1.2.2.1 f.1.2.2.2, .bool f.2.1.1, .slice f.2.1.2.1 f.2.1.2.2.1 f.2.1.2.2.2]
def RetFew (W : World) (N : Nat) (F : Nat → FrE) (e : Ending) (w' : World) : Prop :=
  ∃ a b, a < N ∧ b < N ∧ e = .returned (.tuple #[(F a).val, (F b).val]) ∧ (∀ j, j < N → (F a).2.2 ≤ (F j).2.2 ∧ (F j).2.2 ≤ (F b).2.2) ∧ FrE.at_ w' (F a) ∧ FrE.at_ w' (F b) ∧ Below W.heap.size W w'
/-- The walk's memory in few: the least of the first k stands in one block, the greatest in another one. -/
def FewR (w : World) (g N k : Nat) (F : Nat → FrE) (b1 : Bool) (B1 : Option Addr) (p1 q1 : Nat) (b2 : Bool) (B2 : Option Addr) (p2 q2 : Nat) (xa : Rat) (d1 : Bool) (D1 : Option Addr) (r1 s1 : Nat) (d2 : Bool) (D2 : Option Addr) (r2 s2 : Nat) (xb : Rat) (wr : World) : Prop :=
  Mm w [(w.heap.size + 1 + 1, [.bool b1, .slice B1 p1 q1, .bool b2, .slice B2 p2 q2]), (w.heap.size + 1 + 1 + 1, [.bool d1, .slice D1 r1 s1, .bool d2, .slice D2 r2 s2]), (w.heap.size, [.bool false, .slice none 0 0, .bool false, .slice none 0 0]), (w.heap.size + 1, [.bool false, .slice none 0 0, .bool false, .slice none 0 0])]
    [(b1, B1, p1, q1, xa.num), (b2, B2, p2, q2, (xa.den : Int)), (d1, D1, r1, s1, xb.num), (d2, D2, r2, s2, (xb.den : Int))] wr ∧ Frs wr g N F ∧
  Hid (1 ≤ k ∧ k ≤ N ∧ (∃ a, a < k ∧ F a = ((b1, B1, p1, q1), (b2, B2, p2, q2), xa)) ∧ (∃ b, b < k ∧ F b = ((d1, D1, r1, s1), (d2, D2, r2, s2), xb)) ∧ ∀ j, j < k → xa ≤ (F j).2.2 ∧ (F j).2.2 ≤ xb)

set_option maxRecDepth 100000 in
set_option maxHeartbeats 3200000 in
theorem ref5_few_any (g N c m : Nat) (F : Nat → FrE) (w : World) (hL : Frs w g N F) (hN0 : 0 < N) (hN : N ≤ 1000) (hc : N ≤ c) (hS : Hid (∀ i, i < N → Sz (F i).2.2 m)) (hm : m ≤ 10000) :
    Calls Tryz.prog 21 #[.slice (some ⟨g, 0, none⟩) N c] w (RetFew w N F) := by
  obtain ⟨⟨a0, a1, a2, a3⟩, _⟩ := hL.2 0 hN0
  have hg := hL.1
  obtain ⟨f0, hf0⟩ : ∃ f, F 0 = f := ⟨_, rfl⟩
  have K0 := ((((Mm.nil w).var (g := w.heap.size) rfl [.bool false, .slice none 0 0, .bool false, .slice none 0 0] 49).var (g := w.heap.size + 1) (by simp) [.bool false, .slice none 0 0, .bool false, .slice none 0 0] 49).var (g := w.heap.size + 1 + 1) (by simp) f0.vs 49).var (g := w.heap.size + 1 + 1 + 1) (by simp) f0.vs 49
  have hI := hL.2 0 hN0
  rw [hf0] at hI
  have K1 := (((K0.int (IsInt.below hI.2.1 K0.1)).int (IsInt.below hI.2.2 K0.1)))
  have KF := hL.next K0.1
  clear hI
  rw [hf0] at a0 a1 a2 a3
  simp only [Nat.zero_mul, Nat.zero_add] at a0 a1 a2 a3
  have z1 : g < w.heap.size + 1 := by omega
  have z2 : g < w.heap.size + 1 + 1 := by omega
  have z3 : g ≤ w.heap.size := by omega
  have z4 : g ≤ w.heap.size + 1 := by omega
  have HF0 := Lib.hid hf0
  clear hf0
  obtain ⟨⟨b1, B1, p1, q1⟩, ⟨b2, B2, p2, q2⟩, x0⟩ := f0
  go_enter Tryz.func21, Tryz.ntmps21
  go_wp2_with fail
  go_loopw [6] (fun i wr => ∃ (k : Nat) (b1 : Bool) (B1 : Option Addr) (p1 q1 : Nat) (b2 : Bool) (B2 : Option Addr) (p2 q2 : Nat) (xa : Rat) (d1 : Bool) (D1 : Option Addr) (r1 s1 : Nat) (d2 : Bool) (D2 : Option Addr) (r2 s2 : Nat) (xb : Rat), i = .int .i64 (k : Int) ∧
      FewR w g N k F b1 B1 p1 q1 b2 B2 p2 q2 xa d1 D1 r1 s1 d2 D2 r2 s2 xb wr) (fun i _ => N - (intOf i).toNat)
  case atStart => exact ⟨1, _, _, _, _, _, _, _, _, _, _, _, _, _, _, _, _, _, _, rfl, K1.pick (by simp [FrE.vs]) (by simp), KF, Lib.hid ⟨Nat.le_refl _, hN0, ⟨0, by omega, HF0.out⟩, ⟨0, by omega, HF0.out⟩, fun j hj => by
    have hj0 : j = 0 := by omega
    rw [hj0, HF0.out]
    exact ⟨Rat.le_refl, Rat.le_refl⟩⟩⟩
  case round =>
    clear a0 a1 a2 a3 K0 K1 KF z1 z2 z3 z4 hL HF0
    obtain ⟨k, b1, B1, p1, q1, b2, B2, p2, q2, xa, d1, D1, r1, s1, d2, D2, r2, s2, xb, rfl, KM, KF, HH⟩ := hrel
    have hk1 := HH.out.1
    have hk2 := HH.out.2.1
    by_cases hlt : k < N
    · obtain ⟨fi, hfi⟩ : ∃ f, F k = f := ⟨_, rfl⟩
      obtain ⟨⟨c0, c1, c2, c3⟩, ci⟩ := KF.2 k hlt
      have si := hS.out k hlt
      rw [hfi] at c0 c1 c2 c3 ci si
      obtain ⟨⟨i1, I1, t1, u1⟩, ⟨i2, I2, t2, u2⟩, xi⟩ := fi
      have KI := (KM.int ci.1).int ci.2
      obtain ⟨_, _, ⟨a, ha, hea⟩, ⟨b, hb, heb⟩, hall⟩ := HH.out
      have SI := Lib.hid si
      have SA : Hid (Sz xa m) := Lib.hid (by have h := hS.out a (by omega); rw [hea] at h; exact h)
      have SB : Hid (Sz xb m) := Lib.hid (by have h := hS.out b (by omega); rw [heb] at h; exact h)
      have HFI := Lib.hid hfi
      have hab : xa ≤ xb := by have h := hall a ha; rw [hea] at h; exact h.2
      have next : ∀ ya yb : Rat, ya ≤ xa → ya ≤ xi → xb ≤ yb → xi ≤ yb → ∀ j, j < k + 1 → ya ≤ (F j).2.2 ∧ (F j).2.2 ≤ yb := fun ya yb e1 e2 e3 e4 j hj => by
        by_cases hjk : j = k
        · rw [hjk, HFI.out]; exact ⟨e2, e4⟩
        · have h := hall j (by omega)
          exact ⟨Rat.le_trans e1 h.1, Rat.le_trans h.2 e3⟩
      clear si hfi KM
      obtain ⟨⟨qa0l, qb0l, qc0l, qd0l⟩, ⟨qe0l, qf0l, qg0l, qh0l⟩, qi0l⟩ := (KI.blk (g := w.heap.size + 1 + 1) (vs := [.bool b1, .slice B1 p1 q1, .bool b2, .slice B2 p2 q2]) (by simp)).four
      obtain ⟨⟨qa0h, qb0h, qc0h, qd0h⟩, ⟨qe0h, qf0h, qg0h, qh0h⟩, qi0h⟩ := (KI.blk (g := w.heap.size + 1 + 1 + 1) (vs := [.bool d1, .slice D1 r1 s1, .bool d2, .slice D2 r2 s2]) (by simp)).four
      by_cases h1 : xi < xa
      · have HV1 : Hid (rcmp xi xa = -1) := Lib.hid (by unfold rcmp; rw [if_pos h1])
        have hnb : ¬ xb < xi := by grind
        obtain ⟨v2, hv2⟩ : ∃ v, rcmp xi xb = v := ⟨_, rfl⟩
        have hv0 : v2 ≤ 0 := by rw [← hv2]; unfold rcmp; split <;> (try split) <;> first | omega | (exfalso; grind)
        have HV2 := Lib.hid hv2
        have HN : Hid (1 ≤ k + 1 ∧ k + 1 ≤ N ∧ (∃ a, a < k + 1 ∧ F a = ((i1, I1, t1, u1), (i2, I2, t2, u2), xi)) ∧ (∃ b, b < k + 1 ∧ F b = ((d1, D1, r1, s1), (d2, D2, r2, s2), xb)) ∧ ∀ j, j < k + 1 → xi ≤ (F j).2.2 ∧ (F j).2.2 ≤ xb) :=
          Lib.hid ⟨by omega, by omega, ⟨k, Nat.lt_succ_self k, HFI.out⟩, ⟨b, Nat.lt_succ_of_lt hb, heb⟩, next xi xb (Rat.le_of_lt h1) Rat.le_refl Rat.le_refl (by grind)⟩
        clear h1 hnb hv2 hab next hall hea heb ha hb hk1 hk2
        go_wp2_with fail
        go_region_held3 (fun w' => w'.cell? ⟨g, k * 4, none⟩ = some (.bool i1) ∧ w'.cell? ⟨g, k * 4 + 1, none⟩ = some (.slice I1 t1 u1) ∧ w'.cell? ⟨g, k * 4 + 2, none⟩ = some (.bool i2) ∧ w'.cell? ⟨g, k * 4 + 3, none⟩ = some (.slice I2 t2 u2) ∧ w'.cell? ⟨w.heap.size + 1 + 1, 0, none⟩ = some (.bool b1) ∧ w'.cell? ⟨w.heap.size + 1 + 1, 1, none⟩ = some (.slice B1 p1 q1) ∧ w'.cell? ⟨w.heap.size + 1 + 1, 2, none⟩ = some (.bool b2) ∧ w'.cell? ⟨w.heap.size + 1 + 1, 3, none⟩ = some (.slice B2 p2 q2))
          (go_keep)
          (first
            | (go_at_call 41; (with_reducible refine (ref2_cmp_any i1 i2 I1 I2 t1 u1 t2 u2 b1 b2 B1 B2 p1 q1 p2 q2 xi xa (-1) m m _ ?_ ?_ ?_ ?_ SI.out SA.out (by omega) HV1).mono ?_); (first | (with_reducible exact KI.at_ (by simp)) | (with_reducible exact KI.drew.at_ (by simp)) | (with_reducible exact (KI.drewN _).at_ (by simp))); (first | (with_reducible exact KI.at_ (by simp)) | (with_reducible exact KI.drew.at_ (by simp)) | (with_reducible exact (KI.drewN _).at_ (by simp))); (first | (with_reducible exact KI.at_ (by simp)) | (with_reducible exact KI.drew.at_ (by simp)) | (with_reducible exact (KI.drewN _).at_ (by simp))); (first | (with_reducible exact KI.at_ (by simp)) | (with_reducible exact KI.drew.at_ (by simp)) | (with_reducible exact (KI.drewN _).at_ (by simp))); rintro e1 w1 ⟨rfl, hb1⟩; (first | (with_reducible have K1 := (KI.next hb1)) | (with_reducible have K1 := (KI.drew.next hb1)) | (with_reducible have K1 := ((KI.drewN _).next hb1))); have KF1 := KF.next (by first | exact hb1 | exact below_of_drew hb1 | exact below_of_drewN hb1); obtain ⟨⟨g01, g11, g21, g31⟩, _⟩ := KF1.2 k hlt; rw [HFI.out] at g01 g11 g21 g31; have Q1l := (K1.blk (g := w.heap.size + 1 + 1) (vs := [.bool b1, .slice B1 p1 q1, .bool b2, .slice B2 p2 q2]) (by simp)).four; obtain ⟨⟨qa1l, qb1l, qc1l, qd1l⟩, ⟨qe1l, qf1l, qg1l, qh1l⟩, qi1l⟩ := Q1l; have Q1h := (K1.blk (g := w.heap.size + 1 + 1 + 1) (vs := [.bool d1, .slice D1 r1 s1, .bool d2, .slice D2 r2 s2]) (by simp)).four; obtain ⟨⟨qa1h, qb1h, qc1h, qd1h⟩, ⟨qe1h, qf1h, qg1h, qh1h⟩, qi1h⟩ := Q1h; clear hb1))
        go_wp2_with fail
        have KS := (K1.pick (L' := [(w.heap.size + 1 + 1, [.bool b1, .slice B1 p1 q1, .bool b2, .slice B2 p2 q2]), (w.heap.size + 1 + 1 + 1, [.bool d1, .slice D1 r1 s1, .bool d2, .slice D2 r2 s2]), (w.heap.size, [.bool false, .slice none 0 0, .bool false, .slice none 0 0]), (w.heap.size + 1, [.bool false, .slice none 0 0, .bool false, .slice none 0 0])]) (by simp) (fun p h => h)).set4 (by simp <;> omega) i1 I1 t1 u1 i2 I2 t2 u2
        have KFS := KF1.store4 (g' := w.heap.size + 1 + 1) (by omega) (K1.blk (g := w.heap.size + 1 + 1) (vs := [.bool b1, .slice B1 p1 q1, .bool b2, .slice B2 p2 q2]) (by simp)) (.bool i1) (.slice I1 t1 u1) (.bool i2) (.slice I2 t2 u2)
        generalize (((w1.setCell ⟨w.heap.size + 1 + 1, 0, none⟩ (.bool i1)).setCell ⟨w.heap.size + 1 + 1, 1, none⟩ (.slice I1 t1 u1)).setCell ⟨w.heap.size + 1 + 1, 2, none⟩ (.bool i2)).setCell ⟨w.heap.size + 1 + 1, 3, none⟩ (.slice I2 t2 u2) = ws at KS KFS ⊢
        obtain ⟨⟨h0, h1, h2, h3⟩, _⟩ := KFS.2 k hlt
        rw [HFI.out] at h0 h1 h2 h3
        obtain ⟨⟨qash, qbsh, qcsh, qdsh⟩, ⟨qesh, qfsh, qgsh, qhsh⟩, qish⟩ := (KS.blk (g := w.heap.size + 1 + 1 + 1) (vs := [.bool d1, .slice D1 r1 s1, .bool d2, .slice D2 r2 s2]) (by simp)).four
        go_wp2_with fail
        go_region_held3 (fun w' => w'.cell? ⟨g, k * 4, none⟩ = some (.bool i1) ∧ w'.cell? ⟨g, k * 4 + 1, none⟩ = some (.slice I1 t1 u1) ∧ w'.cell? ⟨g, k * 4 + 2, none⟩ = some (.bool i2) ∧ w'.cell? ⟨g, k * 4 + 3, none⟩ = some (.slice I2 t2 u2) ∧ w'.cell? ⟨w.heap.size + 1 + 1 + 1, 0, none⟩ = some (.bool d1) ∧ w'.cell? ⟨w.heap.size + 1 + 1 + 1, 1, none⟩ = some (.slice D1 r1 s1) ∧ w'.cell? ⟨w.heap.size + 1 + 1 + 1, 2, none⟩ = some (.bool d2) ∧ w'.cell? ⟨w.heap.size + 1 + 1 + 1, 3, none⟩ = some (.slice D2 r2 s2))
          (go_keep)
          (first
            | (go_at_call 41; (with_reducible refine (ref2_cmp_any i1 i2 I1 I2 t1 u1 t2 u2 d1 d2 D1 D2 r1 s1 r2 s2 xi xb v2 m m _ ?_ ?_ ?_ ?_ SI.out SB.out (by omega) HV2).mono ?_); (first | (with_reducible exact KS.at_ (by simp)) | (with_reducible exact KS.drew.at_ (by simp)) | (with_reducible exact (KS.drewN _).at_ (by simp))); (first | (with_reducible exact KS.at_ (by simp)) | (with_reducible exact KS.drew.at_ (by simp)) | (with_reducible exact (KS.drewN _).at_ (by simp))); (first | (with_reducible exact KS.at_ (by simp)) | (with_reducible exact KS.drew.at_ (by simp)) | (with_reducible exact (KS.drewN _).at_ (by simp))); (first | (with_reducible exact KS.at_ (by simp)) | (with_reducible exact KS.drew.at_ (by simp)) | (with_reducible exact (KS.drewN _).at_ (by simp))); rintro e2 w2 ⟨rfl, hb2⟩; (first | (with_reducible have K2 := (KS.next hb2)) | (with_reducible have K2 := (KS.drew.next hb2)) | (with_reducible have K2 := ((KS.drewN _).next hb2))); have KF2 := KFS.next (by first | exact hb2 | exact below_of_drew hb2 | exact below_of_drewN hb2); obtain ⟨⟨g02, g12, g22, g32⟩, _⟩ := KF2.2 k hlt; rw [HFI.out] at g02 g12 g22 g32; have Q2l := (K2.blk (g := w.heap.size + 1 + 1) (vs := [.bool i1, .slice I1 t1 u1, .bool i2, .slice I2 t2 u2]) (by simp)).four; obtain ⟨⟨qa2l, qb2l, qc2l, qd2l⟩, ⟨qe2l, qf2l, qg2l, qh2l⟩, qi2l⟩ := Q2l; have Q2h := (K2.blk (g := w.heap.size + 1 + 1 + 1) (vs := [.bool d1, .slice D1 r1 s1, .bool d2, .slice D2 r2 s2]) (by simp)).four; obtain ⟨⟨qa2h, qb2h, qc2h, qd2h⟩, ⟨qe2h, qf2h, qg2h, qh2h⟩, qi2h⟩ := Q2h; clear hb2))
        go_wp2_with fail
        go_roundw
        case rel => exact ⟨k + 1, i1, I1, t1, u1, i2, I2, t2, u2, xi, d1, D1, r1, s1, d2, D2, r2, s2, xb, by go_num, K2.pick (by simp) (by simp), KF2, HN⟩
        case measure => simp [intOf]; omega
      · obtain ⟨v1, hv1⟩ : ∃ v, rcmp xi xa = v := ⟨_, rfl⟩
        have hv0 : 0 ≤ v1 := by rw [← hv1]; unfold rcmp; rw [if_neg h1]; split <;> omega
        have HV1 := Lib.hid hv1
        have hxa : xa ≤ xi := by grind
        clear hv1
        by_cases h2 : xb < xi
        · have HV2 : Hid (rcmp xi xb = 1) := Lib.hid (by unfold rcmp; rw [if_neg (by grind), if_pos h2])
          have HN : Hid (1 ≤ k + 1 ∧ k + 1 ≤ N ∧ (∃ a, a < k + 1 ∧ F a = ((b1, B1, p1, q1), (b2, B2, p2, q2), xa)) ∧ (∃ b, b < k + 1 ∧ F b = ((i1, I1, t1, u1), (i2, I2, t2, u2), xi)) ∧ ∀ j, j < k + 1 → xa ≤ (F j).2.2 ∧ (F j).2.2 ≤ xi) :=
            Lib.hid ⟨by omega, by omega, ⟨a, Nat.lt_succ_of_lt ha, hea⟩, ⟨k, Nat.lt_succ_self k, HFI.out⟩, next xa xi Rat.le_refl hxa (Rat.le_of_lt h2) Rat.le_refl⟩
          clear h1 h2 hxa hab next hall hea heb ha hb hk1 hk2
          go_wp2_with fail
          go_region_held3 (fun w' => w'.cell? ⟨g, k * 4, none⟩ = some (.bool i1) ∧ w'.cell? ⟨g, k * 4 + 1, none⟩ = some (.slice I1 t1 u1) ∧ w'.cell? ⟨g, k * 4 + 2, none⟩ = some (.bool i2) ∧ w'.cell? ⟨g, k * 4 + 3, none⟩ = some (.slice I2 t2 u2) ∧ w'.cell? ⟨w.heap.size + 1 + 1, 0, none⟩ = some (.bool b1) ∧ w'.cell? ⟨w.heap.size + 1 + 1, 1, none⟩ = some (.slice B1 p1 q1) ∧ w'.cell? ⟨w.heap.size + 1 + 1, 2, none⟩ = some (.bool b2) ∧ w'.cell? ⟨w.heap.size + 1 + 1, 3, none⟩ = some (.slice B2 p2 q2))
            (go_keep)
            (first
              | (go_at_call 41; (with_reducible refine (ref2_cmp_any i1 i2 I1 I2 t1 u1 t2 u2 b1 b2 B1 B2 p1 q1 p2 q2 xi xa v1 m m _ ?_ ?_ ?_ ?_ SI.out SA.out (by omega) HV1).mono ?_); (first | (with_reducible exact KI.at_ (by simp)) | (with_reducible exact KI.drew.at_ (by simp)) | (with_reducible exact (KI.drewN _).at_ (by simp))); (first | (with_reducible exact KI.at_ (by simp)) | (with_reducible exact KI.drew.at_ (by simp)) | (with_reducible exact (KI.drewN _).at_ (by simp))); (first | (with_reducible exact KI.at_ (by simp)) | (with_reducible exact KI.drew.at_ (by simp)) | (with_reducible exact (KI.drewN _).at_ (by simp))); (first | (with_reducible exact KI.at_ (by simp)) | (with_reducible exact KI.drew.at_ (by simp)) | (with_reducible exact (KI.drewN _).at_ (by simp))); rintro e1 w1 ⟨rfl, hb1⟩; (first | (with_reducible have K1 := (KI.next hb1)) | (with_reducible have K1 := (KI.drew.next hb1)) | (with_reducible have K1 := ((KI.drewN _).next hb1))); have KF1 := KF.next (by first | exact hb1 | exact below_of_drew hb1 | exact below_of_drewN hb1); obtain ⟨⟨g01, g11, g21, g31⟩, _⟩ := KF1.2 k hlt; rw [HFI.out] at g01 g11 g21 g31; have Q1l := (K1.blk (g := w.heap.size + 1 + 1) (vs := [.bool b1, .slice B1 p1 q1, .bool b2, .slice B2 p2 q2]) (by simp)).four; obtain ⟨⟨qa1l, qb1l, qc1l, qd1l⟩, ⟨qe1l, qf1l, qg1l, qh1l⟩, qi1l⟩ := Q1l; have Q1h := (K1.blk (g := w.heap.size + 1 + 1 + 1) (vs := [.bool d1, .slice D1 r1 s1, .bool d2, .slice D2 r2 s2]) (by simp)).four; obtain ⟨⟨qa1h, qb1h, qc1h, qd1h⟩, ⟨qe1h, qf1h, qg1h, qh1h⟩, qi1h⟩ := Q1h; clear hb1))
          go_wp2_with fail
          go_region_held3 (fun w' => w'.cell? ⟨g, k * 4, none⟩ = some (.bool i1) ∧ w'.cell? ⟨g, k * 4 + 1, none⟩ = some (.slice I1 t1 u1) ∧ w'.cell? ⟨g, k * 4 + 2, none⟩ = some (.bool i2) ∧ w'.cell? ⟨g, k * 4 + 3, none⟩ = some (.slice I2 t2 u2) ∧ w'.cell? ⟨w.heap.size + 1 + 1 + 1, 0, none⟩ = some (.bool d1) ∧ w'.cell? ⟨w.heap.size + 1 + 1 + 1, 1, none⟩ = some (.slice D1 r1 s1) ∧ w'.cell? ⟨w.heap.size + 1 + 1 + 1, 2, none⟩ = some (.bool d2) ∧ w'.cell? ⟨w.heap.size + 1 + 1 + 1, 3, none⟩ = some (.slice D2 r2 s2))
            (go_keep)
            (first
              | (go_at_call 41; (with_reducible refine (ref2_cmp_any i1 i2 I1 I2 t1 u1 t2 u2 d1 d2 D1 D2 r1 s1 r2 s2 xi xb 1 m m _ ?_ ?_ ?_ ?_ SI.out SB.out (by omega) HV2).mono ?_); (first | (with_reducible exact K1.at_ (by simp)) | (with_reducible exact K1.drew.at_ (by simp)) | (with_reducible exact (K1.drewN _).at_ (by simp))); (first | (with_reducible exact K1.at_ (by simp)) | (with_reducible exact K1.drew.at_ (by simp)) | (with_reducible exact (K1.drewN _).at_ (by simp))); (first | (with_reducible exact K1.at_ (by simp)) | (with_reducible exact K1.drew.at_ (by simp)) | (with_reducible exact (K1.drewN _).at_ (by simp))); (first | (with_reducible exact K1.at_ (by simp)) | (with_reducible exact K1.drew.at_ (by simp)) | (with_reducible exact (K1.drewN _).at_ (by simp))); rintro e2 w2 ⟨rfl, hb2⟩; (first | (with_reducible have K2 := (K1.next hb2)) | (with_reducible have K2 := (K1.drew.next hb2)) | (with_reducible have K2 := ((K1.drewN _).next hb2))); have KF2 := KF1.next (by first | exact hb2 | exact below_of_drew hb2 | exact below_of_drewN hb2); obtain ⟨⟨g02, g12, g22, g32⟩, _⟩ := KF2.2 k hlt; rw [HFI.out] at g02 g12 g22 g32; have Q2l := (K2.blk (g := w.heap.size + 1 + 1) (vs := [.bool b1, .slice B1 p1 q1, .bool b2, .slice B2 p2 q2]) (by simp)).four; obtain ⟨⟨qa2l, qb2l, qc2l, qd2l⟩, ⟨qe2l, qf2l, qg2l, qh2l⟩, qi2l⟩ := Q2l; have Q2h := (K2.blk (g := w.heap.size + 1 + 1 + 1) (vs := [.bool d1, .slice D1 r1 s1, .bool d2, .slice D2 r2 s2]) (by simp)).four; obtain ⟨⟨qa2h, qb2h, qc2h, qd2h⟩, ⟨qe2h, qf2h, qg2h, qh2h⟩, qi2h⟩ := Q2h; clear hb2))
          go_wp2_with fail
          have KE := (K2.pick (L' := [(w.heap.size + 1 + 1 + 1, [.bool d1, .slice D1 r1 s1, .bool d2, .slice D2 r2 s2]), (w.heap.size + 1 + 1, [.bool b1, .slice B1 p1 q1, .bool b2, .slice B2 p2 q2]), (w.heap.size, [.bool false, .slice none 0 0, .bool false, .slice none 0 0]), (w.heap.size + 1, [.bool false, .slice none 0 0, .bool false, .slice none 0 0])]) (by simp) (fun p h => h)).set4 (by simp <;> omega) i1 I1 t1 u1 i2 I2 t2 u2
          have KFE := KF2.store4 (g' := w.heap.size + 1 + 1 + 1) (by omega) (K2.blk (g := w.heap.size + 1 + 1 + 1) (vs := [.bool d1, .slice D1 r1 s1, .bool d2, .slice D2 r2 s2]) (by simp)) (.bool i1) (.slice I1 t1 u1) (.bool i2) (.slice I2 t2 u2)
          go_roundw
          case rel => exact ⟨k + 1, b1, B1, p1, q1, b2, B2, p2, q2, xa, i1, I1, t1, u1, i2, I2, t2, u2, xi, by go_num, KE.pick (by simp) (by simp), KFE, HN⟩
          case measure => simp [intOf]; omega
        · obtain ⟨v2, hv2⟩ : ∃ v, rcmp xi xb = v := ⟨_, rfl⟩
          have hv3 : v2 ≤ 0 := by rw [← hv2]; unfold rcmp; split <;> (try split) <;> first | omega | (exfalso; grind)
          have HV2 := Lib.hid hv2
          have HN : Hid (1 ≤ k + 1 ∧ k + 1 ≤ N ∧ (∃ a, a < k + 1 ∧ F a = ((b1, B1, p1, q1), (b2, B2, p2, q2), xa)) ∧ (∃ b, b < k + 1 ∧ F b = ((d1, D1, r1, s1), (d2, D2, r2, s2), xb)) ∧ ∀ j, j < k + 1 → xa ≤ (F j).2.2 ∧ (F j).2.2 ≤ xb) :=
            Lib.hid ⟨by omega, by omega, ⟨a, Nat.lt_succ_of_lt ha, hea⟩, ⟨b, Nat.lt_succ_of_lt hb, heb⟩, next xa xb Rat.le_refl hxa Rat.le_refl (by grind)⟩
          clear h1 h2 hv2 hxa hab next hall hea heb ha hb hk1 hk2
          go_wp2_with fail
          go_region_held3 (fun w' => w'.cell? ⟨g, k * 4, none⟩ = some (.bool i1) ∧ w'.cell? ⟨g, k * 4 + 1, none⟩ = some (.slice I1 t1 u1) ∧ w'.cell? ⟨g, k * 4 + 2, none⟩ = some (.bool i2) ∧ w'.cell? ⟨g, k * 4 + 3, none⟩ = some (.slice I2 t2 u2) ∧ w'.cell? ⟨w.heap.size + 1 + 1, 0, none⟩ = some (.bool b1) ∧ w'.cell? ⟨w.heap.size + 1 + 1, 1, none⟩ = some (.slice B1 p1 q1) ∧ w'.cell? ⟨w.heap.size + 1 + 1, 2, none⟩ = some (.bool b2) ∧ w'.cell? ⟨w.heap.size + 1 + 1, 3, none⟩ = some (.slice B2 p2 q2))
            (go_keep)
            (first
              | (go_at_call 41; (with_reducible refine (ref2_cmp_any i1 i2 I1 I2 t1 u1 t2 u2 b1 b2 B1 B2 p1 q1 p2 q2 xi xa v1 m m _ ?_ ?_ ?_ ?_ SI.out SA.out (by omega) HV1).mono ?_); (first | (with_reducible exact KI.at_ (by simp)) | (with_reducible exact KI.drew.at_ (by simp)) | (with_reducible exact (KI.drewN _).at_ (by simp))); (first | (with_reducible exact KI.at_ (by simp)) | (with_reducible exact KI.drew.at_ (by simp)) | (with_reducible exact (KI.drewN _).at_ (by simp))); (first | (with_reducible exact KI.at_ (by simp)) | (with_reducible exact KI.drew.at_ (by simp)) | (with_reducible exact (KI.drewN _).at_ (by simp))); (first | (with_reducible exact KI.at_ (by simp)) | (with_reducible exact KI.drew.at_ (by simp)) | (with_reducible exact (KI.drewN _).at_ (by simp))); rintro e1 w1 ⟨rfl, hb1⟩; (first | (with_reducible have K1 := (KI.next hb1)) | (with_reducible have K1 := (KI.drew.next hb1)) | (with_reducible have K1 := ((KI.drewN _).next hb1))); have KF1 := KF.next (by first | exact hb1 | exact below_of_drew hb1 | exact below_of_drewN hb1); obtain ⟨⟨g01, g11, g21, g31⟩, _⟩ := KF1.2 k hlt; rw [HFI.out] at g01 g11 g21 g31; have Q1l := (K1.blk (g := w.heap.size + 1 + 1) (vs := [.bool b1, .slice B1 p1 q1, .bool b2, .slice B2 p2 q2]) (by simp)).four; obtain ⟨⟨qa1l, qb1l, qc1l, qd1l⟩, ⟨qe1l, qf1l, qg1l, qh1l⟩, qi1l⟩ := Q1l; have Q1h := (K1.blk (g := w.heap.size + 1 + 1 + 1) (vs := [.bool d1, .slice D1 r1 s1, .bool d2, .slice D2 r2 s2]) (by simp)).four; obtain ⟨⟨qa1h, qb1h, qc1h, qd1h⟩, ⟨qe1h, qf1h, qg1h, qh1h⟩, qi1h⟩ := Q1h; clear hb1))
          go_wp2_with fail
          go_region_held3 (fun w' => w'.cell? ⟨g, k * 4, none⟩ = some (.bool i1) ∧ w'.cell? ⟨g, k * 4 + 1, none⟩ = some (.slice I1 t1 u1) ∧ w'.cell? ⟨g, k * 4 + 2, none⟩ = some (.bool i2) ∧ w'.cell? ⟨g, k * 4 + 3, none⟩ = some (.slice I2 t2 u2) ∧ w'.cell? ⟨w.heap.size + 1 + 1 + 1, 0, none⟩ = some (.bool d1) ∧ w'.cell? ⟨w.heap.size + 1 + 1 + 1, 1, none⟩ = some (.slice D1 r1 s1) ∧ w'.cell? ⟨w.heap.size + 1 + 1 + 1, 2, none⟩ = some (.bool d2) ∧ w'.cell? ⟨w.heap.size + 1 + 1 + 1, 3, none⟩ = some (.slice D2 r2 s2))
            (go_keep)
            (first
              | (go_at_call 41; (with_reducible refine (ref2_cmp_any i1 i2 I1 I2 t1 u1 t2 u2 d1 d2 D1 D2 r1 s1 r2 s2 xi xb v2 m m _ ?_ ?_ ?_ ?_ SI.out SB.out (by omega) HV2).mono ?_); (first | (with_reducible exact K1.at_ (by simp)) | (with_reducible exact K1.drew.at_ (by simp)) | (with_reducible exact (K1.drewN _).at_ (by simp))); (first | (with_reducible exact K1.at_ (by simp)) | (with_reducible exact K1.drew.at_ (by simp)) | (with_reducible exact (K1.drewN _).at_ (by simp))); (first | (with_reducible exact K1.at_ (by simp)) | (with_reducible exact K1.drew.at_ (by simp)) | (with_reducible exact (K1.drewN _).at_ (by simp))); (first | (with_reducible exact K1.at_ (by simp)) | (with_reducible exact K1.drew.at_ (by simp)) | (with_reducible exact (K1.drewN _).at_ (by simp))); rintro e2 w2 ⟨rfl, hb2⟩; (first | (with_reducible have K2 := (K1.next hb2)) | (with_reducible have K2 := (K1.drew.next hb2)) | (with_reducible have K2 := ((K1.drewN _).next hb2))); have KF2 := KF1.next (by first | exact hb2 | exact below_of_drew hb2 | exact below_of_drewN hb2); obtain ⟨⟨g02, g12, g22, g32⟩, _⟩ := KF2.2 k hlt; rw [HFI.out] at g02 g12 g22 g32; have Q2l := (K2.blk (g := w.heap.size + 1 + 1) (vs := [.bool b1, .slice B1 p1 q1, .bool b2, .slice B2 p2 q2]) (by simp)).four; obtain ⟨⟨qa2l, qb2l, qc2l, qd2l⟩, ⟨qe2l, qf2l, qg2l, qh2l⟩, qi2l⟩ := Q2l; have Q2h := (K2.blk (g := w.heap.size + 1 + 1 + 1) (vs := [.bool d1, .slice D1 r1 s1, .bool d2, .slice D2 r2 s2]) (by simp)).four; obtain ⟨⟨qa2h, qb2h, qc2h, qd2h⟩, ⟨qe2h, qf2h, qg2h, qh2h⟩, qi2h⟩ := Q2h; clear hb2))
          go_wp2_with fail
          go_roundw
          case rel => exact ⟨k + 1, b1, B1, p1, q1, b2, B2, p2, q2, xa, d1, D1, r1, s1, d2, D2, r2, s2, xb, by go_num, K2.pick (by simp) (by simp), KF2, HN⟩
          case measure => simp [intOf]; omega
    · obtain rfl : k = N := by omega
      clear hlt hk1 hk2
      obtain ⟨⟨qa0l, qb0l, qc0l, qd0l⟩, ⟨qe0l, qf0l, qg0l, qh0l⟩, qi0l⟩ := (KM.blk (g := w.heap.size + 1 + 1) (vs := [.bool b1, .slice B1 p1 q1, .bool b2, .slice B2 p2 q2]) (by simp)).four
      obtain ⟨⟨qa0h, qb0h, qc0h, qd0h⟩, ⟨qe0h, qf0h, qg0h, qh0h⟩, qi0h⟩ := (KM.blk (g := w.heap.size + 1 + 1 + 1) (vs := [.bool d1, .slice D1 r1 s1, .bool d2, .slice D2 r2 s2]) (by simp)).four
      obtain ⟨⟨qa0r, qb0r, qc0r, qd0r⟩, ⟨qe0r, qf0r, qg0r, qh0r⟩, qi0r⟩ := (KM.blk (g := w.heap.size) (vs := [.bool false, .slice none 0 0, .bool false, .slice none 0 0]) (by simp)).four
      obtain ⟨⟨qa0s, qb0s, qc0s, qd0s⟩, ⟨qe0s, qf0s, qg0s, qh0s⟩, qi0s⟩ := (KM.blk (g := w.heap.size + 1) (vs := [.bool false, .slice none 0 0, .bool false, .slice none 0 0]) (by simp)).four
      go_wp2_with fail
      go_region
      all_goals go_wp2_with fail
      have KA := (KM.pick (L' := [(w.heap.size, [.bool false, .slice none 0 0, .bool false, .slice none 0 0]), (w.heap.size + 1, [.bool false, .slice none 0 0, .bool false, .slice none 0 0])]) (by simp) (fun p h => h)).set4 (by simp) b1 B1 p1 q1 b2 B2 p2 q2
      have KE := ((KA.pick (L' := [(w.heap.size + 1, [.bool false, .slice none 0 0, .bool false, .slice none 0 0])]) (by simp) (fun p h => h)).set4 (by simp) d1 D1 r1 s1 d2 D2 r2 s2).drew
      obtain ⟨_, _, ⟨a, ha, hea⟩, ⟨b, hb, heb⟩, hall⟩ := HH.out
      have HP : Hid (∀ W' : World, Mm w [(w.heap.size + 1, [.bool d1, .slice D1 r1 s1, .bool d2, .slice D2 r2 s2])] [(b1, B1, p1, q1, xa.num), (b2, B2, p2, q2, (xa.den : Int)), (d1, D1, r1, s1, xb.num), (d2, D2, r2, s2, (xb.den : Int))] W' →
          RetFew w k F (.returned (.tuple #[.agg #[.bool b1, .slice B1 p1 q1, .bool b2, .slice B2 p2 q2], .agg #[.bool d1, .slice D1 r1 s1, .bool d2, .slice D2 r2 s2]])) W') := Lib.hid (fun W' KW =>
        ⟨a, b, ha, hb, by rw [hea, heb]; rfl, fun j hj => by rw [hea, heb]; exact hall j hj, by rw [hea]; exact ⟨KW.at_ (by simp), KW.at_ (by simp)⟩, by rw [heb]; exact ⟨KW.at_ (by simp), KW.at_ (by simp)⟩, KW.1⟩)
      clear ha hb hea heb hall
      exact bodyPost_ret (v := .tuple #[.agg #[.bool b1, .slice B1 p1 q1, .bool b2, .slice B2 p2 q2], .agg #[.bool d1, .slice D1 r1 s1, .bool d2, .slice D2 r2 s2]]) (by simp [results, Tryz.results21, go_sem, qa0r, qb0r, qc0r, qd0r, qa0s, qb0s, qc0s, qd0s]) rfl (HP.out _ KE)

end Go.Proofs.YtcjpocepgkfkaaaGreat
