/-
  What the references' spans tell of the four operations is what the program's tell, plainly.
  The row's last step where no more is known of the world left than that it is the old one below (a kit's small lemma, copied as its page bids).
  Arguments in memory read as they did where no more is known of the world left than that it is the old one below.
  A walk's memory: blocks of eight and of sixteen cells; complex numbers of two fractions.
  What may be: two or four fractions, a matrix, a beam.
  What a float is worth, plainly: its whole part shifted down by the noughts at its end.
  The program's fractions (package ratio): turned, lowest terms.
-/
import Derived.Test.YtjcjphgpmpjmbaaGreatDoorSpnG
import Derived.Test.YtjcjphgpmpjmbaaGreatDoorSpnV
import Derived.Test.YtjcjphgpmpjmbaaGreatDoorSpnA
import Derived.Below
import Derived.ChangeSame
import Derived.Carry
import Derived.Deep.Slices
import Derived.Deep.Strs
import Derived.Test.YtjcjphgpmpjmbaaGreatDoorFrp
import Derived.Test.YtjcjphgpmpjmbaaGreatDoorFrR
import Derived.Test.YtjcjphgpmpjmbaaGreatDoorExZ
import Derived.Test.YtjcjphgpmpjmbaaGreatDoorFrf
import Derived.Lib.TrailingZeros
import Derived.Test.YtjcjphgpmpjmbaaGreatDoorExB
import Derived.BigQuiet
import Derived.Laws.BitsLemmas
import Derived.Test.YtjcjphgpmpjmbaaGreatDoorEyT
import Derived.Test.YtjcjphgpmpjmbaaGreatDoorExT
namespace Go.Proofs.YtjcjphgpmpjmbaaGreatDoor
open Go.RowKit

theorem pz_of_sv {x y : Nat} (hx : x < 2 ^ 64) (hy : y < 2 ^ 64) (h : Flt.sv x = Flt.sv y) : pz x = pz y ∧ Flt.finB x = Flt.finB y := by
  have e : Flt.rg x = Flt.rg y := by
    apply Flt.val_inj
    have := h
    unfold Flt.sv at this
    split at this <;> split at this <;> omega
  refine ⟨?_, by unfold Flt.finB; rw [e]⟩
  unfold pz
  rw [e]
  split
  · rfl
  · rename_i h0
    have hv := val_pos h0
    have hs : Flt.sgn x = Flt.sgn y := by
      have := h
      unfold Flt.sv at this
      rw [e] at this
      cases h1 : Flt.sgn x <;> cases h2 : Flt.sgn y <;> first | rfl | (rw [h1, h2] at this; simp at this; omega)
    exact (Flt.word_eq x hx).symm.trans (by rw [hs, e]; exact Flt.word_eq y hy)
theorem ends_of_sv {lo hi d u : Nat} (h1 : lo < 2 ^ 64) (h2 : hi < 2 ^ 64) (h3 : d < 2 ^ 64) (h4 : u < 2 ^ 64) (a : Flt.sv lo = Flt.sv d) (b : Flt.sv hi = Flt.sv u) : endsF lo hi = endsF d u := by
  obtain ⟨a1, a2⟩ := pz_of_sv h1 h3 a
  obtain ⟨b1, b2⟩ := pz_of_sv h2 h4 b
  unfold endsF
  rw [a1, a2, b1, b2]
end Go.Proofs.YtjcjphgpmpjmbaaGreatDoor

namespace Go.Proofs.YtjcjphgpmpjmbaaGreatDoor
open Go.RowKit Go.WideShapes Go.ChangeShapes
section
variable {H : Type} {enc : TypeId × Value → H} {P : Program}
theorem post_of_below {f : Func} {s : ChangeSpec} {apart fresh handsOn again : Bool} {W W' : World} {args : Array Value} {v : Value} {ds gs : List (DataW H)} {before pa pv : List MemPlace}
    (hW : DataW.Whole enc P f.params.toList s.vars apart W args.toList ds gs before)
    (hres : ∀ (b : Nat) (sp : Nat → Bool) (hd : Bool), DataW.TrodAll enc P W' b sp hd f.resultTypes.toList (v.resultList f.resultTypes.size) (s.fn H (ds ++ gs)).results [])
    (hargs : ∀ sp : Nat → Bool, (∀ p ∈ before, sp p.block = true) → DataW.TrodAll enc P W' 0 sp true f.params.toList args.toList (s.fn H (ds ++ gs)).args pa)
    (hvars : ∀ sp : Nat → Bool, (∀ p ∈ before, sp p.block = true) → DataW.TrodVars enc P W' sp s.vars (s.fn H (ds ++ gs)).vars pv)
    (hps : before = pa ++ pv) (hb : Below W.heap.size W W')
    (hok : ∀ (j : Nat) (t : TypeId) (r : Value), f.resultTypes[j]? = some t → (v.resultList f.resultTypes.size)[j]? = some r → Value.okWide P W' .any 0 t r) :
    s.post enc P f apart fresh handsOn again W args v W' := by
  have hlt : ∀ p ∈ before, p.block < W.heap.size := fun p hp => hW.lt p hp
  have hold : ∀ p ∈ before, (fun b => decide (b < W.heap.size)) p.block = true := fun p hp => by simpa using hlt p hp
  refine ⟨ds, gs, before, [], pa, pv, hW, hres _ _ _, hargs _ hold, hvars _ hold, World.keptBut_mono (fun p hp => ⟨hp, ?_⟩) (hb.frame (· ∈ before)), fun _ => ?_⟩
  · rw [hps, List.mem_append] at hp
    exact Or.inr hp
  · obtain ⟨_, _, _, _, _, hz, hn⟩ := hW
    refine ⟨hok, _, _, ([] ++ pa) ++ pv, ⟨[] ++ pa, pv, trodAll_append (hargs _ (fun _ _ => rfl)) (hres _ _ _), hvars _ (fun _ _ => rfl), rfl, ?_, ?_⟩, ?_⟩
    · intro b off hp
      have hin : MemPlace.cell b off ∈ before := by rw [hps]; simpa using hp
      rw [hb.frozen (hlt _ hin)]
      exact hz b off hin
    · intro ha
      have := hn ha
      rw [hps] at this
      simpa using this
    · intro p hp _
      rw [hps]
      simpa using hp
end
section
variable {H : Type} {enc : TypeId × Value → H} {P : Program} {w : World} {base : Nat} {spare : Nat → Bool} {held : Bool}
theorem trod_float {t : TypeId} {k : FloatKind} {fuel : Nat} {cs : List Value} {x : DataW H × List MemPlace} (ht : P.underlying t = some (.float k)) (h : DataW.trod enc P w base spare held fuel t cs = some x) :
    ∃ n, cs = [.float k n] ∧ x = (.lit (.float k n), []) ∧ (Lit.float k n).wf = true := by
  cases fuel with
  | zero => simp [DataW.trod] at h
  | succ n =>
    unfold DataW.trod at h
    rw [ht] at h
    split at h <;> simp_all
end
end Go.Proofs.YtjcjphgpmpjmbaaGreatDoor

namespace Go.Proofs.YtjcjphgpmpjmbaaGreatDoor
open Go.RowKit Go.WideShapes Go.ChangeShapes
section
variable {H : Type} {enc : TypeId × Value → H} {P : Program}
theorem trodAll_later (hl : laidOutB P = true) {W W' : World} (hb : Below W.heap.size W W') {sp : Nat → Bool} : ∀ (ts : List TypeId) (vs : List Value) (ds : List (DataW H)) (ps : List MemPlace),
    (∀ t ∈ ts, P.readableRec t = true ∧ t < P.types.size) → DataW.TrodAll enc P W 0 (fun _ => true) true ts vs ds ps → (∀ p ∈ ps, p.block < W.heap.size) → (∀ p ∈ ps, sp p.block = true) →
    DataW.TrodAll enc P W' 0 sp true ts vs ds ps
  | [], vs, ds, ps, _, h, _, _ => by
    obtain ⟨rfl, rfl, rfl⟩ := trodAll_nil h
    exact trodAll_mk0
  | t :: ts, vs, ds, ps, ht, h, h1, h2 => by
    obtain ⟨v, vs', d, ds', p, q, rfl, rfl, rfl, hd, hr⟩ := trodAll_cons h
    obtain ⟨a, b⟩ := ht t List.mem_cons_self
    refine ⟨p, q, WideElems.Trod_stays hl a b hd (fun x hx => hb.same (h1 x (List.mem_append_left _ hx))) (fun x hx => h2 x (List.mem_append_left _ hx)), ?_, rfl⟩
    exact trodAll_later hl hb ts vs' ds' q (fun t' h' => ht t' (List.mem_cons_of_mem _ h')) hr (fun x hx => h1 x (List.mem_append_right _ hx)) (fun x hx => h2 x (List.mem_append_right _ hx))
end
end Go.Proofs.YtjcjphgpmpjmbaaGreatDoor

namespace Go.Proofs.YtjcjphgpmpjmbaaGreatDoor
open Go.RowKit

theorem Blk.c8 {wr : World} {g : Nat} {a0 a1 a2 a3 a4 a5 a6 a7 : Value} (h : Blk wr g [a0, a1, a2, a3, a4, a5, a6, a7]) : wr.cell? ⟨g, 0, none⟩ = some a0 ∧ wr.cell? ⟨g, 1, none⟩ = some a1 ∧ wr.cell? ⟨g, 2, none⟩ = some a2 ∧ wr.cell? ⟨g, 3, none⟩ = some a3 ∧ wr.cell? ⟨g, 4, none⟩ = some a4 ∧ wr.cell? ⟨g, 5, none⟩ = some a5 ∧ wr.cell? ⟨g, 6, none⟩ = some a6 ∧ wr.cell? ⟨g, 7, none⟩ = some a7 :=
  ⟨(h.2 0 a0 rfl).1, (h.2 1 a1 rfl).1, (h.2 2 a2 rfl).1, (h.2 3 a3 rfl).1, (h.2 4 a4 rfl).1, (h.2 5 a5 rfl).1, (h.2 6 a6 rfl).1, (h.2 7 a7 rfl).1⟩
theorem Sz.zero : Sz 0 1 := ⟨by decide, by decide⟩
theorem Sz.one : Sz 1 1 := ⟨by decide, by decide⟩
theorem sz_of {w w' : World} {neg neg' : Bool} {A A' : Option Addr} {n c n' c' : Nat} {x : Rat} (h : IsInt w neg A n c x.num) (k : IsInt w' neg' A' n' c' (x.den : Int)) {M : Nat} (hn : n ≤ M) (hn' : n' ≤ M) : Sz x M := by
  have h1 := isInt_lt h
  have h2 := isInt_lt k
  rw [show Lm.B ^ n = 2 ^ (32 * n) by rw [Nat.pow_mul]] at h1
  rw [show Lm.B ^ n' = 2 ^ (32 * n') by rw [Nat.pow_mul]] at h2
  exact ⟨Nat.lt_of_lt_of_le h1 (Nat.pow_le_pow_right (by decide) (by omega)), by rw [Int.natAbs_natCast] at h2; exact Nat.lt_of_lt_of_le h2 (Nat.pow_le_pow_right (by decide) (by omega))⟩
end Go.Proofs.YtjcjphgpmpjmbaaGreatDoor

namespace Go.Proofs.YtjcjphgpmpjmbaaGreatDoor
open Go.RowKit

def two (a b : LmE) : Nat → LmE := fun i => if i = 0 then a else b
def four (a b c d : LmE) : Nat → LmE := fun i => if i = 0 then a else if i = 1 then b else if i = 2 then c else d
theorem lfs_two (w : World) {g : Nat} (hg : w.heap.size = g) (t : TypeId) {a b : LmE} (ha : LmE.at_ w a) (hb : LmE.at_ w b) : Lfs (w.alloc (.cells (a.vs ++ b.vs).toArray t)) g 2 (two a b) := by
  have hB := Blk.new w hg (a.vs ++ b.vs) t
  have hn : Below w.heap.size w (w.alloc (.cells (a.vs ++ b.vs).toArray t)) := (Below.refl _ _).alloc (Nat.le_refl _) _
  refine ⟨hB.1, fun i hi => ?_⟩
  match i, hi with
  | 0, _ => exact ⟨⟨(hB.2 0 _ rfl).1, (hB.2 1 _ rfl).1, (hB.2 2 _ rfl).1, (hB.2 3 _ rfl).1⟩, LmE.at_.below ha hn⟩
  | 1, _ => exact ⟨⟨(hB.2 4 _ rfl).1, (hB.2 5 _ rfl).1, (hB.2 6 _ rfl).1, (hB.2 7 _ rfl).1⟩, LmE.at_.below hb hn⟩
theorem okAll_two (a b : LmE) : okAll (two a b) 2 = (okB a && okB b) := by simp [okAll, two]
/-- What a fraction of limbs is worth. -/
noncomputable def rv (f : LmE) : Rat := Rat.divInt (sgnd f.1.1 (Lm.lv f.1.2.2.2.2)) (sgnd f.2.1 (Lm.lv f.2.2.2.2.2))
theorem ok_num {f : LmE} (h : okB f = true) : (rv f).num = sgnd f.1.1 (Lm.lv f.1.2.2.2.2) ∧ ((rv f).den : Int) = sgnd f.2.1 (Lm.lv f.2.2.2.2.2) := by
  have ho := (okB_iff f).1 h
  have h3 := ho.2.2.1
  have hg : (1 : Nat) = Nat.gcd (sgnd f.1.1 (Lm.lv f.1.2.2.2.2)).natAbs (sgnd f.2.1 (Lm.lv f.2.2.2.2.2)).natAbs := by rw [sgnd_abs, sgnd_abs]; exact ho.2.2.2.symm
  have e1 := low_num (p := sgnd f.1.1 (Lm.lv f.1.2.2.2.2)) (q := sgnd f.2.1 (Lm.lv f.2.2.2.2.2)) (by omega) hg
  have e2 := low_den (p := sgnd f.1.1 (Lm.lv f.1.2.2.2.2)) (q := sgnd f.2.1 (Lm.lv f.2.2.2.2.2)) (by omega) hg
  unfold tn at e1 e2
  rw [if_neg (by omega), Int.natCast_one, Int.tdiv_one] at e1 e2
  exact ⟨e1.symm, e2.symm⟩
theorem ok_ints {w : World} {f : LmE} (h : okB f = true) (ha : LmE.at_ w f) :
    IsInt w f.1.1 f.1.2.1 f.1.2.2.1 f.1.2.2.2.1 (rv f).num ∧ IsInt w f.2.1 f.2.2.1 f.2.2.2.1 f.2.2.2.2.1 ((rv f).den : Int) ∧ Sz (rv f) 2048 := by
  obtain ⟨e1, e2⟩ := ok_num h
  have ho := (okB_iff f).1 h
  have h1 : IsInt w f.1.1 f.1.2.1 f.1.2.2.1 f.1.2.2.2.1 (rv f).num := ⟨_, ha.1, ho.1.2.1, ho.1.2.2, e1⟩
  have h2 : IsInt w f.2.1 f.2.2.1 f.2.2.2.1 f.2.2.2.2.1 ((rv f).den : Int) := ⟨_, ha.2.1, ho.2.1.2.1, ho.2.1.2.2, e2⟩
  refine ⟨h1, h2, sz_of h1 h2 ?_ ?_⟩
  · rw [← ha.1.len]; exact ho.1.1
  · rw [← ha.2.1.len]; exact ho.2.1.1
end Go.Proofs.YtjcjphgpmpjmbaaGreatDoor

namespace Go.Proofs.YtjcjphgpmpjmbaaGreatDoor
open Go.RowKit

theorem ctzFrom_of : ∀ (j f m : Nat), j < f → Lib.ctzFrom f (2 ^ j * (2 * m + 1)) = j
  | j, 0, m, h => by omega
  | 0, f + 1, m, _ => by
    unfold Lib.ctzFrom
    rw [if_pos (by rw [Nat.pow_zero, Nat.one_mul]; omega)]
  | j + 1, f + 1, m, h => by
    unfold Lib.ctzFrom
    have e : 2 ^ (j + 1) * (2 * m + 1) = 2 * (2 ^ j * (2 * m + 1)) := by rw [Nat.pow_succ, Nat.mul_comm (2 ^ j) 2, Nat.mul_assoc]
    rw [if_neg (by rw [e]; omega), e, Nat.mul_div_cancel_left _ (by decide), ctzFrom_of j f m (by omega)]
    omega
theorem ctz_spec {Z : Nat} (h0 : 0 < Z) (h : Z < 2 ^ 64) : ∃ m, Z = 2 ^ Lib.ctz 64 Z * (2 * m + 1) ∧ Lib.ctz 64 Z < 64 := by
  have := Lib.ctzFrom_spec 64 Z h0 h
  unfold Lib.ctz
  rw [if_neg (by omega)]
  exact this
theorem ctzFrom_turned {n Z : Nat} (h0 : 0 < Z) (h : Z < 2 ^ n) : Lib.ctzFrom n (2 ^ n - Z) = Lib.ctzFrom n Z := by
  obtain ⟨m, hm, hk⟩ := Lib.ctzFrom_spec n Z h0 h
  generalize Lib.ctzFrom n Z = k at hm hk ⊢
  obtain ⟨d, rfl⟩ : ∃ d, n = k + (d + 1) := ⟨n - k - 1, by omega⟩
  rw [hm] at h
  have hlt : 2 * m + 1 < 2 ^ (d + 1) := by
    rw [Nat.pow_add] at h
    exact Nat.lt_of_mul_lt_mul_left h
  have e : 2 ^ (k + (d + 1)) - Z = 2 ^ k * (2 * (2 ^ d - m - 1) + 1) := by
    rw [hm, Nat.pow_add, ← Nat.mul_sub]
    congr 1
    rw [Nat.pow_succ] at hlt ⊢
    omega
  rw [e]
  exact ctzFrom_of k _ _ (by omega)
theorem ctz_turned {Z : Nat} (h0 : 0 < Z) (h : Z < 2 ^ 64) : Lib.ctz 64 (2 ^ 64 - Z) = Lib.ctz 64 Z := by
  unfold Lib.ctz
  rw [if_neg (by omega), if_neg (by omega)]
  exact ctzFrom_turned h0 h
/-- Of a float below 2 ^ 1074 units: its fraction in lowest terms. -/
theorem float_low {s : Bool} {x Z E k : Nat} (h : sgnd s Z * ((2 ^ E : Nat) : Int) = Flt.sv x) (h0 : 0 < Z) (hZ : Z < 2 ^ 64) (hE : E < 1074) (hk : k = min (Lib.ctz 64 Z) (1074 - E)) :
    (fr x).num = sgnd s Z / ((2 ^ k : Nat) : Int) ∧ (fr x).den = 2 ^ (1074 - E - k) := by
  obtain ⟨m, hm, hc⟩ := ctz_spec h0 hZ
  generalize Lib.ctz 64 Z = c at hm hc hk
  have hkc : k ≤ c := by omega
  obtain ⟨z, hz⟩ : ∃ z, Z = 2 ^ k * z := ⟨2 ^ (c - k) * (2 * m + 1), by rw [← Nat.mul_assoc, ← Nat.pow_add, show k + (c - k) = c by omega]; exact hm⟩
  have hp := Nat.two_pow_pos k
  have e1 : sgnd s Z = sgnd s z * ((2 ^ k : Nat) : Int) := by
    rw [hz, Nat.mul_comm]
    unfold sgnd
    cases s
    · simp [Int.natCast_mul]
    · simp [Int.natCast_mul, Int.neg_mul]
  have e2 : sgnd s Z / ((2 ^ k : Nat) : Int) = sgnd s z := by
    rw [e1]
    exact Int.mul_ediv_cancel _ (by omega)
  have e3 : sgnd s z * ((2 ^ (E + k) : Nat) : Int) = Flt.sv x := by
    rw [← h, e1, Int.mul_assoc, ← Int.natCast_mul, ← Nat.pow_add, Nat.add_comm k E]
  have e74 : Flt.K74 = 1074 := rfl
  rw [e2]
  rcases Nat.lt_or_ge (E + k) 1074 with hlt | hge
  · have hk2 : k = c := by omega
    have hodd : z = 2 * m + 1 := by
      rw [hz, hk2] at hm
      exact Nat.eq_of_mul_eq_mul_left (Nat.two_pow_pos c) hm
    obtain ⟨a, b⟩ := fr_odd e3 (by rw [e74]; exact hlt) (by unfold sgnd; cases s <;> simp <;> omega)
    refine ⟨a, ?_⟩
    rw [b, e74, Nat.sub_sub]
  · obtain ⟨a, b⟩ := fr_whole e3 (by rw [e74]; exact hge)
    have e5 : E + k = 1074 := by omega
    rw [e74, e5] at a
    refine ⟨by rw [a]; simp, ?_⟩
    rw [b, show 1074 - E - k = 0 by omega]
end Go.Proofs.YtjcjphgpmpjmbaaGreatDoor

namespace Go.Proofs.YtjcjphgpmpjmbaaGreatDoor
open Go.RowKit

theorem ex_cmp_of (neg neg' : Bool) (A A' : Option Addr) (n c n' c' : Nat) (x y v : Int) (w : World) (hx : IsInt w neg A n c x) (hy : IsInt w neg' A' n' c' y) (hn : n ≤ 1000000000) (hn' : n' ≤ 1000000000) (hv : Hid (icmp x y = v)) :
    Calls Tryz.prog 100 #[.agg #[.bool neg, .slice A n c], .agg #[.bool neg', .slice A' n' c']] w (RetV w (.int .i64 v)) := by
  have h := ex_cmp_int neg neg' A A' n c n' c' x y w hx hy hn hn'
  rwa [hv.out] at h
end Go.Proofs.YtjcjphgpmpjmbaaGreatDoor
