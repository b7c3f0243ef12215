/-
  Spans: the reference's In, plain, lesser, greater, Meet, Join.
  The references' spans (polestarref05): Do of any operation and any two spans.
  The row's last step where no more is known of the world left than that it is the old one below (a kit's small lemma, copied as its page bids).
  Arguments in memory read as they did where no more is known of the world left than that it is the old one below.
  What becomes of pairs of floats beside when signs are turned.
  Fractions between floats, plainly; what is beside what is beside.
-/
import Derived.Test.YtjcjphgpmpjmbaaGreatDoorSpnO
import Derived.Test.YtjcjphgpmpjmbaaGreatDoorFrZ
import Derived.Below
import Derived.ChangeSame
import Derived.Carry
import Derived.Deep.Slices
import Derived.Deep.Strs
import Derived.Test.YtjcjphgpmpjmbaaGreatDoorCom
import Derived.Test.YtjcjphgpmpjmbaaGreatDoorAnC
import Derived.Test.YtjcjphgpmpjmbaaGreatDoorSpnR
import Derived.Test.YtjcjphgpmpjmbaaGreatDoorSpnP
namespace Go.Proofs.YtjcjphgpmpjmbaaGreatDoor
open Go.RowKit

theorem pz_same {x y : Nat} (hx : x < 2 ^ 64) (hy : y < 2 ^ 64) (h : Flt.sv x = Flt.sv y) : pz x = pz y := by
  by_cases h0 : Flt.sv x = 0
  · unfold pz
    rw [if_pos (Flt.sv_zero_iff.1 h0), if_pos (Flt.sv_zero_iff.1 (by omega))]
  · rw [Flt.fin_eq hx hy h h0]
end Go.Proofs.YtjcjphgpmpjmbaaGreatDoor

namespace Go.Proofs.YtjcjphgpmpjmbaaGreatDoor
open Go.RowKit

theorem RetSp.mono {W : World} {q q' : Nat × Nat × Int → Prop} {e : Ending} {w' : World} (h : RetSp W q e w') (k : ∀ p, q p → q' p) : RetSp W q' e w' := by
  obtain ⟨p, h1, h2⟩ := h
  exact ⟨p, k p h1, h2⟩
end Go.Proofs.YtjcjphgpmpjmbaaGreatDoor

namespace Go.Proofs.YtjcjphgpmpjmbaaGreatDoor
open Go.RowKit Go.WideShapes Go.ChangeShapes
section
variable {H : Type} {enc : TypeId × Value → H} {P : Program}
theorem post_of_below {f : Func} {s : ChangeSpec} {apart fresh handsOn again : Bool} {W W' : World} {args : Array Value} {v : Value} {ds gs : List (DataW H)} {before pa pv : List MemPlace}
    (hW : DataW.Whole enc P f.params.toList s.vars apart W args.toList ds gs before)
    (hres : ∀ (b : Nat) (sp : Nat → Bool) (hd : Bool), DataW.TrodAll enc P W' b sp hd f.resultTypes.toList (v.resultList f.resultTypes.size) (s.fn H (ds ++ gs)).results [])
    (hargs : ∀ sp : Nat → Bool, (∀ p ∈ before, sp p.block = true) → DataW.TrodAll enc P W' 0 sp true f.params.toList args.toList (s.fn H (ds ++ gs)).args pa)
    (hvars : ∀ sp : Nat → Bool, (∀ p ∈ before, sp p.block = true) → DataW.TrodVars enc P W' sp s.vars (s.fn H (ds ++ gs)).vars pv)
    (hps : before = pa ++ pv) (hb : Below W.heap.size W W')
    (hok : ∀ (j : Nat) (t : TypeId) (r : Value), f.resultTypes[j]? = some t → (v.resultList f.resultTypes.size)[j]? = some r → Value.okWide P W' .any 0 t r) :
    s.post enc P f apart fresh handsOn again W args v W' := by
  have hlt : ∀ p ∈ before, p.block < W.heap.size := fun p hp => hW.lt p hp
  have hold : ∀ p ∈ before, (fun b => decide (b < W.heap.size)) p.block = true := fun p hp => by simpa using hlt p hp
  refine ⟨ds, gs, before, [], pa, pv, hW, hres _ _ _, hargs _ hold, hvars _ hold, World.keptBut_mono (fun p hp => ⟨hp, ?_⟩) (hb.frame (· ∈ before)), fun _ => ?_⟩
  · rw [hps, List.mem_append] at hp
    exact Or.inr hp
  · obtain ⟨_, _, _, _, _, hz, hn⟩ := hW
    refine ⟨hok, _, _, ([] ++ pa) ++ pv, ⟨[] ++ pa, pv, trodAll_append (hargs _ (fun _ _ => rfl)) (hres _ _ _), hvars _ (fun _ _ => rfl), rfl, ?_, ?_⟩, ?_⟩
    · intro b off hp
      have hin : MemPlace.cell b off ∈ before := by rw [hps]; simpa using hp
      rw [hb.frozen (hlt _ hin)]
      exact hz b off hin
    · intro ha
      have := hn ha
      rw [hps] at this
      simpa using this
    · intro p hp _
      rw [hps]
      simpa using hp
end
section
variable {H : Type} {enc : TypeId × Value → H} {P : Program} {w : World} {base : Nat} {spare : Nat → Bool} {held : Bool}
theorem trod_float {t : TypeId} {k : FloatKind} {fuel : Nat} {cs : List Value} {x : DataW H × List MemPlace} (ht : P.underlying t = some (.float k)) (h : DataW.trod enc P w base spare held fuel t cs = some x) :
    ∃ n, cs = [.float k n] ∧ x = (.lit (.float k n), []) ∧ (Lit.float k n).wf = true := by
  cases fuel with
  | zero => simp [DataW.trod] at h
  | succ n =>
    unfold DataW.trod at h
    rw [ht] at h
    split at h <;> simp_all
end
end Go.Proofs.YtjcjphgpmpjmbaaGreatDoor

namespace Go.Proofs.YtjcjphgpmpjmbaaGreatDoor
open Go.RowKit Go.WideShapes Go.ChangeShapes
section
variable {H : Type} {enc : TypeId × Value → H} {P : Program}
theorem trodAll_later (hl : laidOutB P = true) {W W' : World} (hb : Below W.heap.size W W') {sp : Nat → Bool} : ∀ (ts : List TypeId) (vs : List Value) (ds : List (DataW H)) (ps : List MemPlace),
    (∀ t ∈ ts, P.readableRec t = true ∧ t < P.types.size) → DataW.TrodAll enc P W 0 (fun _ => true) true ts vs ds ps → (∀ p ∈ ps, p.block < W.heap.size) → (∀ p ∈ ps, sp p.block = true) →
    DataW.TrodAll enc P W' 0 sp true ts vs ds ps
  | [], vs, ds, ps, _, h, _, _ => by
    obtain ⟨rfl, rfl, rfl⟩ := trodAll_nil h
    exact trodAll_mk0
  | t :: ts, vs, ds, ps, ht, h, h1, h2 => by
    obtain ⟨v, vs', d, ds', p, q, rfl, rfl, rfl, hd, hr⟩ := trodAll_cons h
    obtain ⟨a, b⟩ := ht t List.mem_cons_self
    refine ⟨p, q, WideElems.Trod_stays hl a b hd (fun x hx => hb.same (h1 x (List.mem_append_left _ hx))) (fun x hx => h2 x (List.mem_append_left _ hx)), ?_, rfl⟩
    exact trodAll_later hl hb ts vs' ds' q (fun t' h' => ht t' (List.mem_cons_of_mem _ h')) hr (fun x hx => h1 x (List.mem_append_right _ hx)) (fun x hx => h2 x (List.mem_append_right _ hx))
end
end Go.Proofs.YtjcjphgpmpjmbaaGreatDoor

namespace Go.Proofs.YtjcjphgpmpjmbaaGreatDoor
open Go.RowKit

namespace Flt
open Ieee

/-! ### operations and signs -/
theorem not_nan_word {s : Bool} {r : Nat} (h : r ≤ inf) : ¬ Nan (word s r) := by
  have := inf_lt
  unfold Nan
  rw [rg_word _ _ (by omega)]; omega
theorem product_comm (d e : Datum) : d.product e = e.product d := by
  cases d <;> cases e <;> simp [Datum.product, Bool.xor_comm, Nat.mul_comm, Int.add_comm]
theorem sum_comm (d e : Datum) : d.sum e = e.sum d := by
  cases d with
  | nan => cases e <;> rfl
  | infinity s =>
    cases e with
    | nan => rfl
    | infinity t =>
      simp only [Datum.sum]
      by_cases h : s = t
      · subst h; rfl
      · rw [if_neg h, if_neg (fun h' => h h'.symm)]
    | number => rfl
  | number s m i =>
    cases e with
    | nan => rfl
    | infinity t => rfl
    | number t n j =>
      simp only [Datum.sum]
      rw [Int.min_comm j i, Int.add_comm (signed t n _), Bool.and_comm t s]

theorem mul_comm (x y : Nat) : double.mul x y = double.mul y x := by unfold Format.mul; rw [product_comm]
theorem add_comm (x y : Nat) : double.add x y = double.add y x := by unfold Format.add; rw [sum_comm]
end Flt

/-- The one pair is the other one with the other sign; or none of the four is a number. -/
def Turned (d u e v : Nat) : Prop :=
  (Flt.Nan d ∧ Flt.Nan u ∧ Flt.Nan e ∧ Flt.Nan v) ∨ (¬ Flt.Nan d ∧ ¬ Flt.Nan u ∧ ¬ Flt.Nan e ∧ ¬ Flt.Nan v ∧ Flt.sv d = - Flt.sv v ∧ Flt.sv u = - Flt.sv e)

theorem hiR_le' {num den r : Nat} (h : Flt.Dn num den r) : hiR num den r ≤ Flt.inf := by have := h.1; unfold hiR; split <;> omega
theorem Brk.turned {s : Bool} {num den d u e v : Nat} (h : Brk s num den d u) (k : Brk (!s) num den e v) : Turned d u e v := by
  obtain ⟨r, h1, rfl, rfl⟩ := h
  obtain ⟨r', k1, rfl, rfl⟩ := k
  have := h1.unique k1
  subst this
  have hr : r ≤ Flt.inf := by have := h1.1; omega
  have hh := hiR_le' h1
  have hi := Flt.inf_lt
  have w : ∀ (t : Bool) (a b : Nat), (if t then 2 ^ 63 + a else b) = if t then Flt.word true a else Flt.word false b := fun t a b => by cases t <;> rfl
  simp only [w]
  right
  cases s <;> simp only [Bool.not_false, Bool.not_true, Bool.false_eq_true, ↓reduceIte]
  · exact ⟨Flt.not_nan_word hr, Flt.not_nan_word hh, Flt.not_nan_word hh, Flt.not_nan_word hr, by simp [Flt.sv_word (show r < 2 ^ 63 by omega)], by simp [Flt.sv_word (show hiR num den r < 2 ^ 63 by omega)]⟩
  · exact ⟨Flt.not_nan_word hh, Flt.not_nan_word hr, Flt.not_nan_word hr, Flt.not_nan_word hh, by simp [Flt.sv_word (show hiR num den r < 2 ^ 63 by omega)], by simp [Flt.sv_word (show r < 2 ^ 63 by omega)]⟩

theorem sum_comm {x y d u : Nat} (h : IsSum x y d u) : IsSum y x d u := by
  obtain ⟨s, h1, h2, h3⟩ := h
  refine ⟨s, ⟨h1.1, by rw [Flt.add_comm]; exact h1.2⟩, fun k => h2 ?_, fun a b k => ?_⟩
  · rcases k with k | k
    · exact .inl (fun h => k ⟨h.2, h.1⟩)
    · exact .inr (by omega)
  · rw [Int.add_comm] at k ⊢
    exact h3 b a k

end Go.Proofs.YtjcjphgpmpjmbaaGreatDoor

namespace Go.Proofs.YtjcjphgpmpjmbaaGreatDoor
open Go.RowKit

theorem fr_wide (v : Nat) (r : Rat) : fr v = Rat.divInt (Flt.sv v * (r.den : Int)) (((2 ^ Flt.K74 : Nat) : Int) * (r.den : Int)) ∧ r = Rat.divInt (r.num * ((2 ^ Flt.K74 : Nat) : Int)) (((2 ^ Flt.K74 : Nat) : Int) * (r.den : Int)) := by
  constructor
  · unfold fr
    rw [Rat.divInt_mul_right (den_ne r)]
  · rw [Int.mul_comm ((2 ^ Flt.K74 : Nat) : Int) (r.den : Int), Rat.divInt_mul_right unit_ne]
    exact (Rat.num_divInt_den r).symm
theorem wide_pos (r : Rat) : 0 < ((2 ^ Flt.K74 : Nat) : Int) * (r.den : Int) := by
  refine Int.mul_pos ?_ ?_
  · have := Nat.two_pow_pos Flt.K74; omega
  · have := r.den_nz; omega
theorem fr_lt {v : Nat} {r : Rat} : fr v < r ↔ Flt.sv v * (r.den : Int) < r.num * ((2 ^ Flt.K74 : Nat) : Int) := by
  obtain ⟨h1, h2⟩ := fr_wide v r
  have h3 := divInt_lt (a := Flt.sv v * (r.den : Int)) (b := r.num * ((2 ^ Flt.K74 : Nat) : Int)) (wide_pos r)
  rw [← h1, ← h2] at h3
  exact h3
theorem lt_fr {v : Nat} {r : Rat} : r < fr v ↔ r.num * ((2 ^ Flt.K74 : Nat) : Int) < Flt.sv v * (r.den : Int) := by
  obtain ⟨h1, h2⟩ := fr_wide v r
  have h3 := divInt_lt (a := r.num * ((2 ^ Flt.K74 : Nat) : Int)) (b := Flt.sv v * (r.den : Int)) (wide_pos r)
  rw [← h1, ← h2] at h3
  exact h3
/-- Of a fraction that may be: what is told of it. -/
theorem okF_brk {w : World} {neg : Bool} {A : Option Addr} {n c : Nat} {l : List Nat} {neg' : Bool} {A' : Option Addr} {n' c' : Nat} {l' : List Nat} {r : Rat} {d u : Nat} (h : OkF w ((neg, A, n, c, l), (neg', A', n', c', l')) r)
    (k : okFr neg l neg' l' → Brk (decide (sgnd neg (Lm.lv l) < 0)) (Lm.lv l * 2 ^ Flt.K74) (Lm.lv l') d u) :
    ∃ s num den, Brk s num den d u ∧ (r.num = 0 → s = false ∧ num = 0) ∧ Down (r.num * ((2 ^ Flt.K74 : Nat) : Int)) r.den d ∧ Up (r.num * ((2 ^ Flt.K74 : Nat) : Int)) r.den u := by
  have ho := (okB_iff _).1 h.2.1
  obtain ⟨e1, e2⟩ := ok_num h.2.1
  rw [h.2.2] at e1 e2
  have hB := k ho
  have hp : 0 < Lm.lv l' := (okFr_den ho).2
  have ed : r.den = Lm.lv l' := by
    have h2 : (r.den : Int) = sgnd neg' (Lm.lv l') := e2
    have h3 : sgnd neg' (Lm.lv l') = (Lm.lv l' : Int) := (okFr_den ho).1
    rw [h3] at h2
    omega
  have e1' : r.num = sgnd neg (Lm.lv l) := e1
  have hz : r.num * ((2 ^ Flt.K74 : Nat) : Int) = if decide (sgnd neg (Lm.lv l) < 0) then -((Lm.lv l * 2 ^ Flt.K74 : Nat) : Int) else ((Lm.lv l * 2 ^ Flt.K74 : Nat) : Int) := by
    rw [e1', Int.natCast_mul]
    generalize ((2 ^ Flt.K74 : Nat) : Int) = K
    unfold sgnd
    cases neg with
    | false => simp; intro hc; omega
    | true =>
      simp
      by_cases h0 : Lm.lv l = 0
      · rw [h0]; simp
      · rw [if_pos (by omega), Int.neg_mul]
  obtain ⟨a, b⟩ := brk_down (z := r.num * ((2 ^ Flt.K74 : Nat) : Int)) hp hz hB
  refine ⟨_, _, _, hB, fun h0 => ?_, by rw [ed]; exact a, by rw [ed]; exact b⟩
  rw [e1'] at h0
  have hl : Lm.lv l = 0 := by
    have := sgnd_abs neg (Lm.lv l)
    rw [h0] at this
    exact this.symm
  rw [h0, hl]
  exact ⟨rfl, Nat.zero_mul _⟩
end Go.Proofs.YtjcjphgpmpjmbaaGreatDoor
