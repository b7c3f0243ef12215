/-
  What the references' spans tell of the four operations is what the program's tell, plainly.
  The references' spans (polestarref05): the least and the greatest of some fractions.
  The row's last step where no more is known of the world left than that it is the old one below (a kit's small lemma, copied as its page bids).
  Arguments in memory read as they did where no more is known of the world left than that it is the old one below.
-/
import Derived.Test.YtejlicacndpfpaaDoorExW
import Derived.Test.YtejlicacndpfpaaDoorTzF
import Derived.Test.YtejlicacndpfpaaDoorRoot
import Derived.Test.YtejlicacndpfpaaDoorSpnR
import Derived.Test.YtejlicacndpfpaaDoorSpnX
import Derived.Test.YtejlicacndpfpaaDoorSpnG
import Derived.Test.YtejlicacndpfpaaDoorSpnV
import Derived.Below
import Derived.ChangeSame
import Derived.Carry
import Derived.Deep.Slices
import Derived.Deep.Strs
namespace Go.Proofs.YtejlicacndpfpaaDoor
open Go.RowKit

theorem pz_of_sv {x y : Nat} (hx : x < 2 ^ 64) (hy : y < 2 ^ 64) (h : Flt.sv x = Flt.sv y) : pz x = pz y ∧ Flt.finB x = Flt.finB y := by
  have e : Flt.rg x = Flt.rg y := by
    apply Flt.val_inj
    have := h
    unfold Flt.sv at this
    split at this <;> split at this <;> omega
  refine ⟨?_, by unfold Flt.finB; rw [e]⟩
  unfold pz
  rw [e]
  split
  · rfl
  · rename_i h0
    have hv := val_pos h0
    have hs : Flt.sgn x = Flt.sgn y := by
      have := h
      unfold Flt.sv at this
      rw [e] at this
      cases h1 : Flt.sgn x <;> cases h2 : Flt.sgn y <;> first | rfl | (rw [h1, h2] at this; simp at this; omega)
    exact (Flt.word_eq x hx).symm.trans (by rw [hs, e]; exact Flt.word_eq y hy)
theorem ends_of_sv {lo hi d u : Nat} (h1 : lo < 2 ^ 64) (h2 : hi < 2 ^ 64) (h3 : d < 2 ^ 64) (h4 : u < 2 ^ 64) (a : Flt.sv lo = Flt.sv d) (b : Flt.sv hi = Flt.sv u) : endsF lo hi = endsF d u := by
  obtain ⟨a1, a2⟩ := pz_of_sv h1 h3 a
  obtain ⟨b1, b2⟩ := pz_of_sv h2 h4 b
  unfold endsF
  rw [a1, a2, b1, b2]
end Go.Proofs.YtejlicacndpfpaaDoor

namespace Go.Proofs.YtejlicacndpfpaaDoor
open Go.RowKit

/-- A fraction in memory: its two numbers' values, and what it is worth. -/
abbrev FrE := (Bool × Option Addr × Nat × Nat) × (Bool × Option Addr × Nat × Nat) × Rat
def FrE.vs (f : FrE) : List Value := [.bool f.1.1, .slice f.1.2.1 f.1.2.2.1 f.1.2.2.2, .bool f.2.1.1, .slice f.2.1.2.1 f.2.1.2.2.1 f.2.1.2.2.2]
def FrE.at_ (wr : World) (f : FrE) : Prop := IsInt wr f.1.1 f.1.2.1 f.1.2.2.1 f.1.2.2.2 f.2.2.num ∧ IsInt wr f.2.1.1 f.2.1.2.1 f.2.1.2.2.1 f.2.1.2.2.2 (f.2.2.den : Int)
/-- A block that holds fractions. -/
def Frs (wr : World) (g N : Nat) (F : Nat → FrE) : Prop :=
  g < wr.heap.size ∧ ∀ i, i < N → (wr.cell? ⟨g, i * 4, none⟩ = some (.bool (F i).1.1) ∧ wr.cell? ⟨g, i * 4 + 1, none⟩ = some (.slice (F i).1.2.1 (F i).1.2.2.1 (F i).1.2.2.2) ∧
    wr.cell? ⟨g, i * 4 + 2, none⟩ = some (.bool (F i).2.1.1) ∧ wr.cell? ⟨g, i * 4 + 3, none⟩ = some (.slice (F i).2.1.2.1 (F i).2.1.2.2.1 (F i).2.1.2.2.2)) ∧ FrE.at_ wr (F i)
theorem Frs.next {wr w' : World} {g N : Nat} {F : Nat → FrE} (h : Frs wr g N F) (hb : Below wr.heap.size wr w') : Frs w' g N F := by
  refine ⟨Nat.lt_of_lt_of_le h.1 hb.size, fun i hi => ?_⟩
  obtain ⟨⟨h0, h1, h2, h3⟩, h4⟩ := h.2 i hi
  obtain ⟨hc, _⟩ := bcell hb
  exact ⟨⟨(hc _ _ h.1).trans h0, (hc _ _ h.1).trans h1, (hc _ _ h.1).trans h2, (hc _ _ h.1).trans h3⟩, h4.1.below hb, h4.2.below hb⟩
theorem Frs.drewN {wr : World} {g N : Nat} {F : Nat → FrE} (h : Frs wr g N F) (j : Nat) : Frs (wr.drewN j) g N F := h.next (below_drewN (Below.refl _ _) j)
theorem Frs.store {wr : World} {g N : Nat} {F : Nat → FrE} (h : Frs wr g N F) {g' j : Nat} (hne : g' ≠ g) {u : Value} (hc : wr.cell? ⟨g', j, none⟩ = some u) (hu : ∀ x, u ≠ .int .u32 x) (v : Value) : Frs (wr.setCell ⟨g', j, none⟩ v) g N F := by
  have far : ∀ o, (wr.setCell ⟨g', j, none⟩ v).cell? ⟨g, o, none⟩ = wr.cell? ⟨g, o, none⟩ := fun o => World.cell?_setCell_other wr ⟨g', j, none⟩ ⟨g, o, none⟩ _ (by intro q; injection q with q; exact hne q)
  refine ⟨by simpa [World.setCell] using h.1, fun i hi => ?_⟩
  obtain ⟨⟨h0, h1, h2, h3⟩, h4⟩ := h.2 i hi
  exact ⟨⟨(far _).trans h0, (far _).trans h1, (far _).trans h2, (far _).trans h3⟩, IsInt.store h4.1 v hc hu, IsInt.store h4.2 v hc hu⟩
def FrE.val (f : FrE) : Value := .agg #[.bool f.1.1, .slice f.1.2.1 f.1.2.2.1 f.1.2.2.2, .bool f.2.1.1, .slice f.2.1.2.1 f.2.1.2.2.1 f.2.1.2.2.2]
end Go.Proofs.YtejlicacndpfpaaDoor

namespace Go.Proofs.YtejlicacndpfpaaDoor
open Go.RowKit Go.WideShapes Go.ChangeShapes
section
variable {H : Type} {enc : TypeId × Value → H} {P : Program}
theorem post_of_below {f : Func} {s : ChangeSpec} {apart fresh handsOn again : Bool} {W W' : World} {args : Array Value} {v : Value} {ds gs : List (DataW H)} {before pa pv : List MemPlace}
    (hW : DataW.Whole enc P f.params.toList s.vars apart W args.toList ds gs before)
    (hres : ∀ (b : Nat) (sp : Nat → Bool) (hd : Bool), DataW.TrodAll enc P W' b sp hd f.resultTypes.toList (v.resultList f.resultTypes.size) (s.fn H (ds ++ gs)).results [])
    (hargs : ∀ sp : Nat → Bool, (∀ p ∈ before, sp p.block = true) → DataW.TrodAll enc P W' 0 sp true f.params.toList args.toList (s.fn H (ds ++ gs)).args pa)
    (hvars : ∀ sp : Nat → Bool, (∀ p ∈ before, sp p.block = true) → DataW.TrodVars enc P W' sp s.vars (s.fn H (ds ++ gs)).vars pv)
    (hps : before = pa ++ pv) (hb : Below W.heap.size W W')
    (hok : ∀ (j : Nat) (t : TypeId) (r : Value), f.resultTypes[j]? = some t → (v.resultList f.resultTypes.size)[j]? = some r → Value.okWide P W' .any 0 t r) :
    s.post enc P f apart fresh handsOn again W args v W' := by
  have hlt : ∀ p ∈ before, p.block < W.heap.size := fun p hp => hW.lt p hp
  have hold : ∀ p ∈ before, (fun b => decide (b < W.heap.size)) p.block = true := fun p hp => by simpa using hlt p hp
  refine ⟨ds, gs, before, [], pa, pv, hW, hres _ _ _, hargs _ hold, hvars _ hold, World.keptBut_mono (fun p hp => ⟨hp, ?_⟩) (hb.frame (· ∈ before)), fun _ => ?_⟩
  · rw [hps, List.mem_append] at hp
    exact Or.inr hp
  · obtain ⟨_, _, _, _, _, hz, hn⟩ := hW
    refine ⟨hok, _, _, ([] ++ pa) ++ pv, ⟨[] ++ pa, pv, trodAll_append (hargs _ (fun _ _ => rfl)) (hres _ _ _), hvars _ (fun _ _ => rfl), rfl, ?_, ?_⟩, ?_⟩
    · intro b off hp
      have hin : MemPlace.cell b off ∈ before := by rw [hps]; simpa using hp
      rw [hb.frozen (hlt _ hin)]
      exact hz b off hin
    · intro ha
      have := hn ha
      rw [hps] at this
      simpa using this
    · intro p hp _
      rw [hps]
      simpa using hp
end
section
variable {H : Type} {enc : TypeId × Value → H} {P : Program} {w : World} {base : Nat} {spare : Nat → Bool} {held : Bool}
end
end Go.Proofs.YtejlicacndpfpaaDoor

namespace Go.Proofs.YtejlicacndpfpaaDoor
open Go.RowKit Go.WideShapes Go.ChangeShapes
section
variable {H : Type} {enc : TypeId × Value → H} {P : Program}
theorem trodAll_later (hl : laidOutB P = true) {W W' : World} (hb : Below W.heap.size W W') {sp : Nat → Bool} : ∀ (ts : List TypeId) (vs : List Value) (ds : List (DataW H)) (ps : List MemPlace),
    (∀ t ∈ ts, P.readableRec t = true ∧ t < P.types.size) → DataW.TrodAll enc P W 0 (fun _ => true) true ts vs ds ps → (∀ p ∈ ps, p.block < W.heap.size) → (∀ p ∈ ps, sp p.block = true) →
    DataW.TrodAll enc P W' 0 sp true ts vs ds ps
  | [], vs, ds, ps, _, h, _, _ => by
    obtain ⟨rfl, rfl, rfl⟩ := trodAll_nil h
    exact trodAll_mk0
  | t :: ts, vs, ds, ps, ht, h, h1, h2 => by
    obtain ⟨v, vs', d, ds', p, q, rfl, rfl, rfl, hd, hr⟩ := trodAll_cons h
    obtain ⟨a, b⟩ := ht t List.mem_cons_self
    refine ⟨p, q, WideElems.Trod_stays hl a b hd (fun x hx => hb.same (h1 x (List.mem_append_left _ hx))) (fun x hx => h2 x (List.mem_append_left _ hx)), ?_, rfl⟩
    exact trodAll_later hl hb ts vs' ds' q (fun t' h' => ht t' (List.mem_cons_of_mem _ h')) hr (fun x hx => h1 x (List.mem_append_right _ hx)) (fun x hx => h2 x (List.mem_append_right _ hx))
end
end Go.Proofs.YtejlicacndpfpaaDoor
