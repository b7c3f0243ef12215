/-
  A book with lists of one kind (Limb): do they lie apart?
-/
import Derived.Test.YtgekmbfmfiikkaaGreatDoorBkE
import Derived.Test.YtgekmbfmfiikkaaGreatDoorBkLimb
import Derived.Test.YtgekmbfmfiikkaaGreatDoorBlLimb
namespace Go.Proofs.YtgekmbfmfiikkaaGreatDoor
open Go.RowKit
abbrev NilLimb (B : Nat) (w : World) : Prop := ∀ j, (decide (0 < j) && decide (j ≤ 16)) = true → j ≠ 1 → w.cell? ⟨B, j, none⟩ = some (.slice none 0 0)
theorem NilLimb.next {B : Nat} {w w1 : World} (h : NilLimb B w) {S : Nat → Prop} (k : Fr S w w1) (hB : B < w.heap.size) (hs : ¬ S B) : NilLimb B w1 := fun j h1 h2 => (k.cell hB hs).trans (h j h1 h2)
set_option maxRecDepth 100000 in
set_option maxHeartbeats 12800000 in
theorem apartLimb_any (B H cap base : Nat) (L : List Hl) (w : World) (hB : w.cell? ⟨B, 1, none⟩ = some (.slice (some ⟨H, 0, none⟩) L.length cap)) (hBl : B < w.heap.size) (hN : NilLimb B w) (hH : w.ownsRow base 163 3 (.slice (some ⟨H, 0, none⟩) L.length cap) L.length (flat L)) (hO : Owd base 164 1 w L) (hD : Dis L) (hSB : ¬ Sv L B) (hSH : ¬ Sv L H) (hBH : B ≠ H)
  (hk : ∀ (i : Nat) (h : Hl), L[i]? = some h → h.k ≤ 1000000000 ∧ h.n ≤ 1000000000) (hm : L.length ≤ 1000000000) (hbase : base ≤ w.heap.size) :
  Calls Tryz.prog 22 #[.pointer (some ⟨B, 0, none⟩)] w fun e w' => e = .returned (.bool true) ∧ Below base w w' := by
 have hHl := (hH.lt H rfl)
 have hHd : Held w H L := ⟨hHl.2, fun j u hu => by rw [hH.cellAt j (by have := (List.getElem?_eq_some_iff.1 hu).1; rw [flat_len] at this; omega)]; exact hu⟩
 have hSv : ∀ b, Sv L b → base ≤ b := fun b ⟨i, h, hi, hb⟩ => ((hO i h hi).lt b hb).1
 have HC0 : Hid (NilLimb B w) := Lib.hid hN
 have HB := Lib.hid hB
 have HBL := Lib.hid hBl
 have HH := Lib.hid hH
 have HHD := Lib.hid hHd
 have HO := Lib.hid hO
 have HD := Lib.hid hD
 have HSB := Lib.hid hSB
 have HSH := Lib.hid hSH
 have HBH := Lib.hid hBH
 have HK := Lib.hid hk
 have HM := Lib.hid hm
 have HBS := Lib.hid hbase
 have HSV := Lib.hid hSv
 have HHL := Lib.hid hHl
 clear hN hB hBl hH hHd hO hD hSB hSH hBH hk hm hbase hSv hHl
 go_enter Tryz.func22, Tryz.ntmps22
 go_wp2_with (first
  | (go_at_call 60; (refine (fillLimb_any B H cap base L w HB.out HBL.out HHD.out HO.out HD.out HSB.out HSH.out HK.out HM.out).mono ?_); rintro e1 w1 ⟨rfl, hF1, hfl⟩; have HF1 := Lib.hid hF1; have HFL := Lib.hid hfl; have HC0 := Lib.hid (HC0.out.next hF1 HBL.out HSB.out); clear hF1 hfl)
  | (go_at_call 76; (refine (growLimb_any B H cap base L w1 ((HF1.out.cell HBL.out HSB.out).trans HB.out) (Nat.lt_of_lt_of_le HBL.out HF1.out.size) (Fr.row HH.out HF1.out (fun g hg => by injection hg with hg; subst hg; exact HSH.out)) HFL.out HD.out HSB.out HSH.out HBH.out HK.out HM.out (Nat.le_trans HBS.out HF1.out.size)).mono ?_); rintro e2 w2 ⟨rfl, L', hL', hrow2, hF2, hG2⟩; have HF2 := Lib.hid hF2; have HG2 := Lib.hid hG2; have HL2 := Lib.hid hL'; have HR2 := Lib.hid hrow2; have HC0 := Lib.hid (HC0.out.next hF2 (Nat.lt_of_lt_of_le HBL.out HF1.out.size) (fun e => e.elim HSB.out HBH.out)); clear hF2 hG2 hL' hrow2)
  | (go_at_call 92; (refine (lookLimb_any B H cap L' w2 ?_ ?_ ?_ ?_ ?_).mono ?_); exact (by rw [HL2.out]; exact (HF2.out.cell (Nat.lt_of_lt_of_le HBL.out HF1.out.size) (fun e => e.elim HSB.out HBH.out)).trans ((HF1.out.cell HBL.out HSB.out).trans HB.out)); exact Nat.lt_of_lt_of_le (Nat.lt_of_lt_of_le HBL.out HF1.out.size) HF2.out.size; exact ⟨(HR2.out.lt H rfl).2, fun j u hu => by rw [HR2.out.cellAt j (by have := (List.getElem?_eq_some_iff.1 hu).1; rw [flat_len] at this; omega)]; exact hu⟩; exact (fun i h' hi => by obtain ⟨h, hh⟩ : ∃ h, L[i]? = some h := ⟨_, List.getElem?_eq_getElem (by have := (List.getElem?_eq_some_iff.1 hi).1; have := HL2.out; omega)⟩; obtain ⟨h2, q1, q2, q3, q4, q5, q6, q7, q8, _⟩ := HG2.out i h hh; obtain rfl : h2 = h' := (by have := q1.symm.trans hi; injection this); have q9 := HK.out i h hh; unfold Hl.v at q7 ⊢; rw [q2, q3, q4, q5]; exact ⟨q9.1, q9.2, q6, q7, q8⟩); (rw [HL2.out]; exact HM.out); rintro e3 w3 ⟨rfl, hb3⟩; have HB3 := Lib.hid hb3; have HC0 := Lib.hid (HC0.out.next (Fr.of_below (fun _ => False) hb3) (Nat.lt_of_lt_of_le (Nat.lt_of_lt_of_le HBL.out HF1.out.size) HF2.out.size) id); clear hb3)
  | (go_at_call 61; (with_reducible refine (fillNumber_none B _ ?_).mono ?_); (with_reducible exact HC0.out 2 (by decide) (by decide)); rintro e w' ⟨rfl, rfl⟩)
  | (go_at_call 77; (with_reducible refine (growNumber_none B _ ?_).mono ?_); (with_reducible exact HC0.out 2 (by decide) (by decide)); rintro e w' ⟨rfl, rfl⟩)
  | (go_at_call 93; (with_reducible refine (lookNumber_none B _ ?_).mono ?_); (with_reducible exact HC0.out 2 (by decide) (by decide)); rintro e w' ⟨rfl, rfl⟩)
  | (go_at_call 62; (with_reducible refine (fillFloat_none B _ ?_).mono ?_); (with_reducible exact HC0.out 3 (by decide) (by decide)); rintro e w' ⟨rfl, rfl⟩)
  | (go_at_call 78; (with_reducible refine (growFloat_none B _ ?_).mono ?_); (with_reducible exact HC0.out 3 (by decide) (by decide)); rintro e w' ⟨rfl, rfl⟩)
  | (go_at_call 94; (with_reducible refine (lookFloat_none B _ ?_).mono ?_); (with_reducible exact HC0.out 3 (by decide) (by decide)); rintro e w' ⟨rfl, rfl⟩)
  | (go_at_call 63; (with_reducible refine (fillComplex_none B _ ?_).mono ?_); (with_reducible exact HC0.out 4 (by decide) (by decide)); rintro e w' ⟨rfl, rfl⟩)
  | (go_at_call 79; (with_reducible refine (growComplex_none B _ ?_).mono ?_); (with_reducible exact HC0.out 4 (by decide) (by decide)); rintro e w' ⟨rfl, rfl⟩)
  | (go_at_call 95; (with_reducible refine (lookComplex_none B _ ?_).mono ?_); (with_reducible exact HC0.out 4 (by decide) (by decide)); rintro e w' ⟨rfl, rfl⟩)
  | (go_at_call 64; (with_reducible refine (fillText_none B _ ?_).mono ?_); (with_reducible exact HC0.out 5 (by decide) (by decide)); rintro e w' ⟨rfl, rfl⟩)
  | (go_at_call 80; (with_reducible refine (growText_none B _ ?_).mono ?_); (with_reducible exact HC0.out 5 (by decide) (by decide)); rintro e w' ⟨rfl, rfl⟩)
  | (go_at_call 96; (with_reducible refine (lookText_none B _ ?_).mono ?_); (with_reducible exact HC0.out 5 (by decide) (by decide)); rintro e w' ⟨rfl, rfl⟩)
  | (go_at_call 65; (with_reducible refine (fillFrac_none B _ ?_).mono ?_); (with_reducible exact HC0.out 6 (by decide) (by decide)); rintro e w' ⟨rfl, rfl⟩)
  | (go_at_call 81; (with_reducible refine (growFrac_none B _ ?_).mono ?_); (with_reducible exact HC0.out 6 (by decide) (by decide)); rintro e w' ⟨rfl, rfl⟩)
  | (go_at_call 97; (with_reducible refine (lookFrac_none B _ ?_).mono ?_); (with_reducible exact HC0.out 6 (by decide) (by decide)); rintro e w' ⟨rfl, rfl⟩)
  | (go_at_call 66; (with_reducible refine (fillGauss_none B _ ?_).mono ?_); (with_reducible exact HC0.out 7 (by decide) (by decide)); rintro e w' ⟨rfl, rfl⟩)
  | (go_at_call 82; (with_reducible refine (growGauss_none B _ ?_).mono ?_); (with_reducible exact HC0.out 7 (by decide) (by decide)); rintro e w' ⟨rfl, rfl⟩)
  | (go_at_call 98; (with_reducible refine (lookGauss_none B _ ?_).mono ?_); (with_reducible exact HC0.out 7 (by decide) (by decide)); rintro e w' ⟨rfl, rfl⟩)
  | (go_at_call 67; (with_reducible refine (fillRay_none B _ ?_).mono ?_); (with_reducible exact HC0.out 8 (by decide) (by decide)); rintro e w' ⟨rfl, rfl⟩)
  | (go_at_call 83; (with_reducible refine (growRay_none B _ ?_).mono ?_); (with_reducible exact HC0.out 8 (by decide) (by decide)); rintro e w' ⟨rfl, rfl⟩)
  | (go_at_call 99; (with_reducible refine (lookRay_none B _ ?_).mono ?_); (with_reducible exact HC0.out 8 (by decide) (by decide)); rintro e w' ⟨rfl, rfl⟩)
  | (go_at_call 68; (with_reducible refine (fillElement_none B _ ?_).mono ?_); (with_reducible exact HC0.out 9 (by decide) (by decide)); rintro e w' ⟨rfl, rfl⟩)
  | (go_at_call 84; (with_reducible refine (growElement_none B _ ?_).mono ?_); (with_reducible exact HC0.out 9 (by decide) (by decide)); rintro e w' ⟨rfl, rfl⟩)
  | (go_at_call 100; (with_reducible refine (lookElement_none B _ ?_).mono ?_); (with_reducible exact HC0.out 9 (by decide) (by decide)); rintro e w' ⟨rfl, rfl⟩)
  | (go_at_call 69; (with_reducible refine (fillCoat_none B _ ?_).mono ?_); (with_reducible exact HC0.out 10 (by decide) (by decide)); rintro e w' ⟨rfl, rfl⟩)
  | (go_at_call 85; (with_reducible refine (growCoat_none B _ ?_).mono ?_); (with_reducible exact HC0.out 10 (by decide) (by decide)); rintro e w' ⟨rfl, rfl⟩)
  | (go_at_call 101; (with_reducible refine (lookCoat_none B _ ?_).mono ?_); (with_reducible exact HC0.out 10 (by decide) (by decide)); rintro e w' ⟨rfl, rfl⟩)
  | (go_at_call 70; (with_reducible refine (fillDisc_none B _ ?_).mono ?_); (with_reducible exact HC0.out 11 (by decide) (by decide)); rintro e w' ⟨rfl, rfl⟩)
  | (go_at_call 86; (with_reducible refine (growDisc_none B _ ?_).mono ?_); (with_reducible exact HC0.out 11 (by decide) (by decide)); rintro e w' ⟨rfl, rfl⟩)
  | (go_at_call 102; (with_reducible refine (lookDisc_none B _ ?_).mono ?_); (with_reducible exact HC0.out 11 (by decide) (by decide)); rintro e w' ⟨rfl, rfl⟩)
  | (go_at_call 71; (with_reducible refine (fillPart_none B _ ?_).mono ?_); (with_reducible exact HC0.out 12 (by decide) (by decide)); rintro e w' ⟨rfl, rfl⟩)
  | (go_at_call 87; (with_reducible refine (growPart_none B _ ?_).mono ?_); (with_reducible exact HC0.out 12 (by decide) (by decide)); rintro e w' ⟨rfl, rfl⟩)
  | (go_at_call 103; (with_reducible refine (lookPart_none B _ ?_).mono ?_); (with_reducible exact HC0.out 12 (by decide) (by decide)); rintro e w' ⟨rfl, rfl⟩)
  | (go_at_call 72; (with_reducible refine (fillDef_none B _ ?_).mono ?_); (with_reducible exact HC0.out 13 (by decide) (by decide)); rintro e w' ⟨rfl, rfl⟩)
  | (go_at_call 88; (with_reducible refine (growDef_none B _ ?_).mono ?_); (with_reducible exact HC0.out 13 (by decide) (by decide)); rintro e w' ⟨rfl, rfl⟩)
  | (go_at_call 104; (with_reducible refine (lookDef_none B _ ?_).mono ?_); (with_reducible exact HC0.out 13 (by decide) (by decide)); rintro e w' ⟨rfl, rfl⟩)
  | (go_at_call 73; (with_reducible refine (fillItem_none B _ ?_).mono ?_); (with_reducible exact HC0.out 14 (by decide) (by decide)); rintro e w' ⟨rfl, rfl⟩)
  | (go_at_call 89; (with_reducible refine (growItem_none B _ ?_).mono ?_); (with_reducible exact HC0.out 14 (by decide) (by decide)); rintro e w' ⟨rfl, rfl⟩)
  | (go_at_call 105; (with_reducible refine (lookItem_none B _ ?_).mono ?_); (with_reducible exact HC0.out 14 (by decide) (by decide)); rintro e w' ⟨rfl, rfl⟩)
  | (go_at_call 74; (with_reducible refine (fillAct_none B _ ?_).mono ?_); (with_reducible exact HC0.out 15 (by decide) (by decide)); rintro e w' ⟨rfl, rfl⟩)
  | (go_at_call 90; (with_reducible refine (growAct_none B _ ?_).mono ?_); (with_reducible exact HC0.out 15 (by decide) (by decide)); rintro e w' ⟨rfl, rfl⟩)
  | (go_at_call 106; (with_reducible refine (lookAct_none B _ ?_).mono ?_); (with_reducible exact HC0.out 15 (by decide) (by decide)); rintro e w' ⟨rfl, rfl⟩)
  | (go_at_call 75; (with_reducible refine (fillReply_none B _ ?_).mono ?_); (with_reducible exact HC0.out 16 (by decide) (by decide)); rintro e w' ⟨rfl, rfl⟩)
  | (go_at_call 91; (with_reducible refine (growReply_none B _ ?_).mono ?_); (with_reducible exact HC0.out 16 (by decide) (by decide)); rintro e w' ⟨rfl, rfl⟩)
  | (go_at_call 107; (with_reducible refine (lookReply_none B _ ?_).mono ?_); (with_reducible exact HC0.out 16 (by decide) (by decide)); rintro e w' ⟨rfl, rfl⟩))
 go_ret
 refine ⟨rfl, ?_⟩
 have b1 : Below base w w1 := HF1.out.below HSV.out HBS.out
 have b2 : Below base w1 w2 := HF2.out.below (fun b hb => hb.elim (HSV.out b) (fun e => by rw [e]; exact HHL.out.1)) (Nat.le_trans HBS.out HF1.out.size)
 exact (b1.trans b2).trans (HB3.out.mono (Nat.le_trans (Nat.le_trans HBS.out HF1.out.size) HF2.out.size))
end Go.Proofs.YtgekmbfmfiikkaaGreatDoor
