/-
  The program's whole numbers (package exact): times a power of two (Double).
  The program's whole numbers (package exact): limbs by one limb, in place (bits.Div32, short).
  The quotient of limbs by limbs, plainly: how far a limb that is guessed by two limbs of the divisor may be off; taking away; adding back.
  The program's whole numbers (package exact): limbs less so many times others, in place (less).
-/
import Derived.Test.YtgekmbfmfiikkaaGreatDoorExD
import Derived.Deep.OwnRows
import Derived.Test.YtgekmbfmfiikkaaGreatDoorZero
set_option maxHeartbeats 3200000
set_option maxRecDepth 100000
namespace Go.Proofs.YtgekmbfmfiikkaaGreatDoor
open Go.RowKit
theorem step_append_row {P : Program} (w : World) {ops : Array Oper} {o : Oper} {a : Act} {K : Act → World → Prop} {Q : Exit → Act → World → Prop} {E : Prop} (hgd : o.guard = none) (s x : Operand) (t : TypeId)
  (ho : o.op = .call { callee := .builtin .append, args := #[s, x], argTypes := #[t, t] })
  (base : Nat) (e : TypeId) (i : TypeInfo) (z : Value) (bytes : Nat) (ht : P.underlying t = some (.slice e)) (hi : P.info? e = some i) (hz : i.zero = some z)
  (hsize : i.size = 1) (hby : i.bytes = bytes) (hzs : z.cells.size = 1)
  (v : Value) (n : Nat) (xs : List Value) (hs : a.eval s = v) (hown : w.ownsRow base e 1 v n xs)
  (B : Nat) (A : Option Addr) (m c : Nat) (news : List Value) (hx : a.eval x = .slice A m c) (hr : Reads w B A m news) (h1 : ∀ u ∈ news, u.oneCell' = true)
  (h63 : n + m ≤ maxLen) (hbytes : (n + m) * bytes ≤ 140737488355328) (hbase : base ≤ w.heap.size)
  (h : ∀ v' w', w'.ownsRow base e 1 v' (n + m) (xs ++ news) → w.grownBy w' v.ownBlock → (v'.ownBlock = v.ownBlock ∨ v'.ownBlock = some w.heap.size) → K (a.put o.dst v') w') :
  if Region.wanted o (yielded ops a.tmps) = true then Oper.wp P o a w K Q else E := by
 have hw : Region.wanted o (yielded ops a.tmps) = true := by simp [Region.wanted, hgd]
 rw [if_pos hw]
 exact wp_append_any w s x t ho base e i z bytes ht hi hz hsize hby hzs v n xs hs hown B A m c news hx hr h1 h63 hbytes hbase h
theorem ex_up_of (A : Option Addr) (n c s : Nat) (a : List Nat) (z : Int) (w : World) (ha : Sl w A n c a) (hn : n ≤ 1000000000) (hs : s < 32) (hz : z = (s : Int)) :
  Calls Tryz.prog 268 #[.slice A n c, .int .u64 z] w (RetRow w (fun l => Lm.lv l = Lm.lv a * pw s) (n + 1)) := by
 subst hz
 exact ex_up_any A n c s a w ha hn hs
theorem dbl_lv {l a : List Nat} {s : Nat} (h : Lm.lv l = Lm.lv a * pw (s % 32)) : Lm.lv (List.replicate (s / 32) 0 ++ l) = Lm.lv a * 2 ^ s := by
 have h1 := double_lv a s
 rw [Lm.lv_append, Lm.lv_zeros, List.length_replicate, Nat.zero_add] at h1 ⊢
 rw [h, ← h1, Nat.mul_assoc]
 rfl
theorem shift_rest {s : Nat} : IntKind.u64.wrap ((s : Int).tmod 32) = ((s % 32 : Nat) : Int) := by
 rw [show (32 : Int) = ((32 : Nat) : Int) from rfl, ← Int.ofNat_tmod]
 exact IntWalk.u64_in _ (by omega)
theorem Sl.drew {w : World} {n c : Nat} {A : Option Addr} {l : List Nat} (h : Sl w A n c l) : Sl w.drew A n c l := h
theorem made_own (w : World) (k : Nat) (hk : k ≤ 1000000000) : (w.alloc (.cells (madeCells #[.int .u32 0] k) 164)).ownsRow w.heap.size 164 1 (.slice (some ⟨w.heap.size, 0, none⟩) k k) k (u32s (List.replicate k 0)) := by
 have h := World.ownsRow_lit (e := 164) (size := 1) w (madeCells #[.int .u32 0] k) k (Nat.le_refl _) (by unfold maxLen; omega) (by simp [size_madeCells])
 rwa [made_u32] at h
theorem sl_of_row {w : World} {B g m : Nat} {l : List Nat} (h : w.ownsRow B 164 1 (.slice (some ⟨g, 0, none⟩) m m) m (u32s l)) (hok : Lm.ok l) : Sl w (some ⟨g, 0, none⟩) m m l := Sl.of_own h (Nat.le_refl _) hok
theorem ex_double_pos (neg : Bool) (A : Option Addr) (n c s : Nat) (a : List Nat) (w : World) (ha : Sl w A n c a) (h0 : 0 < n) (hn : n ≤ 100000000) (hs : s ≤ 1000000000) :
    Calls Tryz.prog 214 #[.agg #[.bool neg, .slice A n c], .int .i64 s] w (RetInt w (sgnd neg (Lm.lv a * 2 ^ s))) := by
  obtain ⟨i0, hi, hz0, hz1, hz2⟩ := info_parts info_u32
  have hne : ((n : Int) == 0) = false := by rw [beq_eq_false_iff_ne]; omega
  have K0 := ((Mm.nil w).var (g := w.heap.size) rfl [.bool neg, .slice A n c] 24).var (g := w.heap.size + 1) (by simp) [.bool false, .slice none 0 0] 24
  have hS0 := (ha.alloc (.cells #[.bool neg, .slice A n c] 24)).alloc (.cells #[.bool false, .slice none 0 0] 24)
  have hmk : ∀ w, (Instr.makeSlice 22 (.int .i64 (IntKind.i64.wrap ((s : Int) / 32))) (.int .i64 (IntKind.i64.wrap ((s : Int) / 32)))).run Tryz.prog w = .ok (.slice (some ⟨w.heap.size, 0, none⟩) (s / 32) (s / 32)) (w.alloc (.cells (madeCells #[.int .u32 0] (s / 32)) 164)) := fun w => by
    rw [show IntKind.i64.wrap ((s : Int) / 32) = ((s / 32 : Nat) : Int) by rw [show (s : Int) / 32 = ((s / 32 : Nat) : Int) by omega]; exact IntWalk.i64_in _ (by omega)]
    exact run_make_row' (P := Tryz.prog) 22 164 (.int .u32 0) 4 Tryz.underlying22 info_u32 rfl .i64 .i64 (s / 32) (by omega) (by omega) w
  go_enter Tryz.func214, Tryz.ntmps214
  go_wp2_with fail
  generalize (w.alloc (.cells #[.bool neg, .slice A n c] 24)).alloc (.cells #[.bool false, .slice none 0 0] 24) = w0 at K0 hS0 ⊢
  obtain ⟨_, _, _, _, _⟩ := (K0.blk (g := w.heap.size) (by repeat constructor)).two
  go_region_held3 (fun w' => w'.cell? ⟨w.heap.size, 0, none⟩ = some (.bool neg) ∧ w'.cell? ⟨w.heap.size, 1, none⟩ = some (.slice A n c))
    (go_keep)
    (first
      | (go_at_call 268; (with_reducible refine (ex_up_of A n c (s % 32) a _ _ ?_ (by omega) (by omega) shift_rest).mono ?_); (with_reducible exact (hS0.alloc _).drew); rintro e1 w1 ⟨g1, l1, rfl, hown1, hok1, hl1, hv1, hb1⟩; have hb01 := below_box (below_of_drew hb1); have own0 := own_kept (made_own w0 (s / 32) (by omega)) (below_of_drew hb1); have hv2 := Lib.hid (dbl_lv hv1); clear hv1 hb1; have K1 := K0.next hb01; obtain ⟨qa1, qb1, _, _, qe1⟩ := (K1.blk (g := w.heap.size) (by repeat constructor)).two)
      | (go_at_call 268; (with_reducible refine (ex_up_of A n c (s % 32) a _ _ ?_ (by omega) (by omega) shift_rest).mono ?_); (with_reducible exact hS0.drew); rintro e1 w1 ⟨g1, l1, rfl, hown1, hok1, hl1, hv1, hb1⟩; have hb01 := below_of_drew hb1; have own0 := made_own w1 (s / 32) (by omega); have hv2 := Lib.hid (dbl_lv hv1); clear hv1 hb1; have K1 := K0.next hb01; obtain ⟨qa1, qb1, _, _, qe1⟩ := (K1.blk (g := w.heap.size) (by repeat constructor)).two)
      | (refine step_append_row _ (by rfl) _ _ 22 (by rfl) w0.heap.size 164 i0 (.int .u32 0) 4 Tryz.underlying22 hi hz0 hz1 hz2 rfl (.slice (some ⟨w0.heap.size, 0, none⟩) (s / 32) (s / 32)) (s / 32) (u32s (List.replicate (s / 32) 0)) (by rfl) own0 _ (some ⟨g1, 0, none⟩) (n + 1) (n + 1) (u32s l1) (by rfl) (sl_of_row hown1 hok1).1 (u32s_one _) (by unfold maxLen; omega) (by omega) hb01.size ?_; intro v' w2 hown2 hgrow2 _; have hb2 := hb01.grown hgrow2 hb01.size (own_ge own0); rw [← u32s_append] at hown2; obtain ⟨A2, c2, rfl, hc2⟩ := own_form hown2; have hS2 : Sl w2 A2 (s / 32 + (n + 1)) c2 (List.replicate (s / 32) 0 ++ l1) := (Sl.of_own hown2 hc2 (Lm.ok_append (Lm.ok_zeros _) hok1)); clear hown2 hgrow2; have K2 := K0.next hb2; obtain ⟨qa2, qb2, _, _, qe2⟩ := (K2.blk (g := w.heap.size) (by repeat constructor)).two)
      | (refine step_append_row _ (by rfl) _ _ 22 (by rfl) w1.heap.size 164 i0 (.int .u32 0) 4 Tryz.underlying22 hi hz0 hz1 hz2 rfl (.slice (some ⟨w1.heap.size, 0, none⟩) (s / 32) (s / 32)) (s / 32) (u32s (List.replicate (s / 32) 0)) (by rfl) own0 _ (some ⟨g1, 0, none⟩) (n + 1) (n + 1) (u32s l1) (by rfl) ((sl_of_row hown1 hok1).alloc _).1 (u32s_one _) (by unfold maxLen; omega) (by omega) (by simp) ?_; intro v' w2 hown2 hgrow2 _; have hb2 := (hb01.alloc hb01.size _).grown hgrow2 (by simp; have := hb01.size; omega) (fun k hk => Nat.le_trans hb01.size (own_ge own0 k hk)); rw [← u32s_append] at hown2; obtain ⟨A2, c2, rfl, hc2⟩ := own_form hown2; have hS2 : Sl w2 A2 (s / 32 + (n + 1)) c2 (List.replicate (s / 32) 0 ++ l1) := (Sl.of_own hown2 hc2 (Lm.ok_append (Lm.ok_zeros _) hok1)); clear hown2 hgrow2; have K2 := K0.next hb2; obtain ⟨qa2, qb2, _, _, qe2⟩ := (K2.blk (g := w.heap.size) (by repeat constructor)).two)
      | (go_at_call 267; (with_reducible refine (ex_signed_any neg A2 (s / 32 + (n + 1)) c2 _ _ hS2 (by omega)).mono ?_); rintro e3 w3 ⟨neg3, A3, n3, c3, rfl, I3, hb3⟩; have K3 := (K2.next hb3).int I3; obtain ⟨_, _, _, _, _⟩ := (K3.blk (g := w.heap.size) (by repeat constructor)).two; obtain ⟨ra3, rb3, _, _, _⟩ := (K3.blk (g := w.heap.size + 1) (by repeat constructor)).two))
  all_goals
   go_wp2_with fail
   rw [hv2.out] at K3
   have KE := (K3.pick (L' := [(w.heap.size + 1, [.bool false, .slice none 0 0])]) (l' := [(neg3, A3, n3, c3, sgnd neg (Lm.lv a * 2 ^ s))]) (by simp) (by simp)).set2 (by simp <;> omega) neg3 A3 n3 c3
   exact bodyPost_ret (v := .agg #[.bool neg3, .slice A3 n3 c3]) (by simp [results, Tryz.results214, go_sem, ra3, rb3]) rfl ⟨neg3, A3, n3, c3, rfl, KE.at_ (by simp), KE.1⟩
theorem ex_double_any (neg : Bool) (A : Option Addr) (n c s : Nat) (x : Int) (w : World) (hx : IsInt w neg A n c x) (hn : n ≤ 100000000) (hs : s ≤ 1000000000) :
  Calls Tryz.prog 214 #[.agg #[.bool neg, .slice A n c], .int .i64 s] w (RetInt w (x * ((2 ^ s : Nat) : Int))) := by
 by_cases h0 : n = 0
 ·have hz := (isInt_zero hx).1 h0
  subst h0
  have K0 := ((Mm.nil w).var (g := w.heap.size) rfl [.bool neg, .slice A 0 c] 24).var (g := w.heap.size + 1) (by simp) [.bool false, .slice none 0 0] 24
  have hzz : Hid (x = 0) := Lib.hid hz
  clear hz hx
  go_enter Tryz.func214, Tryz.ntmps214
  go_wp2_with fail
  exact bodyPost_ret (v := .agg #[.bool false, .slice none 0 0]) (by simp [results, Tryz.results214, go_sem]) rfl
   ⟨false, none, 0, 0, rfl, by rw [hzz.out, Int.zero_mul]; exact isInt_nought, K0.1⟩
 ·obtain ⟨a, ha, _, _, hxe⟩ := hx
  have e : x * ((2 ^ s : Nat) : Int) = sgnd neg (Lm.lv a * 2 ^ s) := by
   rw [hxe]
   unfold sgnd
   cases neg
   ·simp
   ·simp [Int.neg_mul]
  rw [e]
  exact ex_double_pos neg A n c s a w ha (by omega) hn hs
end Go.Proofs.YtgekmbfmfiikkaaGreatDoor
namespace Go.Proofs.YtgekmbfmfiikkaaGreatDoor
open Go.RowKit
theorem or_hi {h l : Nat} (hh : h < 4294967296) (hl : l < 4294967296) : bits .or .u64 ((h : Int) * 4294967296) (l : Int) = ((h * 4294967296 + l : Nat) : Int) := by
 have e := u64_or_nat (h * 4294967296) l (by omega) (by omega)
 have hor := Nat.two_pow_add_eq_or_of_lt (i := 32) (b := l) (by omega) h
 rw [show (h : Int) * 4294967296 = ((h * 4294967296 : Nat) : Int) by omega, e]
 congr 1
 rw [show h * 4294967296 = 2 ^ 32 * h by omega, ← hor]
theorem div32_any (h l y : Nat) (hh : h < y) (hl : l < 4294967296) (hy : y < 4294967296) (w : World) :
  Calls Tryz.prog 336 #[.int .u32 (h : Int), .int .u32 (l : Int), .int .u32 (y : Int)] w
   fun e w' => e = .returned (.tuple #[.int .u32 (((h * 4294967296 + l) / y : Nat) : Int), .int .u32 (((h * 4294967296 + l) % y : Nat) : Int)]) ∧ ∃ k, w' = w.drewN k := by
 have hy1 : ((y : Int) != 0) = true := by rw [bne_iff_ne]; omega
 have hy2 : decide ((y : Int) ≤ (h : Int)) = false := decide_eq_false (by omega)
 have hy3 : ¬ (y : Int) = 0 := by omega
 go_enter Tryz.func336, Tryz.ntmps336
 have hd : (h * 4294967296 + l) / y < 4294967296 := Lm.short_lt (by omega) hh hl
 have hm : (h * 4294967296 + l) % y < y := Nat.mod_lt _ (by omega)
 have HO := Lib.hid (or_hi (show h < 4294967296 by omega) hl)
 obtain ⟨N, hN⟩ : ∃ N, h * 4294967296 + l = N := ⟨_, rfl⟩
 rw [hN] at hd hm HO ⊢
 have hNb : N < 18446744073709551616 := by omega
 have hq : (N : Int) / (y : Int) = ((N / y : Nat) : Int) := (Int.natCast_ediv _ _).symm
 have hr : (N : Int) % (y : Int) = ((N % y : Nat) : Int) := (Int.natCast_emod _ _).symm
 have HQ := Lib.hid hq
 have HR := Lib.hid hr
 have hq1 : (N : Int) / (y : Int) ≤ 4294967295 := by rw [hq]; omega
 have hq0 : 0 ≤ (N : Int) / (y : Int) := by rw [hq]; exact Int.natCast_nonneg _
 have hr1 : (N : Int) % (y : Int) ≤ 4294967295 := by rw [hr]; omega
 have hr0 : 0 ≤ (N : Int) % (y : Int) := by rw [hr]; exact Int.natCast_nonneg _
 clear hN hq hr
 go_wp2_with fail
 rw [HO.out]
 go_quiet (fail)
 go_wp2_with fail
 go_ret2
 exact ⟨by show Ending.returned (.tuple #[.int .u32 ((N : Int) / (y : Int)), .int .u32 ((N : Int) % (y : Int))]) = _; rw [HQ.out, HR.out], _, rfl⟩
def RetShortIn (W : World) (B g n c : Nat) (a : List Nat) (d : Nat) (e : Ending) (w' : World) : Prop :=
 ∃ (l : List Nat) (r : Nat), e = .returned (.int .u32 (r : Int)) ∧ w'.ownsRow B 164 1 (.slice (some ⟨g, 0, none⟩) n c) n (u32s l) ∧ Lm.ok l ∧ l.length = n ∧ Lm.lv a = d * Lm.lv l + r ∧ r < d ∧ W.grownBy w' (some g)
theorem grown_set {W w : World} {g : Nat} (h : W.grownBy w (some g)) (j : Nat) (v : Value) : W.grownBy (w.setCell ⟨g, j, none⟩ v) (some g) :=
 ⟨h.os, h.tape, h.output, by simpa [World.setCell] using h.size, fun i hi hne => by
  have e : (w.setCell ⟨g, j, none⟩ v).heap[i]? = w.heap[i]? := by
   unfold World.setCell
   simp only [Array.getElem?_modify]
   rw [if_neg (by rintro rfl; exact hne rfl)]
  rw [e]
  exact h.block i hi hne⟩
theorem grown_drewN {W w : World} {row : Option Nat} (h : W.grownBy w row) (k : Nat) : W.grownBy (w.drewN k) row := ⟨h.os, h.tape, h.output, h.size, h.block⟩
theorem ex_short_any (B g n c d : Nat) (a : List Nat) (w : World) (ha : w.ownsRow B 164 1 (.slice (some ⟨g, 0, none⟩) n c) n (u32s a)) (hok0 : Lm.ok a) (hn : n ≤ 1000000000) (hd : 0 < d) (hdB : d < 4294967296) :
  Calls Tryz.prog 273 #[.slice (some ⟨g, 0, none⟩) n c, .int .u32 (d : Int)] w (RetShortIn w B g n c a d) := by
 have hlen : a.length = n := by have := ha.1; rw [u32s_len] at this; omega
 have HL := Lib.hid hlen
 clear hlen
 go_enter Tryz.func273, Tryz.ntmps273
 go_wp2_with fail
 go_loopw [5, 6] (fun rest i wr => ∃ (k r : Nat) (out : List Nat), k ≤ n ∧ r < d ∧ i = .int .i64 ((k : Int) - 1) ∧ rest = .int .u32 (r : Int) ∧ Hid (out.length = n) ∧ wr.ownsRow B 164 1 (.slice (some ⟨g, 0, none⟩) n c) n (u32s out) ∧ Lm.ok out ∧
   Hid (Lm.lv (a.drop k) = d * Lm.lv (out.drop k) + r) ∧ Hid (out.take k = a.take k) ∧ w.grownBy wr (some g))
  (fun _ i _ => (intOf i + 1).toNat)
 case atStart =>
  exact ⟨n, 0, a, Nat.le_refl _, hd, rfl, rfl, HL, ha, hok0, Lib.hid (by rw [List.drop_of_length_le (by rw [HL.out]; exact Nat.le_refl _)]; simp [Lm.lv]), Lib.hid rfl, World.grownBy.refl w _⟩
 case round =>
  obtain ⟨k, r, out, hk, hr, rfl, rfl, hol, hown, hok, HE, HT, hg⟩ := hrel
  have hsz := (hown.lt _ rfl).2
  by_cases h0 : k = 0
  ·subst h0
   go_wp2_with fail
   go_ret
   exact ⟨out, r, rfl, hown, hok, hol.out, by have := HE.out; simpa using this, hr, hg⟩
  ·have hko : k - 1 < out.length := by rw [hol.out]; omega
   have hka : k - 1 < a.length := by rw [HL.out]; omega
   have hf := hown.frozenAt (k - 1)
   have hco := own_at hown hko
   have hk1 : 1 ≤ k := by omega
   have hxo : out[k - 1] = a[k - 1] := by
    have h1 := congrArg (fun t : List Nat => t[k - 1]?) HT.out
    simp only [List.getElem?_take] at h1
    rw [if_pos (by omega), if_pos (by omega), List.getElem?_eq_getElem hko, List.getElem?_eq_getElem hka] at h1
    injection h1
   have hxb : a[k - 1] < 4294967296 := Lm.ok_get hok0 hka
   rw [hxo] at hco
   obtain ⟨x, hx⟩ : ∃ x, a[k - 1] = x := ⟨_, rfl⟩
   rw [hx] at hco hxb
   have HX := Lib.hid hx
   clear hx hxo h0
   go_wp2_with fail
   refine (div32_any r x d hr hxb hdB _).mono ?_
   rintro e1 w1 ⟨rfl, k1, rfl⟩
   have hst := Lm.short_step (k := k - 1) (d := d) (r := r) hka hko (by rw [show k - 1 + 1 = k by omega]; exact HE.out)
   rw [HX.out] at hst
   obtain ⟨q, hq⟩ : ∃ q, (r * 4294967296 + x) / d = q := ⟨_, rfl⟩
   obtain ⟨r2, hr2⟩ : ∃ r2, (r * 4294967296 + x) % d = r2 := ⟨_, rfl⟩
   have hqb : q < 4294967296 := by rw [← hq]; exact Lm.short_lt hd hr hxb
   have hrb : r2 < d := by rw [← hr2]; exact Nat.mod_lt _ hd
   rw [hq, hr2] at hst ⊢
   have HST := Lib.hid hst
   clear hq hr2 hst
   go_wp2_with fail
   refine ⟨⟨k - 1, r2, out.set (k - 1) q, by omega, hrb, congrArg (Value.int .i64) (by omega), rfl, Lib.hid (by rw [List.length_set]; exact hol.out), own_store (w := wr.drewN k1) hown _ rfl, Lm.ok_set hok hqb, HST, Lib.hid ?_, grown_set (grown_drewN hg k1) _ _⟩, ?_⟩
   ·rw [List.take_set_of_le (Nat.le_refl _)]
    have h1 := congrArg (List.take (k - 1)) HT.out
    rw [List.take_take, List.take_take, Nat.min_eq_left (by omega)] at h1
    exact h1
   ·simp [intOf]
    omega
end Go.Proofs.YtgekmbfmfiikkaaGreatDoor
namespace Go.Proofs.YtgekmbfmfiikkaaGreatDoor
theorem guess_low {q D P D2 T3 K D0 P0 : Nat} (h : q * D ≤ P) (hD : D = D2 * K + D0) (hP : P = T3 * K + P0) (hP0 : P0 < K) : q * D2 ≤ T3 := by
 rcases Nat.lt_or_ge T3 (q * D2) with hlt | hge
 ·exfalso
  have h1 : (T3 + 1) * K ≤ q * D2 * K := Nat.mul_le_mul_right K hlt
  have h2 : q * (D2 * K) ≤ q * D := Nat.mul_le_mul_left q (by omega)
  rw [← Nat.mul_assoc] at h2
  rw [Nat.add_mul, Nat.one_mul] at h1
  omega
 ·exact hge
theorem guess_high {g D P D2 T3 K D0 P0 : Nat} (h : g * D2 ≤ T3) (hD : D = D2 * K + D0) (hD0 : D0 < K) (hP : P = T3 * K + P0) (hg : g * K ≤ D) : g * D ≤ P + D := by
 have h1 : g * D2 * K ≤ T3 * K := Nat.mul_le_mul_right K h
 have h2 : g * D = g * D2 * K + g * D0 := by rw [hD, Nat.mul_add, Nat.mul_assoc]
 have h3 : g * D0 ≤ g * K := Nat.mul_le_mul_left g (Nat.le_of_lt hD0)
 omega
theorem less_limb {q v b x : Nat} (hq : q < 4294967296) (hv : v < 4294967296) (hb : b < 4294967296) (hx : x < 4294967296) :
  b + q * v < 18446744073709551616 ∧
  (∀ y c, (y, c) = (if x < (b + q * v) % 4294967296 then (x + 4294967296 - (b + q * v) % 4294967296, (b + q * v) / 4294967296 + 1) else (x - (b + q * v) % 4294967296, (b + q * v) / 4294967296)) →
   y < 4294967296 ∧ c < 4294967296 ∧ y + b + q * v = x + 4294967296 * c) := by
 have h1 : q * v ≤ 4294967295 * 4294967295 := Nat.mul_le_mul (by omega) (by omega)
 obtain ⟨p, hp⟩ : ∃ p, q * v = p := ⟨_, rfl⟩
 rw [hp] at h1 ⊢
 refine ⟨by omega, fun y c h => ?_⟩
 split at h
 ·injection h with h2 h3
  omega
 ·injection h with h2 h3
  omega
end Go.Proofs.YtgekmbfmfiikkaaGreatDoor
namespace Go.Proofs.YtgekmbfmfiikkaaGreatDoor
open Go.RowKit
def RetLess (W : World) (B g N i m q : Nat) (L D : List Nat) (e : Ending) (w' : World) : Prop :=
 ∃ (L' : List Nat) (t : Bool), e = .returned (.bool t) ∧ w'.ownsRow B 164 1 (.slice (some ⟨g, 0, none⟩) N N) N (u32s L') ∧ Lm.ok L' ∧ L'.length = N ∧ L'.drop (i + m + 1) = L.drop (i + m + 1) ∧ L'.take i = L.take i ∧
  Lm.lv ((L'.drop i).take (m + 1)) + q * Lm.lv D = Lm.lv ((L.drop i).take (m + 1)) + Lm.B ^ (m + 1) * (if t then 1 else 0) ∧ W.grownBy w' (some g)
theorem sl_grown {w w' : World} {g : Nat} {A : Option Addr} {n c : Nat} {l : List Nat} (h : Sl w A n c l) (hg : w.grownBy w' (some g)) (hne : ∀ ad, A = some ad → ad.block ≠ g) : Sl w' A n c l := by
 refine ⟨⟨h.1.1, fun h0 => ?_⟩, h.2⟩
 obtain ⟨ad, rfl, hb, hc⟩ := h.1.2 h0
 refine ⟨ad, rfl, Nat.lt_of_lt_of_le hb hg.size, fun j u hu => ?_⟩
 have hbl := hg.block ad.block hb (fun e => hne ad rfl (by simpa using e))
 exact (World.cell?_of_block (w := w) (w' := w') (a := ad.add j) (by rw [block_of_add]; exact hbl)).trans (hc j u hu)
theorem u64_mod (z : Int) : IntKind.u64.wrap z = z % 18446744073709551616 := by
 simp [IntKind.wrap, IntKind.bits, IntKind.signed]
theorem less_walk {b p x : Nat} (hx : x < 4294967296) (hp : b + p < 18446744073709551616) {y c : Nat}
  (h : (y, c) = (if x < (b + p) % 4294967296 then (x + 4294967296 - (b + p) % 4294967296, (b + p) / 4294967296 + 1) else (x - (b + p) % 4294967296, (b + p) / 4294967296))) :
  IntKind.u64.wrap (IntKind.u64.wrap (x : Int) - ((b : Int) + (p : Int)) % 4294967296) % 4294967296 = (y : Int) ∧
  IntKind.u64.wrap (((b : Int) + (p : Int)) / 4294967296 + IntKind.u64.wrap (IntKind.u64.wrap (x : Int) - ((b : Int) + (p : Int)) % 4294967296) / 9223372036854775808) = (c : Int) := by
 simp only [u64_mod]
 have e1 : ((b : Int) + (p : Int)) % 4294967296 = (((b + p) % 4294967296 : Nat) : Int) := by omega
 have e2 : ((b : Int) + (p : Int)) / 4294967296 = (((b + p) / 4294967296 : Nat) : Int) := by omega
 rw [e1, e2]
 have hl : (b + p) % 4294967296 < 4294967296 := Nat.mod_lt _ (by decide)
 have hh : (b + p) / 4294967296 < 4294967296 := by omega
 obtain ⟨lo, hlo⟩ : ∃ lo, (b + p) % 4294967296 = lo := ⟨_, rfl⟩
 obtain ⟨hi, hhi⟩ : ∃ hi, (b + p) / 4294967296 = hi := ⟨_, rfl⟩
 rw [hlo] at hl h ⊢
 rw [hhi] at hh h ⊢
 clear hlo hhi e1 e2
 split at h
 ·injection h with h1 h2
  omega
 ·injection h with h1 h2
  omega
theorem less_top {b x : Nat} (hb : b < 4294967296) (hx : x < 4294967296) :
  ∃ y, y < 4294967296 ∧ y + b = x + 4294967296 * (if decide (x < b) then 1 else 0) ∧ IntKind.u64.wrap (IntKind.u64.wrap (x : Int) - (b : Int)) % 4294967296 = (y : Int) ∧ (IntKind.u64.wrap (IntKind.u64.wrap (x : Int) - (b : Int)) / 9223372036854775808 == 1) = decide (x < b) := by
 simp only [u64_mod]
 by_cases h : x < b
 ·refine ⟨x + 4294967296 - b, by omega, by rw [decide_eq_true h, if_pos rfl]; omega, by omega, ?_⟩
  rw [decide_eq_true h, beq_iff_eq]
  omega
 ·refine ⟨x - b, by omega, by rw [decide_eq_false h, if_neg (by simp)]; omega, by omega, ?_⟩
  rw [decide_eq_false h, beq_eq_false_iff_ne]
  omega
theorem row_set {out L D : List Nat} {i k q b c x v y : Nat} (hio : i + k < out.length) (hl : out.length = L.length) (hkD : k < D.length) (h1 : out.drop (i + k) = L.drop (i + k)) (h2 : out.take i = L.take i)
  (h3 : Lm.lv ((out.drop i).take k) + q * Lm.lv (D.take k) = Lm.lv ((L.drop i).take k) + Lm.B ^ k * b) (hx : out[i + k] = x) (hv : D[k] = v) (hy : y + b + q * v = x + 4294967296 * c) :
  (out.set (i + k) y).drop (i + (k + 1)) = L.drop (i + (k + 1)) ∧ (out.set (i + k) y).take i = L.take i ∧
  Lm.lv (((out.set (i + k) y).drop i).take (k + 1)) + q * Lm.lv (D.take (k + 1)) = Lm.lv ((L.drop i).take (k + 1)) + Lm.B ^ (k + 1) * c := by
 have hLx : (L.drop i)[k]'(by rw [List.length_drop]; omega) = x := by
  have e := congrArg (fun t : List Nat => t[0]?) h1
  simp only [List.getElem?_drop, Nat.add_zero] at e
  rw [List.getElem?_eq_getElem hio, List.getElem?_eq_getElem (by omega)] at e
  injection e with e
  rw [List.getElem_drop, ← e, hx]
 refine ⟨?_, ?_, ?_⟩
 ·rw [List.drop_set, if_pos (by omega), ← Nat.add_assoc, ← List.drop_drop, h1, List.drop_drop]
 ·rw [List.take_set_of_le (by omega), h2]
 ·have e0 : (out.set (i + k) y).drop i = (out.drop i).set k y := by
   rw [List.drop_set, if_neg (by omega), show i + k - i = k by omega]
  have hkl : k < (out.drop i).length := by rw [List.length_drop]; omega
  have e1 := Lm.lv_take_succ ((out.drop i).set k y) k (by rw [List.length_set]; exact hkl)
  rw [List.take_set_of_le (Nat.le_refl _), List.getElem_set_self] at e1
  have e2 := Lm.lv_take_succ (L.drop i) k (by rw [List.length_drop]; omega)
  rw [hLx] at e2
  have e3 := Lm.lv_take_succ D k hkD
  rw [hv] at e3
  rw [e0, e1, e2, e3, Nat.pow_succ]
  have hB : Lm.B = 4294967296 := rfl
  generalize Lm.B ^ k = M at *
  have e4 : M * y + M * b + M * (q * v) = M * x + M * (4294967296 * c) := by rw [← Nat.mul_add, ← Nat.mul_add, hy, Nat.mul_add]
  have e5 : q * (M * v) = M * (q * v) := Nat.mul_left_comm ..
  have e6 : M * Lm.B * c = M * (4294967296 * c) := by rw [hB, Nat.mul_assoc]
  rw [Nat.mul_add, e5, e6]
  omega
theorem ex_less_any (B g N i m cc q : Nat) (A : Option Addr) (cd : Nat) (L D : List Nat) (w : World) (hL : w.ownsRow B 164 1 (.slice (some ⟨g, 0, none⟩) N N) N (u32s L)) (hok0 : Lm.ok L) (hD : Sl w A m cd D) (hne : ∀ ad, A = some ad → ad.block ≠ g)
  (hi : i + m + 1 ≤ N) (hN : N ≤ 1000000000) (hq : q < 4294967296) :
  Calls Tryz.prog 338 #[.slice (some ⟨g, i, none⟩) (m + 1) cc, .slice A m cd, .int .u64 (q : Int)] w (RetLess w B g N i m q L D) := by
 have hlen : L.length = N := by have := hL.1; rw [u32s_len] at this; omega
 have HL := Lib.hid hlen
 have HDL := Lib.hid hD.len
 clear hlen
 go_enter Tryz.func338, Tryz.ntmps338
 go_wp2_with fail
 go_loopw [7, 14] (fun bo ix wr => ∃ (k b : Nat) (out : List Nat), k ≤ m ∧ b < 4294967296 ∧ ix = .int .i64 (k : Int) ∧ bo = .int .u64 (b : Int) ∧ Hid (out.length = N) ∧ wr.ownsRow B 164 1 (.slice (some ⟨g, 0, none⟩) N N) N (u32s out) ∧ Lm.ok out ∧
   Hid (out.drop (i + k) = L.drop (i + k) ∧ out.take i = L.take i ∧ Lm.lv ((out.drop i).take k) + q * Lm.lv (D.take k) = Lm.lv ((L.drop i).take k) + Lm.B ^ k * b) ∧ w.grownBy wr (some g))
  (fun _ ix _ => m - (intOf ix).toNat)
 case atStart =>
  exact ⟨0, 0, L, Nat.zero_le _, by decide, rfl, rfl, HL, hL, hok0, Lib.hid ⟨rfl, rfl, by simp [Lm.lv]⟩, World.grownBy.refl w _⟩
 case round =>
  obtain ⟨k, b, out, hk, hb, rfl, rfl, hol, hown, hok, HE, hg⟩ := hrel
  have hsz := (hown.lt _ rfl).2
  by_cases hlt : k < m
  ·obtain ⟨ad, rfl, hba, hld, hcd, hxd⟩ := (sl_grown hD hg hne).at_ hlt
   have hio : i + k < out.length := by rw [hol.out]; omega
   have hco := own_at hown hio
   have hf := hown.frozenAt (i + k)
   have hxo := Lm.ok_get hok hio
   obtain ⟨x, hx⟩ : ∃ x, out[i + k] = x := ⟨_, rfl⟩
   obtain ⟨v, hv⟩ : ∃ v, D[k] = v := ⟨_, rfl⟩
   rw [hx] at hco hxo
   rw [hv] at hcd hxd
   have HX := Lib.hid hx
   have HV := Lib.hid hv
   have hlt' : (k : Int) < (m : Int) := by omega
   have hlt2 : (k : Int) < (m : Int) + 1 := by omega
   have hk0 : (0 : Int) ≤ (k : Int) := Int.natCast_nonneg _
   obtain ⟨hs1, hs2⟩ := less_limb hq hxd hb hxo
   obtain ⟨p, hp⟩ : ∃ p, q * v = p := ⟨_, rfl⟩
   rw [hp] at hs1 hs2
   have e1 : IntKind.u64.wrap ((q : Int) * (v : Int)) = (p : Int) := by
    rw [← Int.natCast_mul, hp]
    exact IntWalk.u64_in _ (by omega)
   have hpb : (b : Int) + (p : Int) ≤ 18446744073709551615 := by omega
   have HPP := Lib.hid hp
   clear hx hv hp
   obtain ⟨⟨y, c⟩, hyc⟩ : ∃ z : Nat × Nat, z = (if x < (b + p) % 4294967296 then (x + 4294967296 - (b + p) % 4294967296, (b + p) / 4294967296 + 1) else (x - (b + p) % 4294967296, (b + p) / 4294967296)) := ⟨_, rfl⟩
   obtain ⟨w1, w2⟩ := less_walk hxo hs1 hyc
   obtain ⟨y1, c1, y2⟩ := hs2 y c hyc
   have W1 := Lib.hid w1
   have W2 := Lib.hid w2
   have HY := Lib.hid y2
   clear hs2 hyc w1 w2 y2
   go_wp2_with fail
   rw [W1.out, W2.out]
   refine ⟨⟨k + 1, c, out.set (i + k) y, hlt, c1, congrArg (Value.int .i64) (by omega), rfl, Lib.hid (by rw [List.length_set]; exact hol.out), own_store hown _ rfl, Lm.ok_set hok y1, Lib.hid ?_, grown_set hg _ _⟩, ?_⟩
   ·exact row_set hio (by rw [hol.out, HL.out]) (by rw [HDL.out]; exact hlt) HE.out.1 HE.out.2.1 HE.out.2.2 HX.out HV.out (by rw [HPP.out]; exact HY.out)
   ·simp [intOf]
    omega
  ·obtain rfl : k = m := by omega
   have hio : i + k < out.length := by rw [hol.out]; omega
   have hco := own_at hown hio
   have hf := hown.frozenAt (i + k)
   have hxo := Lm.ok_get hok hio
   obtain ⟨x, hx⟩ : ∃ x, out[i + k] = x := ⟨_, rfl⟩
   rw [hx] at hco hxo
   have HX := Lib.hid hx
   clear hx
   have hlt2 : (k : Int) < (k : Int) + 1 := by omega
   have hk0 : (0 : Int) ≤ (k : Int) := Int.natCast_nonneg _
   obtain ⟨y, y1, y2, w1, w2⟩ := less_top hb hxo
   have W1 := Lib.hid w1
   have W2 := Lib.hid w2
   have HY := Lib.hid y2
   clear w1 w2 y2
   go_wp2_with fail
   rw [W1.out]
   go_ret
   have hr := row_set (D := D ++ [0]) (v := 0) (y := y) hio (by rw [hol.out, HL.out]) (by rw [List.length_append, HDL.out]; simp) HE.out.1 HE.out.2.1 (by rw [List.take_append_of_le_length (by rw [HDL.out]; exact Nat.le_refl _)]; exact HE.out.2.2) HX.out (by rw [List.getElem_append_right (by rw [HDL.out]; exact Nat.le_refl _)]; simp [HDL.out]) (by rw [Nat.mul_zero, Nat.add_zero]; exact HY.out)
   have hdd : Lm.lv ((D ++ [0]).take (k + 1)) = Lm.lv D := by
    rw [Lm.lv_take_ge _ _ (by rw [List.length_append, HDL.out]; simp), Lm.lv_snoc, Nat.mul_zero, Nat.add_zero]
   rw [hdd] at hr
   refine ⟨out.set (i + k) y, decide (x < b), by rw [← W2.out]; rfl, own_store hown _ rfl, Lm.ok_set hok y1, by rw [List.length_set]; exact hol.out, hr.1, hr.2.1, hr.2.2, grown_set hg _ _⟩
end Go.Proofs.YtgekmbfmfiikkaaGreatDoor
