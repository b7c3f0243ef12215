/-
  The program's whole numbers (package exact): limbs times a power of two (up, Double).
  The program's whole numbers (package exact): times a power of two (Double).
-/
import Derived.Test.YtjcjphgpmpjmbaaGreatDoorExB
import Derived.Deep.OwnRows
namespace Go.Proofs.YtjcjphgpmpjmbaaGreatDoor
open Go.RowKit

theorem ofInt_u32 (a : Nat) (h : a < 4294967296) : (BitVec.ofInt 32 (a : Int)).toNat = a := by
  rw [BitVec.toNat_ofInt]
  omega
theorem u32_or_nat (a b : Nat) (ha : a < 4294967296) (hb : b < 4294967296) : bits .or .u32 (a : Int) (b : Int) = ((a ||| b : Nat) : Int) := by
  have hx : a ||| b < 2 ^ 32 := Nat.or_lt_two_pow (by omega) (by omega)
  show IntKind.u32.wrap ((BitVec.ofInt 32 (a : Int) ||| BitVec.ofInt 32 (b : Int)).toNat : Int) = _
  rw [BitVec.toNat_or, ofInt_u32 a ha, ofInt_u32 b hb]
  simp only [IntKind.wrap, IntKind.bits, IntKind.signed]
  simp
  omega
/-- A limb shifted, and what came up from the one below. -/
theorem shift_limb {x q s : Nat} (hs : s < 32) (hx : x < 4294967296) (hq : q < pw s) :
    bits .or .u32 ((x : Int) * 2 ^ s % 4294967296) (q : Int) = (((x * pw s + q) % 4294967296 : Nat) : Int) ∧ IntKind.u64.wrap ((x : Int) * 2 ^ s) / 4294967296 % 4294967296 = (((x * pw s + q) / 4294967296 : Nat) : Int) ∧ (x * pw s + q) / 4294967296 < pw s := by
  have hP := pw_lt s hs
  have hpp : pw s * pw (32 - s) = 4294967296 := by unfold pw; rw [← Nat.pow_add, show s + (32 - s) = 32 by omega]
  have hpow : (2 : Int) ^ s = ((pw s : Nat) : Int) := by unfold pw; rw [Int.natCast_pow]; rfl
  have hp2 : 0 < pw (32 - s) := Nat.two_pow_pos _
  -- the low part is a multiple of the power
  have hlo : x * pw s % 4294967296 = pw s * (x % pw (32 - s)) := by
    rw [← hpp, Nat.mul_comm x, Nat.mul_mod_mul_left]
  have hm := Nat.mod_lt x hp2
  have hmul : pw s * (x % pw (32 - s)) + pw s ≤ 4294967296 := by
    rw [← hpp, ← Nat.mul_succ]
    exact Nat.mul_le_mul_left _ hm
  have hxp : x * pw s < 4294967296 * pw s := Nat.mul_lt_mul_of_pos_right hx (Nat.two_pow_pos _)
  have hdm := Nat.div_add_mod (x * pw s) 4294967296
  obtain ⟨y, hy⟩ : ∃ y, x * pw s = y := ⟨_, rfl⟩
  have hyi : (x : Int) * 2 ^ s = (y : Int) := by rw [hpow, ← Int.natCast_mul, hy]
  rw [hyi, hy]
  rw [hy] at hlo hxp hdm
  refine ⟨?_, ?_, ?_⟩
  · rw [show (y : Int) % 4294967296 = ((y % 4294967296 : Nat) : Int) by omega, u32_or_nat _ _ (Nat.mod_lt _ (by decide)) (by omega)]
    congr 1
    have hor := Nat.two_pow_add_eq_or_of_lt (i := s) (b := q) hq (x % pw (32 - s))
    rw [hlo]
    have e : pw s * (x % pw (32 - s)) = 2 ^ s * (x % pw (32 - s)) := rfl
    rw [e, ← hor, ← e]
    omega
  · have hb : y < 18446744073709551616 := Nat.lt_trans hxp (by omega)
    rw [show IntKind.u64.wrap (y : Int) = (y : Int) from IntWalk.u64_in _ (by omega)]
    omega
  · omega
/-- A row of limbs of the call's own, at the head of its block. -/
def RetRow (W : World) (P : List Nat → Prop) (m : Nat) (e : Ending) (w' : World) : Prop :=
  ∃ g l, e = .returned (.slice (some ⟨g, 0, none⟩) m m) ∧ w'.ownsRow W.heap.size 75 1 (.slice (some ⟨g, 0, none⟩) m m) m (u32s l) ∧ Lm.ok l ∧ l.length = m ∧ P l ∧ Below W.heap.size W w'
set_option maxRecDepth 100000 in
set_option maxHeartbeats 1600000 in
theorem ex_up_any (A : Option Addr) (n c s : Nat) (a : List Nat) (w : World) (ha : Sl w A n c a) (hn : n ≤ 1000000000) (hs : s < 32) :
    Calls Tryz.prog 134 #[.slice A n c, .int .u64 (s : Int)] w (RetRow w (fun l => Lm.lv l = Lm.lv a * pw s) (n + 1)) := by
  obtain ⟨i0, hi, hz0, hz1, hz2⟩ := info_parts info_u32
  have hP := pw_lt s hs
  have HL := Lib.hid ha.len
  have e1 : ((n : Int) + 1) = ((n + 1 : Nat) : Int) := by omega
  have HE := Lib.hid e1
  clear e1
  go_enter Tryz.func134, Tryz.ntmps134
  go_wp2_with (at_make; refine wpList_make_full _ rfl _ _ 25 rfl w.heap.size 75 i0 (.int .u32 0) 1 Tryz.underlying25 hi hz0 hz1 _ _ _ _ (n + 1) rfl rfl ?c0 ?c1 ?c2 ?c3 ?c4 ?_)
  case c0 => exact HE.out
  case c1 => exact HE.out
  case c2 => rw [hz2]; omega
  case c3 => unfold maxLen; omega
  case c4 => exact Nat.le_refl _
  intro w1 hown1 hgrow1
  rw [made_u32] at hown1
  have hb1 : Below w.heap.size w w1 := (Below.refl _ _).grown hgrow1 (Nat.le_refl _) (fun k hk => by cases hk)
  clear hgrow1
  go_wp2_with fail
  go_loopw [6, 15] (fun cr i wr => ∃ (k q : Nat) (out : List Nat), k ≤ n ∧ q < pw s ∧ i = .int .i64 (k : Int) ∧ cr = .int .u32 (q : Int) ∧ Hid (out.length = n + 1) ∧ wr.ownsRow w.heap.size 75 1 (.slice (some ⟨w.heap.size, 0, none⟩) (n + 1) (n + 1)) (n + 1) (u32s out) ∧ Lm.ok out ∧
      Hid (Lm.lv (out.take k) + Lm.B ^ k * q = Lm.lv (a.take k) * pw s) ∧ Below w.heap.size w wr)
    (fun _ i _ => n - (intOf i).toNat)
  case atStart =>
    exact ⟨0, 0, List.replicate (n + 1) 0, Nat.zero_le _, Nat.two_pow_pos _, rfl, rfl, Lib.hid List.length_replicate, hown1, Lm.ok_zeros _, Lib.hid (by simp [Lm.lv]), hb1⟩
  case round =>
    clear hown1 hb1
    obtain ⟨k, q, out, hk, hq, rfl, rfl, hol, hown, hok, HEQ, hb⟩ := hrel
    by_cases hlt : k < n
    · obtain ⟨ad, rfl, hba, hla, hca, hxa⟩ := (ha.below hb).at_ hlt
      have hko : k < out.length := by rw [hol.out]; omega
      have hco := own_at hown hko
      have hf := hown.frozenAt k
      have hsz := (hown.lt _ rfl).2
      obtain ⟨x, hx⟩ : ∃ x, a[k] = x := ⟨_, rfl⟩
      rw [hx] at hca hxa
      have HX := Lib.hid hx
      clear hx
      have hlt' : (k : Int) < (n : Int) := by omega
      have hk0 : (0 : Int) ≤ (k : Int) := Int.natCast_nonneg _
      have hs0 : (0 : Int) ≤ (s : Int) := Int.natCast_nonneg _
      obtain ⟨s1, s2, s3⟩ := shift_limb hs hxa hq
      have S1 := Lib.hid s1
      have S2 := Lib.hid s2
      have HQ : Hid (Lm.lv ((out.set k ((x * pw s + q) % 4294967296)).take (k + 1)) + Lm.B ^ (k + 1) * ((x * pw s + q) / 4294967296) = Lm.lv (a.take (k + 1)) * pw s) := Lib.hid (by
        have h1 := HEQ.out
        have h2 := Lm.lv_take_succ (out.set k ((x * pw s + q) % 4294967296)) k (by rw [List.length_set]; exact hko)
        rw [List.take_set_of_le (Nat.le_refl _), List.getElem_set_self] at h2
        have h3 := Lm.lv_take_succ a k hla
        rw [HX.out] at h3
        have hdm := Nat.div_add_mod (x * pw s + q) 4294967296
        rw [h2, h3, Nat.add_mul, ← h1, Nat.pow_succ, Nat.mul_assoc, show Lm.B * ((x * pw s + q) / 4294967296) = 4294967296 * ((x * pw s + q) / 4294967296) from rfl, Nat.add_assoc, ← Nat.mul_add]
        have e : (x * pw s + q) % 4294967296 + 4294967296 * ((x * pw s + q) / 4294967296) = q + x * pw s := by omega
        rw [e, Nat.mul_add, Nat.mul_assoc, Nat.add_assoc])
      clear s1 s2
      go_wp2_with fail
      rw [S1.out, S2.out]
      refine ⟨⟨k + 1, (x * pw s + q) / 4294967296, out.set k ((x * pw s + q) % 4294967296), hlt, s3, congrArg (Value.int .i64) (by omega), rfl, Lib.hid (by rw [List.length_set]; exact hol.out), own_store hown _ rfl, Lm.ok_set hok (Nat.mod_lt _ (by decide)), HQ, hb.setCell (p := ⟨w.heap.size, k, none⟩) (Nat.le_refl _) _⟩, ?_⟩
      simp [intOf]
      omega
    · obtain rfl : k = n := by omega
      have hko : k < out.length := by rw [hol.out]; omega
      have hco := own_at hown hko
      have hf := hown.frozenAt k
      have hsz := (hown.lt _ rfl).2
      have hqb : q < 4294967296 := by omega
      go_wp2_with fail
      go_ret
      have hst := own_store hown (j := k) (X := (q : Int)) q rfl
      refine ⟨w.heap.size, out.set k q, rfl, hst, Lm.ok_set hok hqb, by rw [List.length_set]; exact hol.out, ?_, hb.setCell (p := ⟨w.heap.size, k, none⟩) (Nat.le_refl _) _⟩
      have h1 := HEQ.out
      have h2 := Lm.lv_take_succ (out.set k q) k (by rw [List.length_set]; exact hko)
      rw [List.take_set_of_le (Nat.le_refl _), List.getElem_set_self, Lm.lv_take_ge _ (k + 1) (by rw [List.length_set, hol.out]; exact Nat.le_refl _)] at h2
      show Lm.lv (out.set k q) = Lm.lv a * pw s
      rw [h2, h1, Lm.lv_take_ge a k (by rw [HL.out]; exact Nat.le_refl _)]
end Go.Proofs.YtjcjphgpmpjmbaaGreatDoor

namespace Go.Proofs.YtjcjphgpmpjmbaaGreatDoor
open Go.RowKit

/-- append onto a row of the call's own, at a step of a region that draws. -/
theorem step_append_row {P : Program} (w : World) {ops : Array Oper} {o : Oper} {a : Act} {K : Act → World → Prop} {Q : Exit → Act → World → Prop} {E : Prop} (hgd : o.guard = none) (s x : Operand) (t : TypeId)
    (ho : o.op = .call { callee := .builtin .append, args := #[s, x], argTypes := #[t, t] })
    (base : Nat) (e : TypeId) (i : TypeInfo) (z : Value) (bytes : Nat) (ht : P.underlying t = some (.slice e)) (hi : P.info? e = some i) (hz : i.zero = some z)
    (hsize : i.size = 1) (hby : i.bytes = bytes) (hzs : z.cells.size = 1)
    (v : Value) (n : Nat) (xs : List Value) (hs : a.eval s = v) (hown : w.ownsRow base e 1 v n xs)
    (B : Nat) (A : Option Addr) (m c : Nat) (news : List Value) (hx : a.eval x = .slice A m c) (hr : Reads w B A m news) (h1 : ∀ u ∈ news, u.oneCell' = true)
    (h63 : n + m ≤ maxLen) (hbytes : (n + m) * bytes ≤ 140737488355328) (hbase : base ≤ w.heap.size)
    (h : ∀ v' w', w'.ownsRow base e 1 v' (n + m) (xs ++ news) → w.grownBy w' v.ownBlock → (v'.ownBlock = v.ownBlock ∨ v'.ownBlock = some w.heap.size) → K (a.put o.dst v') w') :
    if Region.wanted o (yielded ops a.tmps) = true then Oper.wp P o a w K Q else E := by
  have hw : Region.wanted o (yielded ops a.tmps) = true := by simp [Region.wanted, hgd]
  rw [if_pos hw]
  exact wp_append_any w s x t ho base e i z bytes ht hi hz hsize hby hzs v n xs hs hown B A m c news hx hr h1 h63 hbytes hbase h
theorem ex_up_of (A : Option Addr) (n c s : Nat) (a : List Nat) (z : Int) (w : World) (ha : Sl w A n c a) (hn : n ≤ 1000000000) (hs : s < 32) (hz : z = (s : Int)) :
    Calls Tryz.prog 134 #[.slice A n c, .int .u64 z] w (RetRow w (fun l => Lm.lv l = Lm.lv a * pw s) (n + 1)) := by
  subst hz
  exact ex_up_any A n c s a w ha hn hs
theorem dbl_lv {l a : List Nat} {s : Nat} (h : Lm.lv l = Lm.lv a * pw (s % 32)) : Lm.lv (List.replicate (s / 32) 0 ++ l) = Lm.lv a * 2 ^ s := by
  have h1 := double_lv a s
  rw [Lm.lv_append, Lm.lv_zeros, List.length_replicate, Nat.zero_add] at h1 ⊢
  rw [h, ← h1, Nat.mul_assoc]
  rfl
theorem shift_rest {s : Nat} : IntKind.u64.wrap ((s : Int).tmod 32) = ((s % 32 : Nat) : Int) := by
  rw [show (32 : Int) = ((32 : Nat) : Int) from rfl, ← Int.ofNat_tmod]
  exact IntWalk.u64_in _ (by omega)
theorem Sl.drew {w : World} {n c : Nat} {A : Option Addr} {l : List Nat} (h : Sl w A n c l) : Sl w.drew A n c l := h
theorem made_own (w : World) (k : Nat) (hk : k ≤ 1000000000) : (w.alloc (.cells (madeCells #[.int .u32 0] k) 75)).ownsRow w.heap.size 75 1 (.slice (some ⟨w.heap.size, 0, none⟩) k k) k (u32s (List.replicate k 0)) := by
  have h := World.ownsRow_lit (e := 75) (size := 1) w (madeCells #[.int .u32 0] k) k (Nat.le_refl _) (by unfold maxLen; omega) (by simp [size_madeCells])
  rwa [made_u32] at h
theorem sl_of_row {w : World} {B g m : Nat} {l : List Nat} (h : w.ownsRow B 75 1 (.slice (some ⟨g, 0, none⟩) m m) m (u32s l)) (hok : Lm.ok l) : Sl w (some ⟨g, 0, none⟩) m m l := Sl.of_own h (Nat.le_refl _) hok
set_option maxRecDepth 100000 in
set_option maxHeartbeats 3200000 in
theorem ex_double_pos (neg : Bool) (A : Option Addr) (n c s : Nat) (a : List Nat) (w : World) (ha : Sl w A n c a) (h0 : 0 < n) (hn : n ≤ 100000000) (hs : s ≤ 1000000000) :
    Calls Tryz.prog 103 #[.agg #[.bool neg, .slice A n c], .int .i64 s] w (RetInt w (sgnd neg (Lm.lv a * 2 ^ s))) := by
  obtain ⟨i0, hi, hz0, hz1, hz2⟩ := info_parts info_u32
  have hne : ((n : Int) == 0) = false := by rw [beq_eq_false_iff_ne]; omega
  have K0 := ((Mm.nil w).var (g := w.heap.size) rfl [.bool neg, .slice A n c] 27).var (g := w.heap.size + 1) (by simp) [.bool false, .slice none 0 0] 27
  have hS0 := (ha.alloc (.cells #[.bool neg, .slice A n c] 27)).alloc (.cells #[.bool false, .slice none 0 0] 27)
  have hmk : ∀ w, (Instr.makeSlice 25 (.int .i64 (IntKind.i64.wrap ((s : Int) / 32))) (.int .i64 (IntKind.i64.wrap ((s : Int) / 32)))).run Tryz.prog w = .ok (.slice (some ⟨w.heap.size, 0, none⟩) (s / 32) (s / 32)) (w.alloc (.cells (madeCells #[.int .u32 0] (s / 32)) 75)) := fun w => by
    rw [show IntKind.i64.wrap ((s : Int) / 32) = ((s / 32 : Nat) : Int) by rw [show (s : Int) / 32 = ((s / 32 : Nat) : Int) by omega]; exact IntWalk.i64_in _ (by omega)]
    exact run_make_row' (P := Tryz.prog) 25 75 (.int .u32 0) 4 Tryz.underlying25 info_u32 rfl .i64 .i64 (s / 32) (by omega) (by omega) w
  go_enter Tryz.func103, Tryz.ntmps103
  go_wp2_with fail
  generalize (w.alloc (.cells #[.bool neg, .slice A n c] 27)).alloc (.cells #[.bool false, .slice none 0 0] 27) = w0 at K0 hS0 ⊢
  obtain ⟨qa0, qb0, _, _, qe0⟩ := (K0.blk (g := w.heap.size) (vs := [.bool neg, .slice A n c]) (by simp)).two
  go_region_held3 (fun w' => w'.cell? ⟨w.heap.size, 0, none⟩ = some (.bool neg) ∧ w'.cell? ⟨w.heap.size, 1, none⟩ = some (.slice A n c))
    (go_keep)
    (first
      | (go_at_call 134; (with_reducible refine (ex_up_of A n c (s % 32) a _ _ ?_ (by omega) (by omega) shift_rest).mono ?_); (with_reducible exact (hS0.alloc _).drew); rintro e1 w1 ⟨g1, l1, rfl, hown1, hok1, hl1, hv1, hb1⟩; have hb01 := below_box (below_of_drew hb1); have own0 := own_kept (made_own w0 (s / 32) (by omega)) (below_of_drew hb1); have hv2 := Lib.hid (dbl_lv hv1); clear hv1 hb1; have K1 := K0.next hb01; obtain ⟨qa1, qb1, _, _, qe1⟩ := (K1.blk (g := w.heap.size) (vs := [.bool neg, .slice A n c]) (by simp)).two)
      | (go_at_call 134; (with_reducible refine (ex_up_of A n c (s % 32) a _ _ ?_ (by omega) (by omega) shift_rest).mono ?_); (with_reducible exact hS0.drew); rintro e1 w1 ⟨g1, l1, rfl, hown1, hok1, hl1, hv1, hb1⟩; have hb01 := below_of_drew hb1; have own0 := made_own w1 (s / 32) (by omega); have hv2 := Lib.hid (dbl_lv hv1); clear hv1 hb1; have K1 := K0.next hb01; obtain ⟨qa1, qb1, _, _, qe1⟩ := (K1.blk (g := w.heap.size) (vs := [.bool neg, .slice A n c]) (by simp)).two)
      | (refine step_append_row _ (by rfl) _ _ 25 (by rfl) w0.heap.size 75 i0 (.int .u32 0) 4 Tryz.underlying25 hi hz0 hz1 hz2 rfl (.slice (some ⟨w0.heap.size, 0, none⟩) (s / 32) (s / 32)) (s / 32) (u32s (List.replicate (s / 32) 0)) (by rfl) own0 _ (some ⟨g1, 0, none⟩) (n + 1) (n + 1) (u32s l1) (by rfl) (sl_of_row hown1 hok1).1 (u32s_one _) (by unfold maxLen; omega) (by omega) hb01.size ?_; intro v' w2 hown2 hgrow2 _; have hb2 := hb01.grown hgrow2 hb01.size (own_ge own0); rw [← u32s_append] at hown2; obtain ⟨A2, c2, rfl, hc2⟩ := own_form hown2; have hS2 : Sl w2 A2 (s / 32 + (n + 1)) c2 (List.replicate (s / 32) 0 ++ l1) := (Sl.of_own hown2 hc2 (Lm.ok_append (Lm.ok_zeros _) hok1)); clear hown2 hgrow2; have K2 := K0.next hb2; obtain ⟨qa2, qb2, _, _, qe2⟩ := (K2.blk (g := w.heap.size) (vs := [.bool neg, .slice A n c]) (by simp)).two)
      | (refine step_append_row _ (by rfl) _ _ 25 (by rfl) w1.heap.size 75 i0 (.int .u32 0) 4 Tryz.underlying25 hi hz0 hz1 hz2 rfl (.slice (some ⟨w1.heap.size, 0, none⟩) (s / 32) (s / 32)) (s / 32) (u32s (List.replicate (s / 32) 0)) (by rfl) own0 _ (some ⟨g1, 0, none⟩) (n + 1) (n + 1) (u32s l1) (by rfl) ((sl_of_row hown1 hok1).alloc _).1 (u32s_one _) (by unfold maxLen; omega) (by omega) (by simp) ?_; intro v' w2 hown2 hgrow2 _; have hb2 := (hb01.alloc hb01.size _).grown hgrow2 (by simp; have := hb01.size; omega) (fun k hk => Nat.le_trans hb01.size (own_ge own0 k hk)); rw [← u32s_append] at hown2; obtain ⟨A2, c2, rfl, hc2⟩ := own_form hown2; have hS2 : Sl w2 A2 (s / 32 + (n + 1)) c2 (List.replicate (s / 32) 0 ++ l1) := (Sl.of_own hown2 hc2 (Lm.ok_append (Lm.ok_zeros _) hok1)); clear hown2 hgrow2; have K2 := K0.next hb2; obtain ⟨qa2, qb2, _, _, qe2⟩ := (K2.blk (g := w.heap.size) (vs := [.bool neg, .slice A n c]) (by simp)).two)
      | (go_at_call 121; (with_reducible refine (ex_signed_any neg A2 (s / 32 + (n + 1)) c2 _ _ hS2 (by omega)).mono ?_); rintro e3 w3 ⟨neg3, A3, n3, c3, rfl, I3, hb3⟩; have K3 := (K2.next hb3).int I3; obtain ⟨qa3, qb3, _, _, qe3⟩ := (K3.blk (g := w.heap.size) (vs := [.bool neg, .slice A n c]) (by simp)).two; obtain ⟨ra3, rb3, rc3, rd3, re3⟩ := (K3.blk (g := w.heap.size + 1) (vs := [.bool false, .slice none 0 0]) (by simp)).two))
  all_goals
   go_wp2_with fail
   rw [hv2.out] at K3
   have KE := (K3.pick (L' := [(w.heap.size + 1, [.bool false, .slice none 0 0])]) (l' := [(neg3, A3, n3, c3, sgnd neg (Lm.lv a * 2 ^ s))]) (by simp) (by simp)).set2 (by simp <;> omega) neg3 A3 n3 c3
   exact bodyPost_ret (v := .agg #[.bool neg3, .slice A3 n3 c3]) (by simp [results, Tryz.results103, go_sem, ra3, rb3]) rfl ⟨neg3, A3, n3, c3, rfl, KE.at_ (by simp), KE.1⟩
theorem ex_double_any (neg : Bool) (A : Option Addr) (n c s : Nat) (x : Int) (w : World) (hx : IsInt w neg A n c x) (hn : n ≤ 100000000) (hs : s ≤ 1000000000) :
    Calls Tryz.prog 103 #[.agg #[.bool neg, .slice A n c], .int .i64 s] w (RetInt w (x * ((2 ^ s : Nat) : Int))) := by
  by_cases h0 : n = 0
  · have hz := (isInt_zero hx).1 h0
    subst h0
    have K0 := ((Mm.nil w).var (g := w.heap.size) rfl [.bool neg, .slice A 0 c] 27).var (g := w.heap.size + 1) (by simp) [.bool false, .slice none 0 0] 27
    have hzz : Hid (x = 0) := Lib.hid hz
    clear hz hx
    go_enter Tryz.func103, Tryz.ntmps103
    go_wp2_with fail
    exact bodyPost_ret (v := .agg #[.bool false, .slice none 0 0]) (by simp [results, Tryz.results103, go_sem]) rfl
      ⟨false, none, 0, 0, rfl, by rw [hzz.out, Int.zero_mul]; exact isInt_nought, K0.1⟩
  · obtain ⟨a, ha, _, _, hxe⟩ := hx
    have e : x * ((2 ^ s : Nat) : Int) = sgnd neg (Lm.lv a * 2 ^ s) := by
      rw [hxe]
      unfold sgnd
      cases neg
      · simp
      · simp [Int.neg_mul]
    rw [e]
    exact ex_double_pos neg A n c s a w ha (by omega) hn hs
end Go.Proofs.YtjcjphgpmpjmbaaGreatDoor
