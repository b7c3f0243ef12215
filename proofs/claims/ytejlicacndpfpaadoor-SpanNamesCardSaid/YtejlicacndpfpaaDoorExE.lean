/-
  The program's whole numbers (package exact): times a power of two (Double).
-/
import Derived.Test.YtejlicacndpfpaaDoorExD
import Derived.Deep.OwnRows
namespace Go.Proofs.YtejlicacndpfpaaDoor
open Go.RowKit

/-- append onto a row of the call's own, at a step of a region that draws. -/
theorem step_append_row {P : Program} (w : World) {ops : Array Oper} {o : Oper} {a : Act} {K : Act → World → Prop} {Q : Exit → Act → World → Prop} {E : Prop} (hgd : o.guard = none) (s x : Operand) (t : TypeId)
    (ho : o.op = .call { callee := .builtin .append, args := #[s, x], argTypes := #[t, t] })
    (base : Nat) (e : TypeId) (i : TypeInfo) (z : Value) (bytes : Nat) (ht : P.underlying t = some (.slice e)) (hi : P.info? e = some i) (hz : i.zero = some z)
    (hsize : i.size = 1) (hby : i.bytes = bytes) (hzs : z.cells.size = 1)
    (v : Value) (n : Nat) (xs : List Value) (hs : a.eval s = v) (hown : w.ownsRow base e 1 v n xs)
    (B : Nat) (A : Option Addr) (m c : Nat) (news : List Value) (hx : a.eval x = .slice A m c) (hr : Reads w B A m news) (h1 : ∀ u ∈ news, u.oneCell' = true)
    (h63 : n + m ≤ maxLen) (hbytes : (n + m) * bytes ≤ 140737488355328) (hbase : base ≤ w.heap.size)
    (h : ∀ v' w', w'.ownsRow base e 1 v' (n + m) (xs ++ news) → w.grownBy w' v.ownBlock → (v'.ownBlock = v.ownBlock ∨ v'.ownBlock = some w.heap.size) → K (a.put o.dst v') w') :
    if Region.wanted o (yielded ops a.tmps) = true then Oper.wp P o a w K Q else E := by
  have hw : Region.wanted o (yielded ops a.tmps) = true := by simp [Region.wanted, hgd]
  rw [if_pos hw]
  exact wp_append_any w s x t ho base e i z bytes ht hi hz hsize hby hzs v n xs hs hown B A m c news hx hr h1 h63 hbytes hbase h
theorem ex_up_of (A : Option Addr) (n c s : Nat) (a : List Nat) (z : Int) (w : World) (ha : Sl w A n c a) (hn : n ≤ 1000000000) (hs : s < 32) (hz : z = (s : Int)) :
    Calls Tryd.prog 83 #[.slice A n c, .int .u64 z] w (RetRow w (fun l => Lm.lv l = Lm.lv a * pw s) (n + 1)) := by
  subst hz
  exact ex_up_any A n c s a w ha hn hs
theorem dbl_lv {l a : List Nat} {s : Nat} (h : Lm.lv l = Lm.lv a * pw (s % 32)) : Lm.lv (List.replicate (s / 32) 0 ++ l) = Lm.lv a * 2 ^ s := by
  have h1 := double_lv a s
  rw [Lm.lv_append, Lm.lv_zeros, List.length_replicate, Nat.zero_add] at h1 ⊢
  rw [h, ← h1, Nat.mul_assoc]
  rfl
theorem shift_rest {s : Nat} : IntKind.u64.wrap ((s : Int).tmod 32) = ((s % 32 : Nat) : Int) := by
  rw [show (32 : Int) = ((32 : Nat) : Int) from rfl, ← Int.ofNat_tmod]
  exact IntWalk.u64_in _ (by omega)
theorem Sl.drew {w : World} {n c : Nat} {A : Option Addr} {l : List Nat} (h : Sl w A n c l) : Sl w.drew A n c l := h
theorem made_own (w : World) (k : Nat) (hk : k ≤ 1000000000) : (w.alloc (.cells (madeCells #[.int .u32 0] k) 65)).ownsRow w.heap.size 65 1 (.slice (some ⟨w.heap.size, 0, none⟩) k k) k (u32s (List.replicate k 0)) := by
  have h := World.ownsRow_lit (e := 65) (size := 1) w (madeCells #[.int .u32 0] k) k (Nat.le_refl _) (by unfold maxLen; omega) (by simp [size_madeCells])
  rwa [made_u32] at h
theorem sl_of_row {w : World} {B g m : Nat} {l : List Nat} (h : w.ownsRow B 65 1 (.slice (some ⟨g, 0, none⟩) m m) m (u32s l)) (hok : Lm.ok l) : Sl w (some ⟨g, 0, none⟩) m m l := Sl.of_own h (Nat.le_refl _) hok
set_option maxRecDepth 100000 in
set_option maxHeartbeats 3200000 in
theorem ex_double_pos (neg : Bool) (A : Option Addr) (n c s : Nat) (a : List Nat) (w : World) (ha : Sl w A n c a) (h0 : 0 < n) (hn : n ≤ 100000000) (hs : s ≤ 1000000000) :
    Calls Tryd.prog 63 #[.agg #[.bool neg, .slice A n c], .int .i64 s] w (RetInt w (sgnd neg (Lm.lv a * 2 ^ s))) := by
  obtain ⟨i0, hi, hz0, hz1, hz2⟩ := info_parts info_u32
  have hne : ((n : Int) == 0) = false := by rw [beq_eq_false_iff_ne]; omega
  have K0 := ((Mm.nil w).var (g := w.heap.size) rfl [.bool neg, .slice A n c] 24).var (g := w.heap.size + 1) (by simp) [.bool false, .slice none 0 0] 24
  have hS0 := (ha.alloc (.cells #[.bool neg, .slice A n c] 24)).alloc (.cells #[.bool false, .slice none 0 0] 24)
  have hmk : ∀ w, (Instr.makeSlice 22 (.int .i64 (IntKind.i64.wrap ((s : Int) / 32))) (.int .i64 (IntKind.i64.wrap ((s : Int) / 32)))).run Tryd.prog w = .ok (.slice (some ⟨w.heap.size, 0, none⟩) (s / 32) (s / 32)) (w.alloc (.cells (madeCells #[.int .u32 0] (s / 32)) 65)) := fun w => by
    rw [show IntKind.i64.wrap ((s : Int) / 32) = ((s / 32 : Nat) : Int) by rw [show (s : Int) / 32 = ((s / 32 : Nat) : Int) by omega]; exact IntWalk.i64_in _ (by omega)]
    exact run_make_row' (P := Tryd.prog) 22 65 (.int .u32 0) 4 Tryd.underlying22 info_u32 rfl .i64 .i64 (s / 32) (by omega) (by omega) w
  go_enter Tryd.func63, Tryd.ntmps63
  go_wp2_with fail
  generalize (w.alloc (.cells #[.bool neg, .slice A n c] 24)).alloc (.cells #[.bool false, .slice none 0 0] 24) = w0 at K0 hS0 ⊢
  obtain ⟨qa0, qb0, _, _, qe0⟩ := (K0.blk (g := w.heap.size) (vs := [.bool neg, .slice A n c]) (by simp)).two
  go_region_held3 (fun w' => w'.cell? ⟨w.heap.size, 0, none⟩ = some (.bool neg) ∧ w'.cell? ⟨w.heap.size, 1, none⟩ = some (.slice A n c))
    (go_keep)
    (first
      | (go_at_call 83; (with_reducible refine (ex_up_of A n c (s % 32) a _ _ ?_ (by omega) (by omega) shift_rest).mono ?_); (with_reducible exact (hS0.alloc _).drew); rintro e1 w1 ⟨g1, l1, rfl, hown1, hok1, hl1, hv1, hb1⟩; have hb01 := below_box (below_of_drew hb1); have own0 := own_kept (made_own w0 (s / 32) (by omega)) (below_of_drew hb1); have hv2 := Lib.hid (dbl_lv hv1); clear hv1 hb1; have K1 := K0.next hb01; obtain ⟨qa1, qb1, _, _, qe1⟩ := (K1.blk (g := w.heap.size) (vs := [.bool neg, .slice A n c]) (by simp)).two)
      | (go_at_call 83; (with_reducible refine (ex_up_of A n c (s % 32) a _ _ ?_ (by omega) (by omega) shift_rest).mono ?_); (with_reducible exact hS0.drew); rintro e1 w1 ⟨g1, l1, rfl, hown1, hok1, hl1, hv1, hb1⟩; have hb01 := below_of_drew hb1; have own0 := made_own w1 (s / 32) (by omega); have hv2 := Lib.hid (dbl_lv hv1); clear hv1 hb1; have K1 := K0.next hb01; obtain ⟨qa1, qb1, _, _, qe1⟩ := (K1.blk (g := w.heap.size) (vs := [.bool neg, .slice A n c]) (by simp)).two)
      | (refine step_append_row _ (by rfl) _ _ 22 (by rfl) w0.heap.size 65 i0 (.int .u32 0) 4 Tryd.underlying22 hi hz0 hz1 hz2 rfl (.slice (some ⟨w0.heap.size, 0, none⟩) (s / 32) (s / 32)) (s / 32) (u32s (List.replicate (s / 32) 0)) (by rfl) own0 _ (some ⟨g1, 0, none⟩) (n + 1) (n + 1) (u32s l1) (by rfl) (sl_of_row hown1 hok1).1 (u32s_one _) (by unfold maxLen; omega) (by omega) hb01.size ?_; intro v' w2 hown2 hgrow2 _; have hb2 := hb01.grown hgrow2 hb01.size (own_ge own0); rw [← u32s_append] at hown2; obtain ⟨A2, c2, rfl, hc2⟩ := own_form hown2; have hS2 : Sl w2 A2 (s / 32 + (n + 1)) c2 (List.replicate (s / 32) 0 ++ l1) := (Sl.of_own hown2 hc2 (Lm.ok_append (Lm.ok_zeros _) hok1)); clear hown2 hgrow2; have K2 := K0.next hb2; obtain ⟨qa2, qb2, _, _, qe2⟩ := (K2.blk (g := w.heap.size) (vs := [.bool neg, .slice A n c]) (by simp)).two)
      | (refine step_append_row _ (by rfl) _ _ 22 (by rfl) w1.heap.size 65 i0 (.int .u32 0) 4 Tryd.underlying22 hi hz0 hz1 hz2 rfl (.slice (some ⟨w1.heap.size, 0, none⟩) (s / 32) (s / 32)) (s / 32) (u32s (List.replicate (s / 32) 0)) (by rfl) own0 _ (some ⟨g1, 0, none⟩) (n + 1) (n + 1) (u32s l1) (by rfl) ((sl_of_row hown1 hok1).alloc _).1 (u32s_one _) (by unfold maxLen; omega) (by omega) (by simp) ?_; intro v' w2 hown2 hgrow2 _; have hb2 := (hb01.alloc hb01.size _).grown hgrow2 (by simp; have := hb01.size; omega) (fun k hk => Nat.le_trans hb01.size (own_ge own0 k hk)); rw [← u32s_append] at hown2; obtain ⟨A2, c2, rfl, hc2⟩ := own_form hown2; have hS2 : Sl w2 A2 (s / 32 + (n + 1)) c2 (List.replicate (s / 32) 0 ++ l1) := (Sl.of_own hown2 hc2 (Lm.ok_append (Lm.ok_zeros _) hok1)); clear hown2 hgrow2; have K2 := K0.next hb2; obtain ⟨qa2, qb2, _, _, qe2⟩ := (K2.blk (g := w.heap.size) (vs := [.bool neg, .slice A n c]) (by simp)).two)
      | (go_at_call 34; (with_reducible refine (ex_signed_any neg A2 (s / 32 + (n + 1)) c2 _ _ hS2 (by omega)).mono ?_); rintro e3 w3 ⟨neg3, A3, n3, c3, rfl, I3, hb3⟩; have K3 := (K2.next hb3).int I3; obtain ⟨qa3, qb3, _, _, qe3⟩ := (K3.blk (g := w.heap.size) (vs := [.bool neg, .slice A n c]) (by simp)).two; obtain ⟨ra3, rb3, rc3, rd3, re3⟩ := (K3.blk (g := w.heap.size + 1) (vs := [.bool false, .slice none 0 0]) (by simp)).two))
  all_goals
   go_wp2_with fail
   rw [hv2.out] at K3
   have KE := (K3.pick (L' := [(w.heap.size + 1, [.bool false, .slice none 0 0])]) (l' := [(neg3, A3, n3, c3, sgnd neg (Lm.lv a * 2 ^ s))]) (by simp) (by simp)).set2 (by simp <;> omega) neg3 A3 n3 c3
   exact bodyPost_ret (v := .agg #[.bool neg3, .slice A3 n3 c3]) (by simp [results, Tryd.results63, go_sem, ra3, rb3]) rfl ⟨neg3, A3, n3, c3, rfl, KE.at_ (by simp), KE.1⟩
theorem ex_double_any (neg : Bool) (A : Option Addr) (n c s : Nat) (x : Int) (w : World) (hx : IsInt w neg A n c x) (hn : n ≤ 100000000) (hs : s ≤ 1000000000) :
    Calls Tryd.prog 63 #[.agg #[.bool neg, .slice A n c], .int .i64 s] w (RetInt w (x * ((2 ^ s : Nat) : Int))) := by
  by_cases h0 : n = 0
  · have hz := (isInt_zero hx).1 h0
    subst h0
    have K0 := ((Mm.nil w).var (g := w.heap.size) rfl [.bool neg, .slice A 0 c] 24).var (g := w.heap.size + 1) (by simp) [.bool false, .slice none 0 0] 24
    have hzz : Hid (x = 0) := Lib.hid hz
    clear hz hx
    go_enter Tryd.func63, Tryd.ntmps63
    go_wp2_with fail
    exact bodyPost_ret (v := .agg #[.bool false, .slice none 0 0]) (by simp [results, Tryd.results63, go_sem]) rfl
      ⟨false, none, 0, 0, rfl, by rw [hzz.out, Int.zero_mul]; exact isInt_nought, K0.1⟩
  · obtain ⟨a, ha, _, _, hxe⟩ := hx
    have e : x * ((2 ^ s : Nat) : Int) = sgnd neg (Lm.lv a * 2 ^ s) := by
      rw [hxe]
      unfold sgnd
      cases neg
      · simp
      · simp [Int.neg_mul]
    rw [e]
    exact ex_double_pos neg A n c s a w ha (by omega) hn hs
end Go.Proofs.YtejlicacndpfpaaDoor
