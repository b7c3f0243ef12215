/-
  mode.Depth and mode.Exact over what is asked of a stable cavity.
-/
import Derived.Test.YtgekmbfmfiikkaaGreatDoorMdC
namespace Go.Proofs.YtgekmbfmfiikkaaGreatDoor
open Go.RowKit

/-- The answer of mode.Exact. -/
def RetG4 (W : World) (x y x' y' v : Int) (is : Bool) (e : Ending) (w' : World) : Prop :=
 ∃ (sa : Bool) (Aa : Option Addr) (na ca : Nat) (za : Bool) (Ba : Option Addr) (ma da : Nat) (sb : Bool) (Ab : Option Addr) (nb cb : Nat) (zb : Bool) (Bb : Option Addr) (mb db : Nat), e = .returned (.tuple #[.agg #[.bool sa, .slice Aa na ca, .bool za, .slice Ba ma da, .bool sb, .slice Ab nb cb, .bool zb, .slice Bb mb db], .bool is, .int .i64 v]) ∧
  IsInt w' sa Aa na ca x ∧ IsInt w' za Ba ma da y ∧ IsInt w' sb Ab nb cb x' ∧ IsInt w' zb Bb mb db y' ∧ Owns W.heap.size w' [(Aa, na, ca), (Ba, ma, da), (Ab, nb, cb), (Bb, mb, db)] ∧ Below W.heap.size W w'

set_option maxRecDepth 100000 in
set_option maxHeartbeats 6400000 in
theorem mode_depth_call (sa : Bool) (Aa : Option Addr) (na ca : Nat) (za : Bool) (Ba : Option Addr) (ma da : Nat) (sb : Bool) (Ab : Option Addr) (nb cb : Nat) (zb : Bool) (Bb : Option Addr) (mb db : Nat) (sc : Bool) (Ac : Option Addr) (nc cc : Nat) (zc : Bool) (Bc : Option Addr) (mc dc : Nat) (sd : Bool) (Ad : Option Addr) (nd cd : Nat) (zd : Bool) (Bd : Option Addr) (md dd : Nat) (x y v : Int) (w : World) (hst : Hid (∀ W, Below w.heap.size w W → Calls Tryz.prog 116 #[.agg #[.bool sa, .slice Aa na ca, .bool za, .slice Ba ma da, .bool sb, .slice Ab nb cb, .bool zb, .slice Bb mb db, .bool sc, .slice Ac nc cc, .bool zc, .slice Bc mc dc, .bool sd, .slice Ad nd cd, .bool zd, .slice Bd md dd], .func (.func 117) #[] #[]] W (RetF2 W x y v))) :
  Calls Tryz.prog 25 #[.agg #[.bool sa, .slice Aa na ca, .bool za, .slice Ba ma da, .bool sb, .slice Ab nb cb, .bool zb, .slice Bb mb db, .bool sc, .slice Ac nc cc, .bool zc, .slice Bc mc dc, .bool sd, .slice Ad nd cd, .bool zd, .slice Bd md dd]] w (RetF2 w x y v) := by
 have K0 := ((Mo.nil w).var (g := w.heap.size) rfl [.bool sa, .slice Aa na ca, .bool za, .slice Ba ma da, .bool sb, .slice Ab nb cb, .bool zb, .slice Bb mb db, .bool sc, .slice Ac nc cc, .bool zc, .slice Bc mc dc, .bool sd, .slice Ad nd cd, .bool zd, .slice Bd md dd] 28).var (g := w.heap.size + 1) (by simp) [.bool false, .slice none 0 0, .bool false, .slice none 0 0] 26
 have g01 : ¬ w.heap.size = w.heap.size + 1 := by omega
 have g10 : ¬ w.heap.size + 1 = w.heap.size := by omega
 go_enter Tryz.func25, Tryz.ntmps25
 go_upto_region 1 with (fail)
 generalize (w.alloc (.cells #[.bool sa, .slice Aa na ca, .bool za, .slice Ba ma da, .bool sb, .slice Ab nb cb, .bool zb, .slice Bb mb db, .bool sc, .slice Ac nc cc, .bool zc, .slice Bc mc dc, .bool sd, .slice Ad nd cd, .bool zd, .slice Bd md dd] 28)).alloc (.cells #[.bool false, .slice none 0 0, .bool false, .slice none 0 0] 26) = w0 at K0 ⊢
 obtain ⟨p0, p1, p2, p3, p4, p5, p6, p7, p8, p9, p10, p11, p12, p13, p14, p15⟩ := (K0.blk (g := w.heap.size) (by repeat constructor)).c16
 go_wp2_with fail
 refine (hst.out _ K0.1).mono ?_
 rintro e1 w1 ⟨sq, Aq, nq, cq, zq, Bq, mq, dq, rfl, I, J, O, hb⟩
 have K1 := ((K0.call2 hb O).int J).int I
 clear K0 hb I J O hst p0 p1 p2 p3 p4 p5 p6 p7 p8 p9 p10 p11 p12 p13 p14 p15
 obtain ⟨⟨f0, f1, f2, f3⟩, ⟨ff0, ff1, ff2, ff3⟩, _⟩ := (K1.blk (g := w.heap.size + 1) (by repeat constructor)).four
 go_wp2_with fail
 have K9 := (K1.pick (L' := [(w.heap.size + 1, [.bool false, .slice none 0 0, .bool false, .slice none 0 0])]) (l' := [(sq, Aq, nq, cq, x), (zq, Bq, mq, dq, y)]) (by simp) (by simp)).set4 (by simp) sq Aq nq cq zq Bq mq dq
 exact bodyPost_ret (v := .tuple #[.agg #[.bool sq, .slice Aq nq cq, .bool zq, .slice Bq mq dq], .int .i64 v]) (by simp [results, Tryz.results25, go_sem, f0, f1, f2, f3]) rfl ⟨_, _, _, _, _, _, _, _, rfl, K9.at_ (by simp), K9.at_ (by simp), K9.all, K9.1⟩

set_option maxRecDepth 100000 in
set_option maxHeartbeats 6400000 in
theorem mode_exact_call (sa : Bool) (Aa : Option Addr) (na ca : Nat) (za : Bool) (Ba : Option Addr) (ma da : Nat) (sb : Bool) (Ab : Option Addr) (nb cb : Nat) (zb : Bool) (Bb : Option Addr) (mb db : Nat) (sc : Bool) (Ac : Option Addr) (nc cc : Nat) (zc : Bool) (Bc : Option Addr) (mc dc : Nat) (sd : Bool) (Ad : Option Addr) (nd cd : Nat) (zd : Bool) (Bd : Option Addr) (md dd : Nat) (x y x' y' v : Int) (is : Bool) (w : World) (hst : Hid (∀ W gi, Below w.heap.size w W → gi < W.heap.size → W.cell? ⟨gi, 0, none⟩ = some (.bool false) → W.frozen? ⟨gi, 0, none⟩ = false → Calls Tryz.prog 111 #[.agg #[.bool sa, .slice Aa na ca, .bool za, .slice Ba ma da, .bool sb, .slice Ab nb cb, .bool zb, .slice Bb mb db, .bool sc, .slice Ac nc cc, .bool zc, .slice Bc mc dc, .bool sd, .slice Ad nd cd, .bool zd, .slice Bd md dd], .func (.func 112) #[] #[.pointer (some ⟨gi, 0, none⟩)]] W (RetG3 W gi x y x' y' v is))) :
  Calls Tryz.prog 24 #[.agg #[.bool sa, .slice Aa na ca, .bool za, .slice Ba ma da, .bool sb, .slice Ab nb cb, .bool zb, .slice Bb mb db, .bool sc, .slice Ac nc cc, .bool zc, .slice Bc mc dc, .bool sd, .slice Ad nd cd, .bool zd, .slice Bd md dd]] w (RetG4 w x y x' y' v is) := by
 have K0 := ((Mo.nil w).var (g := w.heap.size) rfl [.bool sa, .slice Aa na ca, .bool za, .slice Ba ma da, .bool sb, .slice Ab nb cb, .bool zb, .slice Bb mb db, .bool sc, .slice Ac nc cc, .bool zc, .slice Bc mc dc, .bool sd, .slice Ad nd cd, .bool zd, .slice Bd md dd] 28).var (g := w.heap.size + 1) (by simp) [.bool false, .slice none 0 0, .bool false, .slice none 0 0, .bool false, .slice none 0 0, .bool false, .slice none 0 0] 30
 have g01 : ¬ w.heap.size = w.heap.size + 1 := by omega
 have g10 : ¬ w.heap.size + 1 = w.heap.size := by omega
 go_enter Tryz.func24, Tryz.ntmps24
 go_upto_region 1 with (fail)
 generalize (w.alloc (.cells #[.bool sa, .slice Aa na ca, .bool za, .slice Ba ma da, .bool sb, .slice Ab nb cb, .bool zb, .slice Bb mb db, .bool sc, .slice Ac nc cc, .bool zc, .slice Bc mc dc, .bool sd, .slice Ad nd cd, .bool zd, .slice Bd md dd] 28)).alloc (.cells #[.bool false, .slice none 0 0, .bool false, .slice none 0 0, .bool false, .slice none 0 0, .bool false, .slice none 0 0] 30) = w0 at K0 ⊢
 go_upto_region 2 with (fail)
 have K1 := K0.var (g := w0.heap.size) rfl [.bool false] 4
 have z1 : w.heap.size + 1 < w0.heap.size := (K0.blk (mE 0 rfl)).1
 clear K0
 generalize w0.heap.size = gb at K1 z1 ⊢
 generalize w0.alloc (.cells #[.bool false] 4) = u1 at K1 ⊢
 obtain ⟨zb1, hb1⟩ := K1.blk (mE 0 rfl)
 have hc1 := (hb1 0 _ rfl).1
 have hf1 := (hb1 0 _ rfl).2
 obtain ⟨p0, p1, p2, p3, p4, p5, p6, p7, p8, p9, p10, p11, p12, p13, p14, p15⟩ := (K1.blk (g := w.heap.size) (by repeat constructor)).c16
 go_wp2_with fail
 refine (hst.out _ gb K1.1 zb1 hc1 hf1).mono ?_
 rintro e2 w2 ⟨se, Ae, ne, ce, ze, Be, me, de, sf, Af, nf, cf, zf, Bf, mf, df, rfl, I, J, I', J', O, hb⟩
 have KB := (K1.pick (L' := [(gb, [.bool false]), (w.heap.size + 1, [.bool false, .slice none 0 0, .bool false, .slice none 0 0, .bool false, .slice none 0 0, .bool false, .slice none 0 0]), (w.heap.size, [.bool sa, .slice Aa na ca, .bool za, .slice Ba ma da, .bool sb, .slice Ab nb cb, .bool zb, .slice Bb mb db, .bool sc, .slice Ac nc cc, .bool zc, .slice Bc mc dc, .bool sd, .slice Ad nd cd, .bool zd, .slice Bd md dd])]) (l' := []) (by simp) (by simp)).set (by simp <;> omega) (j := 0) (.bool false) (.bool is) rfl (by simp)
 have hz : (u1.setCell ⟨gb, 0, none⟩ (.bool is)).heap.size = u1.heap.size := by simp [World.setCell]
 have K2 := (((((KB.call4 (by rw [hz]; exact hb) (by rw [hz]; exact O)).int J').int I').int J).int I).var (g := w2.heap.size) rfl [.bool se, .slice Ae ne ce, .bool ze, .slice Be me de, .bool sf, .slice Af nf cf, .bool zf, .slice Bf mf df] 30
 have z2 : gb < w2.heap.size := Nat.lt_of_lt_of_le zb1 (by have := hb.size; rw [hz] at this; exact this)
 clear K1 KB hz hb I J I' J' O hst hc1 hf1 hb1 zb1 p0 p1 p2 p3 p4 p5 p6 p7 p8 p9 p10 p11 p12 p13 p14 p15
 go_upto_region 3 with (fail)
 generalize w2.heap.size = gq at K2 z2 ⊢
 generalize w2.alloc (.cells #[.bool se, .slice Ae ne ce, .bool ze, .slice Be me de, .bool sf, .slice Af nf cf, .bool zf, .slice Bf mf df] 30) = u2 at K2 ⊢
 have n1 : ¬ gq = w.heap.size + 1 := by omega
 have n2 : ¬ w.heap.size + 1 = gq := by omega
 have n3 : ¬ gb = w.heap.size + 1 := by omega
 have n4 : ¬ w.heap.size + 1 = gb := by omega
 have cb := ((K2.blk (mE 1 rfl)).2 0 _ rfl).1
 obtain ⟨_, _, _, _, _, _, _, _⟩ := (K2.blk (g := gq) (by repeat constructor)).c8
 obtain ⟨f0, f1, f2, f3, f4, f5, f6, f7⟩ := (K2.blk (g := w.heap.size + 1) (by repeat constructor)).c8
 obtain ⟨ff0, ff1, ff2, ff3, ff4, ff5, ff6, ff7, _⟩ := (K2.blk (g := w.heap.size + 1) (by repeat constructor)).f8
 go_region_held3 (fun w' => w'.cell? ⟨gq, 0, none⟩ = some (.bool se) ∧ w'.cell? ⟨gq, 1, none⟩ = some (.slice Ae ne ce) ∧ w'.cell? ⟨gq, 2, none⟩ = some (.bool ze) ∧ w'.cell? ⟨gq, 3, none⟩ = some (.slice Be me de) ∧ w'.cell? ⟨gq, 4, none⟩ = some (.bool sf) ∧ w'.cell? ⟨gq, 5, none⟩ = some (.slice Af nf cf) ∧ w'.cell? ⟨gq, 6, none⟩ = some (.bool zf) ∧ w'.cell? ⟨gq, 7, none⟩ = some (.slice Bf mf df) ∧ w'.cell? ⟨gb, 0, none⟩ = some (.bool is))
 (go_keep)
 (first
  | fail)
 all_goals (go_wp2_with fail)
 all_goals (
  have K9 := (K2.pick (L' := [(w.heap.size + 1, [.bool false, .slice none 0 0, .bool false, .slice none 0 0, .bool false, .slice none 0 0, .bool false, .slice none 0 0])]) (l' := [(se, Ae, ne, ce, x), (ze, Be, me, de, y), (sf, Af, nf, cf, x'), (zf, Bf, mf, df, y')]) (by simp) (by simp)).set8 (by simp) se Ae ne ce ze Be me de sf Af nf cf zf Bf mf df |>.drew
  exact bodyPost_ret (v := .tuple #[.agg #[.bool se, .slice Ae ne ce, .bool ze, .slice Be me de, .bool sf, .slice Af nf cf, .bool zf, .slice Bf mf df], .bool is, .int .i64 v]) (by simp [results, Tryz.results24, go_sem, f0, f1, f2, f3, f4, f5, f6, f7]) rfl ⟨_, _, _, _, _, _, _, _, _, _, _, _, _, _, _, _, rfl, K9.at_ (by simp), K9.at_ (by simp), K9.at_ (by simp), K9.at_ (by simp), K9.all, K9.1⟩)
end Go.Proofs.YtgekmbfmfiikkaaGreatDoor
