/-
  Is a matrix that which changes nothing, or that turned (cavity.one)?
-/
import Derived.Test.YtgekmbfmfiikkaaGreatDoorMay
import Derived.Test.YtgekmbfmfiikkaaGreatDoorBey
import Derived.Test.YtgekmbfmfiikkaaGreatDoorMeg
namespace Go.Proofs.YtgekmbfmfiikkaaGreatDoor
open Go.RowKit
theorem gOfK {l : List Oper} {i : Nat} {o : Oper} (h : l[i]? = some o) : l.toArray[i]? = some o := by simpa using h
set_option maxRecDepth 100000 in
set_option maxHeartbeats 6400000 in
theorem cavity_one_any (sa za : Bool) (Aa Ba : Option Addr) (na ca ma da : Nat) (xa : Rat) (sb zb : Bool) (Ab Bb : Option Addr) (nb cb mb db : Nat) (xb : Rat) (sc zc : Bool) (Ac Bc : Option Addr) (nc cc mc dc : Nat) (xc : Rat) (sd zd : Bool) (Ad Bd : Option Addr) (nd cd md dd : Nat) (xd : Rat) (M : Nat) (s : Int) (xs : Rat) (b : Bool) (w : World) (ha : IsInt w sa Aa na ca xa.num) (ia : IsInt w za Ba ma da (xa.den : Int)) (ya : Sz xa M) (hb : IsInt w sb Ab nb cb xb.num) (ib : IsInt w zb Bb mb db (xb.den : Int)) (yb : Sz xb M) (hc : IsInt w sc Ac nc cc xc.num) (ic : IsInt w zc Bc mc dc (xc.den : Int)) (yc : Sz xc M) (hd : IsInt w sd Ad nd cd xd.num) (id : IsInt w zd Bd md dd (xd.den : Int)) (yd : Sz xd M) (hM : M ≤ 100000) (hs : -9223372036854775808 ≤ s ∧ s ≤ 9223372036854775807) (hx : Hid (Rat.divInt s 1 = xs)) (hb' : Hid ((decide (xb = 0) && decide (xc = 0) && decide (xa = xs) && decide (xd = xa)) = b)) :
  Calls Tryz.prog 144 #[.agg #[.bool sa, .slice Aa na ca, .bool za, .slice Ba ma da, .bool sb, .slice Ab nb cb, .bool zb, .slice Bb mb db, .bool sc, .slice Ac nc cc, .bool zc, .slice Bc mc dc, .bool sd, .slice Ad nd cd, .bool zd, .slice Bd md dd], .int .i64 s] w (RetV w (.bool b)) := by
 have K0 := (((((((((Mm.nil w).int id).int hd).int ic).int hc).int ib).int hb).int ia).int ha).var (g := w.heap.size) rfl [.bool sa, .slice Aa na ca, .bool za, .slice Ba ma da, .bool sb, .slice Ab nb cb, .bool zb, .slice Bb mb db, .bool sc, .slice Ac nc cc, .bool zc, .slice Bc mc dc, .bool sd, .slice Ad nd cd, .bool zd, .slice Bd md dd] 28
 have Ya := Lib.hid ya
 have Yb := Lib.hid yb
 have Yc := Lib.hid yc
 have Yd := Lib.hid yd
 have HS := Lib.hid hs
 have XS : Hid (Sz xs 3) := Lib.hid (by rw [← hx.out]; exact (Sz.divInt (m := 2) (by omega) (by omega) (by omega)).mono (by decide))
 obtain ⟨vb, hvb⟩ : ∃ v, xb.num.sign = v := ⟨_, rfl⟩
 obtain ⟨vc, hvc⟩ : ∃ v, xc.num.sign = v := ⟨_, rfl⟩
 obtain ⟨va, hva⟩ : ∃ v, rcmp xa xs = v := ⟨_, rfl⟩
 obtain ⟨vd, hvd⟩ : ∃ v, rcmp xd xa = v := ⟨_, rfl⟩
 have eb : decide (vb = 0) = decide (xb = 0) := by rw [← hvb]; exact decide_eq_decide.2 (by rw [Int.sign_eq_zero_iff_zero, Rat.num_eq_zero])
 have ec : decide (vc = 0) = decide (xc = 0) := by rw [← hvc]; exact decide_eq_decide.2 (by rw [Int.sign_eq_zero_iff_zero, Rat.num_eq_zero])
 have ea : decide (va = 0) = decide (xa = xs) := by rw [← hva, ← rcmp_eq]; rfl
 have ed : decide (vd = 0) = decide (xd = xa) := by rw [← hvd, ← rcmp_eq]; rfl
 have HB : (decide (vb = 0) && decide (vc = 0) && decide (va = 0) && decide (vd = 0)) = b := by rw [eb, ec, ea, ed]; exact hb'.out
 clear eb ec ea ed hb' hs ha ia ya hb ib yb hc ic yc hd id yd
 go_enter Tryz.func144, Tryz.ntmps144
 go_upto_region 1 with (fail)
 generalize w.alloc (.cells #[.bool sa, .slice Aa na ca, .bool za, .slice Ba ma da, .bool sb, .slice Ab nb cb, .bool zb, .slice Bb mb db, .bool sc, .slice Ac nc cc, .bool zc, .slice Bc mc dc, .bool sd, .slice Ad nd cd, .bool zd, .slice Bd md dd] 28) = w0 at K0 ⊢
 by_cases h1 : vb = 0
 ·by_cases h2 : vc = 0
  ·by_cases h3 : va = 0
   ·obtain rfl : decide (vd = 0) = b := by rw [← HB, h1, h2, h3]; rfl
    clear HB
    (try refine wp_region_noPanic ?_)
    refine wp_region_held_drew (S := fun w' => w'.cell? ⟨w.heap.size, 0, none⟩ = some (.bool sa) ∧ w'.cell? ⟨w.heap.size, 1, none⟩ = some (.slice Aa na ca) ∧ w'.cell? ⟨w.heap.size, 2, none⟩ = some (.bool za) ∧ w'.cell? ⟨w.heap.size, 3, none⟩ = some (.slice Ba ma da) ∧ w'.cell? ⟨w.heap.size, 4, none⟩ = some (.bool sb) ∧ w'.cell? ⟨w.heap.size, 5, none⟩ = some (.slice Ab nb cb) ∧ w'.cell? ⟨w.heap.size, 6, none⟩ = some (.bool zb) ∧ w'.cell? ⟨w.heap.size, 7, none⟩ = some (.slice Bb mb db) ∧ w'.cell? ⟨w.heap.size, 8, none⟩ = some (.bool sc) ∧ w'.cell? ⟨w.heap.size, 9, none⟩ = some (.slice Ac nc cc) ∧ w'.cell? ⟨w.heap.size, 10, none⟩ = some (.bool zc) ∧ w'.cell? ⟨w.heap.size, 11, none⟩ = some (.slice Bc mc dc) ∧ w'.cell? ⟨w.heap.size, 12, none⟩ = some (.bool sd) ∧ w'.cell? ⟨w.heap.size, 13, none⟩ = some (.slice Ad nd cd) ∧ w'.cell? ⟨w.heap.size, 14, none⟩ = some (.bool zd) ∧ w'.cell? ⟨w.heap.size, 15, none⟩ = some (.slice Bd md dd)) (by kernel_rfl) (K0.blk (mE 0 rfl)).c16 (fun H0p => ?_)
    have K0p := K0.drew
    clear K0
    generalize w0.drew = W0p at K0p H0p ⊢
    refine wpAnyH_take (i := 0) (v := ?vvp1) (gOfK rfl) (by kernel_rfl) (by kernel_rfl) (by kernel_rfl) (fun _ _ _ h => h) (Or.inl ⟨by rfl, ?hyp1⟩) (by assumption) ?_
    case hyp1 => (intro w hSw; (try dsimp only at hSw); go_simp <;> with_reducible rfl)
    try simp only [Act.put, List.setIfInBounds_toArray, List.set_cons_zero, List.set_cons_succ]
    refine wpAnyH_take (i := 1) (v := ?vvp2) (gOfK rfl) (by kernel_rfl) (by kernel_rfl) (by kernel_rfl) (fun _ _ _ h => h) (Or.inl ⟨by rfl, ?hyp2⟩) (by assumption) ?_
    case hyp2 => (intro w hSw; (try dsimp only at hSw); go_simp <;> with_reducible rfl)
    try simp only [Act.put, List.setIfInBounds_toArray, List.set_cons_zero, List.set_cons_succ]
    refine wpAnyH_ready (rs := [2]) (by kernel_rfl) (by simp) ?_
    refine AllReadyH.cons (gOfK rfl) (fun Kfp1 hKp1 => ?stp1) ?mop1
    case stp1 =>
     go_simp
     refine (rat_sign_any sb zb Ab Bb nb cb mb db xb 0 _ (K0p.at_ (mE 2 rfl)) (K0p.at_ (mE 3 rfl)) (Lib.hid (hvb.trans h1))).mono ?_
     rintro ep1 Wp1 ⟨rfl, hbp1⟩
     have Kp1 := K0p.next hbp1
     clear hbp1
     refine hKp1.out _ _ (Kp1.blk (mE 0 rfl)).c16 (fun Hp1 => ?_)
     clear hKp1 Kfp1 H0p K0p
     try simp only [Act.put, List.setIfInBounds_toArray, List.set_cons_zero, List.set_cons_succ]
     refine wpAnyH_take (i := 3) (v := ?vvp3) (gOfK rfl) (by kernel_rfl) (by kernel_rfl) (by kernel_rfl) (fun _ _ _ h => h) (Or.inl ⟨by rfl, ?hyp3⟩) (by assumption) ?_
     case hyp3 => (intro w hSw; (try dsimp only at hSw); go_simp <;> with_reducible rfl)
     try simp only [Act.put, List.setIfInBounds_toArray, List.set_cons_zero, List.set_cons_succ]
     refine wpAnyH_take (i := 4) (v := ?vvp4) (gOfK rfl) (by kernel_rfl) (by kernel_rfl) (by kernel_rfl) (fun _ _ _ h => h) (Or.inl ⟨by rfl, ?hyp4⟩) (by assumption) ?_
     case hyp4 => (intro w hSw; (try dsimp only at hSw); go_simp <;> with_reducible rfl)
     try simp only [Act.put, List.setIfInBounds_toArray, List.set_cons_zero, List.set_cons_succ]
     refine wpAnyH_take (i := 5) (v := ?vvp5) (gOfK rfl) (by kernel_rfl) (by kernel_rfl) (by kernel_rfl) (fun _ _ _ h => h) (Or.inl ⟨by rfl, ?hyp5⟩) (by assumption) ?_
     case hyp5 => (intro w hSw; (try dsimp only at hSw); go_simp <;> with_reducible rfl)
     try simp only [Act.put, List.setIfInBounds_toArray, List.set_cons_zero, List.set_cons_succ]
     refine wpAnyH_take (i := 6) (v := ?vvp6) (gOfK rfl) (by kernel_rfl) (by kernel_rfl) (by kernel_rfl) (fun _ _ _ h => h) (Or.inl ⟨by rfl, ?hyp6⟩) (by assumption) ?_
     case hyp6 => (intro w hSw; (try dsimp only at hSw); go_simp <;> with_reducible rfl)
     try simp only [Act.put, List.setIfInBounds_toArray, List.set_cons_zero, List.set_cons_succ]
     refine wpAnyH_ready (rs := [7]) (by kernel_rfl) (by simp) ?_
     refine AllReadyH.cons (gOfK rfl) (fun Kfp2 hKp2 => ?stp2) ?mop2
     case stp2 =>
      go_simp
      refine (rat_sign_any sc zc Ac Bc nc cc mc dc xc 0 _ (Kp1.at_ (mE 4 rfl)) (Kp1.at_ (mE 5 rfl)) (Lib.hid (hvc.trans h2))).mono ?_
      rintro ep2 Wp2 ⟨rfl, hbp2⟩
      have Kp2 := Kp1.next hbp2
      clear hbp2
      refine hKp2.out _ _ (Kp2.blk (mE 0 rfl)).c16 (fun Hp2 => ?_)
      clear hKp2 Kfp2 Hp1 Kp1
      try simp only [Act.put, List.setIfInBounds_toArray, List.set_cons_zero, List.set_cons_succ]
      refine wpAnyH_take (i := 8) (v := ?vvp7) (gOfK rfl) (by kernel_rfl) (by kernel_rfl) (by kernel_rfl) (fun _ _ _ h => h) (Or.inl ⟨by rfl, ?hyp7⟩) (by assumption) ?_
      case hyp7 => (intro w hSw; (try dsimp only at hSw); go_simp <;> with_reducible rfl)
      try simp only [Act.put, List.setIfInBounds_toArray, List.set_cons_zero, List.set_cons_succ]
      refine wpAnyH_take (i := 9) (v := ?vvp8) (gOfK rfl) (by kernel_rfl) (by kernel_rfl) (by kernel_rfl) (fun _ _ _ h => h) (Or.inl ⟨by rfl, ?hyp8⟩) (by assumption) ?_
      case hyp8 => (intro w hSw; (try dsimp only at hSw); go_simp <;> with_reducible rfl)
      try simp only [Act.put, List.setIfInBounds_toArray, List.set_cons_zero, List.set_cons_succ]
      refine wpAnyH_take (i := 10) (v := ?vvp9) (gOfK rfl) (by kernel_rfl) (by kernel_rfl) (by kernel_rfl) (fun _ _ _ h => h) (Or.inl ⟨by rfl, ?hyp9⟩) (by assumption) ?_
      case hyp9 => (intro w hSw; (try dsimp only at hSw); go_simp <;> with_reducible rfl)
      try simp only [Act.put, List.setIfInBounds_toArray, List.set_cons_zero, List.set_cons_succ]
      refine wpAnyH_take (i := 11) (v := ?vvp10) (gOfK rfl) (by kernel_rfl) (by kernel_rfl) (by kernel_rfl) (fun _ _ _ h => h) (Or.inl ⟨by rfl, ?hyp10⟩) (by assumption) ?_
      case hyp10 => (intro w hSw; (try dsimp only at hSw); go_simp <;> with_reducible rfl)
      try simp only [Act.put, List.setIfInBounds_toArray, List.set_cons_zero, List.set_cons_succ]
      refine wpAnyH_take (i := 12) (v := ?vvp11) (gOfK rfl) (by kernel_rfl) (by kernel_rfl) (by kernel_rfl) (fun _ _ _ h => h) (Or.inl ⟨by rfl, ?hyp11⟩) (by assumption) ?_
      case hyp11 => (intro w hSw; (try dsimp only at hSw); go_simp <;> with_reducible rfl)
      try simp only [Act.put, List.setIfInBounds_toArray, List.set_cons_zero, List.set_cons_succ]
      refine wpAnyH_take (i := 13) (v := ?vvp12) (gOfK rfl) (by kernel_rfl) (by kernel_rfl) (by kernel_rfl) (fun _ _ _ h => h) (Or.inl ⟨by rfl, ?hyp12⟩) (by assumption) ?_
      case hyp12 => (intro w hSw; (try dsimp only at hSw); go_simp <;> with_reducible rfl)
      try simp only [Act.put, List.setIfInBounds_toArray, List.set_cons_zero, List.set_cons_succ]
      refine wpAnyH_ready (rs := [14]) (by kernel_rfl) (by simp) ?_
      refine AllReadyH.cons (gOfK rfl) (fun Kfp3 hKp3 => ?stp3) ?mop3
      case stp3 =>
       go_simp
       refine (rat_small_any s 1 xs _ HS.out (by decide) (by decide) hx).mono ?_
       rintro ep3 Wp3 ⟨se, Ae, ne, ce, ze, Be, me, de, rfl, Ip3, Jp3, hbp3⟩
       have Kp3 := ((Kp2.next hbp3).int Jp3).int Ip3
       clear Ip3 Jp3 hbp3
       refine hKp3.out _ _ (Kp3.blk (mE 0 rfl)).c16 (fun Hp3 => ?_)
       clear hKp3 Kfp3 Hp2 Kp2
       try simp only [Act.put, List.setIfInBounds_toArray, List.set_cons_zero, List.set_cons_succ]
       refine wpAnyH_ready (rs := [15]) (by kernel_rfl) (by simp) ?_
       refine AllReadyH.cons (gOfK rfl) (fun Kfp4 hKp4 => ?stp4) ?mop4
       case stp4 =>
        go_simp
        refine (rat_cmp_any sa za Aa Ba na ca ma da se ze Ae Be ne ce me de xa xs 0 M 3 _ (Kp3.at_ (mE 2 rfl)) (Kp3.at_ (mE 3 rfl)) (Kp3.at_ (mE 0 rfl)) (Kp3.at_ (mE 1 rfl)) Ya.out XS.out (by omega) (Lib.hid (hva.trans h3))).mono ?_
        rintro ep4 Wp4 ⟨rfl, hbp4⟩
        have Kp4 := Kp3.next hbp4
        clear hbp4
        refine hKp4.out _ _ (Kp4.blk (mE 0 rfl)).c16 (fun Hp4 => ?_)
        clear hKp4 Kfp4 Hp3 Kp3
        try simp only [Act.put, List.setIfInBounds_toArray, List.set_cons_zero, List.set_cons_succ]
        refine wpAnyH_take (i := 16) (v := ?vvp13) (gOfK rfl) (by kernel_rfl) (by kernel_rfl) (by kernel_rfl) (fun _ _ _ h => h) (Or.inl ⟨by rfl, ?hyp13⟩) (by assumption) ?_
        case hyp13 => (intro w hSw; (try dsimp only at hSw); go_simp <;> with_reducible rfl)
        try simp only [Act.put, List.setIfInBounds_toArray, List.set_cons_zero, List.set_cons_succ]
        refine wpAnyH_take (i := 17) (v := ?vvp14) (gOfK rfl) (by kernel_rfl) (by kernel_rfl) (by kernel_rfl) (fun _ _ _ h => h) (Or.inl ⟨by rfl, ?hyp14⟩) (by assumption) ?_
        case hyp14 => (intro w hSw; (try dsimp only at hSw); go_simp <;> with_reducible rfl)
        try simp only [Act.put, List.setIfInBounds_toArray, List.set_cons_zero, List.set_cons_succ]
        refine wpAnyH_take (i := 18) (v := ?vvp15) (gOfK rfl) (by kernel_rfl) (by kernel_rfl) (by kernel_rfl) (fun _ _ _ h => h) (Or.inl ⟨by rfl, ?hyp15⟩) (by assumption) ?_
        case hyp15 => (intro w hSw; (try dsimp only at hSw); go_simp <;> with_reducible rfl)
        try simp only [Act.put, List.setIfInBounds_toArray, List.set_cons_zero, List.set_cons_succ]
        refine wpAnyH_take (i := 19) (v := ?vvp16) (gOfK rfl) (by kernel_rfl) (by kernel_rfl) (by kernel_rfl) (fun _ _ _ h => h) (Or.inl ⟨by rfl, ?hyp16⟩) (by assumption) ?_
        case hyp16 => (intro w hSw; (try dsimp only at hSw); go_simp <;> with_reducible rfl)
        try simp only [Act.put, List.setIfInBounds_toArray, List.set_cons_zero, List.set_cons_succ]
        refine wpAnyH_take (i := 20) (v := ?vvp17) (gOfK rfl) (by kernel_rfl) (by kernel_rfl) (by kernel_rfl) (fun _ _ _ h => h) (Or.inl ⟨by rfl, ?hyp17⟩) (by assumption) ?_
        case hyp17 => (intro w hSw; (try dsimp only at hSw); go_simp <;> with_reducible rfl)
        try simp only [Act.put, List.setIfInBounds_toArray, List.set_cons_zero, List.set_cons_succ]
        refine wpAnyH_take (i := 21) (v := ?vvp18) (gOfK rfl) (by kernel_rfl) (by kernel_rfl) (by kernel_rfl) (fun _ _ _ h => h) (Or.inl ⟨by rfl, ?hyp18⟩) (by assumption) ?_
        case hyp18 => (intro w hSw; (try dsimp only at hSw); go_simp <;> with_reducible rfl)
        try simp only [Act.put, List.setIfInBounds_toArray, List.set_cons_zero, List.set_cons_succ]
        refine wpAnyH_take (i := 22) (v := ?vvp19) (gOfK rfl) (by kernel_rfl) (by kernel_rfl) (by kernel_rfl) (fun _ _ _ h => h) (Or.inl ⟨by rfl, ?hyp19⟩) (by assumption) ?_
        case hyp19 => (intro w hSw; (try dsimp only at hSw); go_simp <;> with_reducible rfl)
        try simp only [Act.put, List.setIfInBounds_toArray, List.set_cons_zero, List.set_cons_succ]
        refine wpAnyH_ready (rs := [23]) (by kernel_rfl) (by simp) ?_
        refine AllReadyH.cons (gOfK rfl) (fun Kfp5 hKp5 => ?stp5) ?mop5
        case stp5 =>
         go_simp
         refine (rat_cmp_any sd zd Ad Bd nd cd md dd sa za Aa Ba na ca ma da xd xa vd M M _ (Kp4.at_ (mE 8 rfl)) (Kp4.at_ (mE 9 rfl)) (Kp4.at_ (mE 2 rfl)) (Kp4.at_ (mE 3 rfl)) Yd.out Ya.out (by omega) (Lib.hid hvd)).mono ?_
         rintro ep5 Wp5 ⟨rfl, hbp5⟩
         have Kp5 := Kp4.next hbp5
         clear hbp5
         refine hKp5.out _ _ (Kp5.blk (mE 0 rfl)).c16 (fun Hp5 => ?_)
         clear hKp5 Kfp5 Hp4 Kp4
         try simp only [Act.put, List.setIfInBounds_toArray, List.set_cons_zero, List.set_cons_succ]
         refine wpAnyH_take (i := 24) (v := ?vvp20) (gOfK rfl) (by kernel_rfl) (by kernel_rfl) (by kernel_rfl) (fun _ _ _ h => h) (Or.inl ⟨by rfl, ?hyp20⟩) (by assumption) ?_
         case hyp20 => (intro w hSw; (try dsimp only at hSw); go_simp <;> with_reducible rfl)
         try simp only [Act.put, List.setIfInBounds_toArray, List.set_cons_zero, List.set_cons_succ]
         refine wpAnyH_take (i := 25) (v := ?vvp21) (gOfK rfl) (by kernel_rfl) (by kernel_rfl) (by kernel_rfl) (fun _ _ _ h => h) (Or.inl ⟨by rfl, ?hyp21⟩) (by assumption) ?_
         case hyp21 => (intro w hSw; (try dsimp only at hSw); go_simp <;> with_reducible rfl)
         try simp only [Act.put, List.setIfInBounds_toArray, List.set_cons_zero, List.set_cons_succ]
         refine wpAnyH_take (i := 26) (v := ?vvp22) (gOfK rfl) (by kernel_rfl) (by kernel_rfl) (by kernel_rfl) (fun _ _ _ h => h) (Or.inl ⟨by rfl, ?hyp22⟩) (by assumption) ?_
         case hyp22 => (intro w hSw; (try dsimp only at hSw); go_simp <;> with_reducible rfl)
         try simp only [Act.put, List.setIfInBounds_toArray, List.set_cons_zero, List.set_cons_succ]
         refine wpAnyH_done (by kernel_rfl) ?_ _
         (try refine NoPanic.normal ?_)
         go_wp2_with fail
         go_ret
         exact ⟨rfl, Kp5.1⟩
        exact AllReadyH.nil
       exact AllReadyH.nil
      exact AllReadyH.nil
     exact AllReadyH.nil
    exact AllReadyH.nil
   ·obtain rfl : false = b := by rw [← HB, decide_eq_false h3]; simp
    have n3 : (va == 0) = false := by rw [beq_eq_false_iff_ne]; exact h3
    clear HB
    (try refine wp_region_noPanic ?_)
    refine wp_region_held_drew (S := fun w' => w'.cell? ⟨w.heap.size, 0, none⟩ = some (.bool sa) ∧ w'.cell? ⟨w.heap.size, 1, none⟩ = some (.slice Aa na ca) ∧ w'.cell? ⟨w.heap.size, 2, none⟩ = some (.bool za) ∧ w'.cell? ⟨w.heap.size, 3, none⟩ = some (.slice Ba ma da) ∧ w'.cell? ⟨w.heap.size, 4, none⟩ = some (.bool sb) ∧ w'.cell? ⟨w.heap.size, 5, none⟩ = some (.slice Ab nb cb) ∧ w'.cell? ⟨w.heap.size, 6, none⟩ = some (.bool zb) ∧ w'.cell? ⟨w.heap.size, 7, none⟩ = some (.slice Bb mb db) ∧ w'.cell? ⟨w.heap.size, 8, none⟩ = some (.bool sc) ∧ w'.cell? ⟨w.heap.size, 9, none⟩ = some (.slice Ac nc cc) ∧ w'.cell? ⟨w.heap.size, 10, none⟩ = some (.bool zc) ∧ w'.cell? ⟨w.heap.size, 11, none⟩ = some (.slice Bc mc dc) ∧ w'.cell? ⟨w.heap.size, 12, none⟩ = some (.bool sd) ∧ w'.cell? ⟨w.heap.size, 13, none⟩ = some (.slice Ad nd cd) ∧ w'.cell? ⟨w.heap.size, 14, none⟩ = some (.bool zd) ∧ w'.cell? ⟨w.heap.size, 15, none⟩ = some (.slice Bd md dd)) (by kernel_rfl) (K0.blk (mE 0 rfl)).c16 (fun H0q => ?_)
    have K0q := K0.drew
    clear K0
    generalize w0.drew = W0q at K0q H0q ⊢
    refine wpAnyH_take (i := 0) (v := ?vvq1) (gOfK rfl) (by kernel_rfl) (by kernel_rfl) (by kernel_rfl) (fun _ _ _ h => h) (Or.inl ⟨by rfl, ?hyq1⟩) (by assumption) ?_
    case hyq1 => (intro w hSw; (try dsimp only at hSw); go_simp <;> with_reducible rfl)
    try simp only [Act.put, List.setIfInBounds_toArray, List.set_cons_zero, List.set_cons_succ]
    refine wpAnyH_take (i := 1) (v := ?vvq2) (gOfK rfl) (by kernel_rfl) (by kernel_rfl) (by kernel_rfl) (fun _ _ _ h => h) (Or.inl ⟨by rfl, ?hyq2⟩) (by assumption) ?_
    case hyq2 => (intro w hSw; (try dsimp only at hSw); go_simp <;> with_reducible rfl)
    try simp only [Act.put, List.setIfInBounds_toArray, List.set_cons_zero, List.set_cons_succ]
    refine wpAnyH_ready (rs := [2]) (by kernel_rfl) (by simp) ?_
    refine AllReadyH.cons (gOfK rfl) (fun Kfq1 hKq1 => ?stq1) ?moq1
    case stq1 =>
     go_simp
     refine (rat_sign_any sb zb Ab Bb nb cb mb db xb 0 _ (K0q.at_ (mE 2 rfl)) (K0q.at_ (mE 3 rfl)) (Lib.hid (hvb.trans h1))).mono ?_
     rintro eq1 Wq1 ⟨rfl, hbq1⟩
     have Kq1 := K0q.next hbq1
     clear hbq1
     refine hKq1.out _ _ (Kq1.blk (mE 0 rfl)).c16 (fun Hq1 => ?_)
     clear hKq1 Kfq1 H0q K0q
     try simp only [Act.put, List.setIfInBounds_toArray, List.set_cons_zero, List.set_cons_succ]
     refine wpAnyH_take (i := 3) (v := ?vvq3) (gOfK rfl) (by kernel_rfl) (by kernel_rfl) (by kernel_rfl) (fun _ _ _ h => h) (Or.inl ⟨by rfl, ?hyq3⟩) (by assumption) ?_
     case hyq3 => (intro w hSw; (try dsimp only at hSw); go_simp <;> with_reducible rfl)
     try simp only [Act.put, List.setIfInBounds_toArray, List.set_cons_zero, List.set_cons_succ]
     refine wpAnyH_take (i := 4) (v := ?vvq4) (gOfK rfl) (by kernel_rfl) (by kernel_rfl) (by kernel_rfl) (fun _ _ _ h => h) (Or.inl ⟨by rfl, ?hyq4⟩) (by assumption) ?_
     case hyq4 => (intro w hSw; (try dsimp only at hSw); go_simp <;> with_reducible rfl)
     try simp only [Act.put, List.setIfInBounds_toArray, List.set_cons_zero, List.set_cons_succ]
     refine wpAnyH_take (i := 5) (v := ?vvq5) (gOfK rfl) (by kernel_rfl) (by kernel_rfl) (by kernel_rfl) (fun _ _ _ h => h) (Or.inl ⟨by rfl, ?hyq5⟩) (by assumption) ?_
     case hyq5 => (intro w hSw; (try dsimp only at hSw); go_simp <;> with_reducible rfl)
     try simp only [Act.put, List.setIfInBounds_toArray, List.set_cons_zero, List.set_cons_succ]
     refine wpAnyH_take (i := 6) (v := ?vvq6) (gOfK rfl) (by kernel_rfl) (by kernel_rfl) (by kernel_rfl) (fun _ _ _ h => h) (Or.inl ⟨by rfl, ?hyq6⟩) (by assumption) ?_
     case hyq6 => (intro w hSw; (try dsimp only at hSw); go_simp <;> with_reducible rfl)
     try simp only [Act.put, List.setIfInBounds_toArray, List.set_cons_zero, List.set_cons_succ]
     refine wpAnyH_ready (rs := [7]) (by kernel_rfl) (by simp) ?_
     refine AllReadyH.cons (gOfK rfl) (fun Kfq2 hKq2 => ?stq2) ?moq2
     case stq2 =>
      go_simp
      refine (rat_sign_any sc zc Ac Bc nc cc mc dc xc 0 _ (Kq1.at_ (mE 4 rfl)) (Kq1.at_ (mE 5 rfl)) (Lib.hid (hvc.trans h2))).mono ?_
      rintro eq2 Wq2 ⟨rfl, hbq2⟩
      have Kq2 := Kq1.next hbq2
      clear hbq2
      refine hKq2.out _ _ (Kq2.blk (mE 0 rfl)).c16 (fun Hq2 => ?_)
      clear hKq2 Kfq2 Hq1 Kq1
      try simp only [Act.put, List.setIfInBounds_toArray, List.set_cons_zero, List.set_cons_succ]
      refine wpAnyH_take (i := 8) (v := ?vvq7) (gOfK rfl) (by kernel_rfl) (by kernel_rfl) (by kernel_rfl) (fun _ _ _ h => h) (Or.inl ⟨by rfl, ?hyq7⟩) (by assumption) ?_
      case hyq7 => (intro w hSw; (try dsimp only at hSw); go_simp <;> with_reducible rfl)
      try simp only [Act.put, List.setIfInBounds_toArray, List.set_cons_zero, List.set_cons_succ]
      refine wpAnyH_take (i := 9) (v := ?vvq8) (gOfK rfl) (by kernel_rfl) (by kernel_rfl) (by kernel_rfl) (fun _ _ _ h => h) (Or.inl ⟨by rfl, ?hyq8⟩) (by assumption) ?_
      case hyq8 => (intro w hSw; (try dsimp only at hSw); go_simp <;> with_reducible rfl)
      try simp only [Act.put, List.setIfInBounds_toArray, List.set_cons_zero, List.set_cons_succ]
      refine wpAnyH_take (i := 10) (v := ?vvq9) (gOfK rfl) (by kernel_rfl) (by kernel_rfl) (by kernel_rfl) (fun _ _ _ h => h) (Or.inl ⟨by rfl, ?hyq9⟩) (by assumption) ?_
      case hyq9 => (intro w hSw; (try dsimp only at hSw); go_simp <;> with_reducible rfl)
      try simp only [Act.put, List.setIfInBounds_toArray, List.set_cons_zero, List.set_cons_succ]
      refine wpAnyH_take (i := 11) (v := ?vvq10) (gOfK rfl) (by kernel_rfl) (by kernel_rfl) (by kernel_rfl) (fun _ _ _ h => h) (Or.inl ⟨by rfl, ?hyq10⟩) (by assumption) ?_
      case hyq10 => (intro w hSw; (try dsimp only at hSw); go_simp <;> with_reducible rfl)
      try simp only [Act.put, List.setIfInBounds_toArray, List.set_cons_zero, List.set_cons_succ]
      refine wpAnyH_take (i := 12) (v := ?vvq11) (gOfK rfl) (by kernel_rfl) (by kernel_rfl) (by kernel_rfl) (fun _ _ _ h => h) (Or.inl ⟨by rfl, ?hyq11⟩) (by assumption) ?_
      case hyq11 => (intro w hSw; (try dsimp only at hSw); go_simp <;> with_reducible rfl)
      try simp only [Act.put, List.setIfInBounds_toArray, List.set_cons_zero, List.set_cons_succ]
      refine wpAnyH_take (i := 13) (v := ?vvq12) (gOfK rfl) (by kernel_rfl) (by kernel_rfl) (by kernel_rfl) (fun _ _ _ h => h) (Or.inl ⟨by rfl, ?hyq12⟩) (by assumption) ?_
      case hyq12 => (intro w hSw; (try dsimp only at hSw); go_simp <;> with_reducible rfl)
      try simp only [Act.put, List.setIfInBounds_toArray, List.set_cons_zero, List.set_cons_succ]
      refine wpAnyH_ready (rs := [14]) (by kernel_rfl) (by simp) ?_
      refine AllReadyH.cons (gOfK rfl) (fun Kfq3 hKq3 => ?stq3) ?moq3
      case stq3 =>
       go_simp
       refine (rat_small_any s 1 xs _ HS.out (by decide) (by decide) hx).mono ?_
       rintro eq3 Wq3 ⟨se, Ae, ne, ce, ze, Be, me, de, rfl, Iq3, Jq3, hbq3⟩
       have Kq3 := ((Kq2.next hbq3).int Jq3).int Iq3
       clear Iq3 Jq3 hbq3
       refine hKq3.out _ _ (Kq3.blk (mE 0 rfl)).c16 (fun Hq3 => ?_)
       clear hKq3 Kfq3 Hq2 Kq2
       try simp only [Act.put, List.setIfInBounds_toArray, List.set_cons_zero, List.set_cons_succ]
       refine wpAnyH_ready (rs := [15]) (by kernel_rfl) (by simp) ?_
       refine AllReadyH.cons (gOfK rfl) (fun Kfq4 hKq4 => ?stq4) ?moq4
       case stq4 =>
        go_simp
        refine (rat_cmp_any sa za Aa Ba na ca ma da se ze Ae Be ne ce me de xa xs va M 3 _ (Kq3.at_ (mE 2 rfl)) (Kq3.at_ (mE 3 rfl)) (Kq3.at_ (mE 0 rfl)) (Kq3.at_ (mE 1 rfl)) Ya.out XS.out (by omega) (Lib.hid hva)).mono ?_
        rintro eq4 Wq4 ⟨rfl, hbq4⟩
        have Kq4 := Kq3.next hbq4
        clear hbq4
        refine hKq4.out _ _ (Kq4.blk (mE 0 rfl)).c16 (fun Hq4 => ?_)
        clear hKq4 Kfq4 Hq3 Kq3
        try simp only [Act.put, List.setIfInBounds_toArray, List.set_cons_zero, List.set_cons_succ]
        refine wpAnyH_take (i := 16) (v := ?vvq13) (gOfK rfl) (by kernel_rfl) (by kernel_rfl) (by kernel_rfl) (fun _ _ _ h => h) (Or.inl ⟨by rfl, ?hyq13⟩) (by assumption) ?_
        case hyq13 => (intro w hSw; (try dsimp only at hSw); go_simp <;> with_reducible rfl)
        try simp only [Act.put, List.setIfInBounds_toArray, List.set_cons_zero, List.set_cons_succ]
        refine wpAnyH_take (i := 17) (v := ?vvq14) (gOfK rfl) (by kernel_rfl) (by kernel_rfl) (by kernel_rfl) (fun _ _ _ h => h) (Or.inl ⟨by rfl, ?hyq14⟩) (by assumption) ?_
        case hyq14 => (intro w hSw; (try dsimp only at hSw); go_simp <;> with_reducible rfl)
        try simp only [Act.put, List.setIfInBounds_toArray, List.set_cons_zero, List.set_cons_succ]
        refine wpAnyH_take (i := 18) (v := ?vvq15) (gOfK rfl) (by kernel_rfl) (by kernel_rfl) (by kernel_rfl) (fun _ _ _ h => h) (Or.inl ⟨by rfl, ?hyq15⟩) (by assumption) ?_
        case hyq15 => (intro w hSw; (try dsimp only at hSw); go_simp <;> with_reducible rfl)
        try simp only [Act.put, List.setIfInBounds_toArray, List.set_cons_zero, List.set_cons_succ]
        refine wpAnyH_take (i := 19) (v := undef) (gOfK rfl) (by kernel_rfl) (by kernel_rfl) (by kernel_rfl) (fun _ _ _ h => h) (Or.inr ⟨by rfl, rfl⟩) (by assumption) ?_
        try simp only [Act.put, List.setIfInBounds_toArray, List.set_cons_zero, List.set_cons_succ]
        refine wpAnyH_take (i := 20) (v := undef) (gOfK rfl) (by kernel_rfl) (by kernel_rfl) (by kernel_rfl) (fun _ _ _ h => h) (Or.inr ⟨by rfl, rfl⟩) (by assumption) ?_
        try simp only [Act.put, List.setIfInBounds_toArray, List.set_cons_zero, List.set_cons_succ]
        refine wpAnyH_take (i := 21) (v := undef) (gOfK rfl) (by kernel_rfl) (by kernel_rfl) (by kernel_rfl) (fun _ _ _ h => h) (Or.inr ⟨by rfl, rfl⟩) (by assumption) ?_
        try simp only [Act.put, List.setIfInBounds_toArray, List.set_cons_zero, List.set_cons_succ]
        refine wpAnyH_take (i := 22) (v := undef) (gOfK rfl) (by kernel_rfl) (by kernel_rfl) (by kernel_rfl) (fun _ _ _ h => h) (Or.inr ⟨by rfl, rfl⟩) (by assumption) ?_
        try simp only [Act.put, List.setIfInBounds_toArray, List.set_cons_zero, List.set_cons_succ]
        refine wpAnyH_take (i := 23) (v := undef) (gOfK rfl) (by kernel_rfl) (by kernel_rfl) (by kernel_rfl) (fun _ _ _ h => h) (Or.inr ⟨by rfl, rfl⟩) (by assumption) ?_
        try simp only [Act.put, List.setIfInBounds_toArray, List.set_cons_zero, List.set_cons_succ]
        refine wpAnyH_take (i := 24) (v := undef) (gOfK rfl) (by kernel_rfl) (by kernel_rfl) (by kernel_rfl) (fun _ _ _ h => h) (Or.inr ⟨by rfl, rfl⟩) (by assumption) ?_
        try simp only [Act.put, List.setIfInBounds_toArray, List.set_cons_zero, List.set_cons_succ]
        refine wpAnyH_take (i := 25) (v := ?vvq16) (gOfK rfl) (by kernel_rfl) (by kernel_rfl) (by kernel_rfl) (fun _ _ _ h => h) (Or.inl ⟨by rfl, ?hyq16⟩) (by assumption) ?_
        case hyq16 => (intro w hSw; (try dsimp only at hSw); go_simp <;> with_reducible rfl)
        try simp only [Act.put, List.setIfInBounds_toArray, List.set_cons_zero, List.set_cons_succ]
        refine wpAnyH_take (i := 26) (v := ?vvq17) (gOfK rfl) (by kernel_rfl) (by kernel_rfl) (by kernel_rfl) (fun _ _ _ h => h) (Or.inl ⟨by rfl, ?hyq17⟩) (by assumption) ?_
        case hyq17 => (intro w hSw; (try dsimp only at hSw); go_simp <;> with_reducible rfl)
        try simp only [Act.put, List.setIfInBounds_toArray, List.set_cons_zero, List.set_cons_succ]
        refine wpAnyH_done (by kernel_rfl) ?_ _
        (try refine NoPanic.normal ?_)
        go_wp2_with fail
        go_ret
        exact ⟨rfl, Kq4.1⟩
       exact AllReadyH.nil
      exact AllReadyH.nil
     exact AllReadyH.nil
    exact AllReadyH.nil
  ·obtain rfl : false = b := by rw [← HB, decide_eq_false h2]; simp
   have n2 : (vc == 0) = false := by rw [beq_eq_false_iff_ne]; exact h2
   clear HB
   (try refine wp_region_noPanic ?_)
   refine wp_region_held_drew (S := fun w' => w'.cell? ⟨w.heap.size, 0, none⟩ = some (.bool sa) ∧ w'.cell? ⟨w.heap.size, 1, none⟩ = some (.slice Aa na ca) ∧ w'.cell? ⟨w.heap.size, 2, none⟩ = some (.bool za) ∧ w'.cell? ⟨w.heap.size, 3, none⟩ = some (.slice Ba ma da) ∧ w'.cell? ⟨w.heap.size, 4, none⟩ = some (.bool sb) ∧ w'.cell? ⟨w.heap.size, 5, none⟩ = some (.slice Ab nb cb) ∧ w'.cell? ⟨w.heap.size, 6, none⟩ = some (.bool zb) ∧ w'.cell? ⟨w.heap.size, 7, none⟩ = some (.slice Bb mb db) ∧ w'.cell? ⟨w.heap.size, 8, none⟩ = some (.bool sc) ∧ w'.cell? ⟨w.heap.size, 9, none⟩ = some (.slice Ac nc cc) ∧ w'.cell? ⟨w.heap.size, 10, none⟩ = some (.bool zc) ∧ w'.cell? ⟨w.heap.size, 11, none⟩ = some (.slice Bc mc dc) ∧ w'.cell? ⟨w.heap.size, 12, none⟩ = some (.bool sd) ∧ w'.cell? ⟨w.heap.size, 13, none⟩ = some (.slice Ad nd cd) ∧ w'.cell? ⟨w.heap.size, 14, none⟩ = some (.bool zd) ∧ w'.cell? ⟨w.heap.size, 15, none⟩ = some (.slice Bd md dd)) (by kernel_rfl) (K0.blk (mE 0 rfl)).c16 (fun H0r => ?_)
   have K0r := K0.drew
   clear K0
   generalize w0.drew = W0r at K0r H0r ⊢
   refine wpAnyH_take (i := 0) (v := ?vvr1) (gOfK rfl) (by kernel_rfl) (by kernel_rfl) (by kernel_rfl) (fun _ _ _ h => h) (Or.inl ⟨by rfl, ?hyr1⟩) (by assumption) ?_
   case hyr1 => (intro w hSw; (try dsimp only at hSw); go_simp <;> with_reducible rfl)
   try simp only [Act.put, List.setIfInBounds_toArray, List.set_cons_zero, List.set_cons_succ]
   refine wpAnyH_take (i := 1) (v := ?vvr2) (gOfK rfl) (by kernel_rfl) (by kernel_rfl) (by kernel_rfl) (fun _ _ _ h => h) (Or.inl ⟨by rfl, ?hyr2⟩) (by assumption) ?_
   case hyr2 => (intro w hSw; (try dsimp only at hSw); go_simp <;> with_reducible rfl)
   try simp only [Act.put, List.setIfInBounds_toArray, List.set_cons_zero, List.set_cons_succ]
   refine wpAnyH_ready (rs := [2]) (by kernel_rfl) (by simp) ?_
   refine AllReadyH.cons (gOfK rfl) (fun Kfr1 hKr1 => ?str1) ?mor1
   case str1 =>
    go_simp
    refine (rat_sign_any sb zb Ab Bb nb cb mb db xb 0 _ (K0r.at_ (mE 2 rfl)) (K0r.at_ (mE 3 rfl)) (Lib.hid (hvb.trans h1))).mono ?_
    rintro er1 Wr1 ⟨rfl, hbr1⟩
    have Kr1 := K0r.next hbr1
    clear hbr1
    refine hKr1.out _ _ (Kr1.blk (mE 0 rfl)).c16 (fun Hr1 => ?_)
    clear hKr1 Kfr1 H0r K0r
    try simp only [Act.put, List.setIfInBounds_toArray, List.set_cons_zero, List.set_cons_succ]
    refine wpAnyH_take (i := 3) (v := ?vvr3) (gOfK rfl) (by kernel_rfl) (by kernel_rfl) (by kernel_rfl) (fun _ _ _ h => h) (Or.inl ⟨by rfl, ?hyr3⟩) (by assumption) ?_
    case hyr3 => (intro w hSw; (try dsimp only at hSw); go_simp <;> with_reducible rfl)
    try simp only [Act.put, List.setIfInBounds_toArray, List.set_cons_zero, List.set_cons_succ]
    refine wpAnyH_take (i := 4) (v := ?vvr4) (gOfK rfl) (by kernel_rfl) (by kernel_rfl) (by kernel_rfl) (fun _ _ _ h => h) (Or.inl ⟨by rfl, ?hyr4⟩) (by assumption) ?_
    case hyr4 => (intro w hSw; (try dsimp only at hSw); go_simp <;> with_reducible rfl)
    try simp only [Act.put, List.setIfInBounds_toArray, List.set_cons_zero, List.set_cons_succ]
    refine wpAnyH_take (i := 5) (v := ?vvr5) (gOfK rfl) (by kernel_rfl) (by kernel_rfl) (by kernel_rfl) (fun _ _ _ h => h) (Or.inl ⟨by rfl, ?hyr5⟩) (by assumption) ?_
    case hyr5 => (intro w hSw; (try dsimp only at hSw); go_simp <;> with_reducible rfl)
    try simp only [Act.put, List.setIfInBounds_toArray, List.set_cons_zero, List.set_cons_succ]
    refine wpAnyH_take (i := 6) (v := ?vvr6) (gOfK rfl) (by kernel_rfl) (by kernel_rfl) (by kernel_rfl) (fun _ _ _ h => h) (Or.inl ⟨by rfl, ?hyr6⟩) (by assumption) ?_
    case hyr6 => (intro w hSw; (try dsimp only at hSw); go_simp <;> with_reducible rfl)
    try simp only [Act.put, List.setIfInBounds_toArray, List.set_cons_zero, List.set_cons_succ]
    refine wpAnyH_ready (rs := [7]) (by kernel_rfl) (by simp) ?_
    refine AllReadyH.cons (gOfK rfl) (fun Kfr2 hKr2 => ?str2) ?mor2
    case str2 =>
     go_simp
     refine (rat_sign_any sc zc Ac Bc nc cc mc dc xc vc _ (Kr1.at_ (mE 4 rfl)) (Kr1.at_ (mE 5 rfl)) (Lib.hid hvc)).mono ?_
     rintro er2 Wr2 ⟨rfl, hbr2⟩
     have Kr2 := Kr1.next hbr2
     clear hbr2
     refine hKr2.out _ _ (Kr2.blk (mE 0 rfl)).c16 (fun Hr2 => ?_)
     clear hKr2 Kfr2 Hr1 Kr1
     try simp only [Act.put, List.setIfInBounds_toArray, List.set_cons_zero, List.set_cons_succ]
     refine wpAnyH_take (i := 8) (v := ?vvr7) (gOfK rfl) (by kernel_rfl) (by kernel_rfl) (by kernel_rfl) (fun _ _ _ h => h) (Or.inl ⟨by rfl, ?hyr7⟩) (by assumption) ?_
     case hyr7 => (intro w hSw; (try dsimp only at hSw); go_simp <;> with_reducible rfl)
     try simp only [Act.put, List.setIfInBounds_toArray, List.set_cons_zero, List.set_cons_succ]
     refine wpAnyH_take (i := 9) (v := ?vvr8) (gOfK rfl) (by kernel_rfl) (by kernel_rfl) (by kernel_rfl) (fun _ _ _ h => h) (Or.inl ⟨by rfl, ?hyr8⟩) (by assumption) ?_
     case hyr8 => (intro w hSw; (try dsimp only at hSw); go_simp <;> with_reducible rfl)
     try simp only [Act.put, List.setIfInBounds_toArray, List.set_cons_zero, List.set_cons_succ]
     refine wpAnyH_take (i := 10) (v := ?vvr9) (gOfK rfl) (by kernel_rfl) (by kernel_rfl) (by kernel_rfl) (fun _ _ _ h => h) (Or.inl ⟨by rfl, ?hyr9⟩) (by assumption) ?_
     case hyr9 => (intro w hSw; (try dsimp only at hSw); go_simp <;> with_reducible rfl)
     try simp only [Act.put, List.setIfInBounds_toArray, List.set_cons_zero, List.set_cons_succ]
     refine wpAnyH_take (i := 11) (v := undef) (gOfK rfl) (by kernel_rfl) (by kernel_rfl) (by kernel_rfl) (fun _ _ _ h => h) (Or.inr ⟨by rfl, rfl⟩) (by assumption) ?_
     try simp only [Act.put, List.setIfInBounds_toArray, List.set_cons_zero, List.set_cons_succ]
     refine wpAnyH_take (i := 12) (v := undef) (gOfK rfl) (by kernel_rfl) (by kernel_rfl) (by kernel_rfl) (fun _ _ _ h => h) (Or.inr ⟨by rfl, rfl⟩) (by assumption) ?_
     try simp only [Act.put, List.setIfInBounds_toArray, List.set_cons_zero, List.set_cons_succ]
     refine wpAnyH_take (i := 13) (v := undef) (gOfK rfl) (by kernel_rfl) (by kernel_rfl) (by kernel_rfl) (fun _ _ _ h => h) (Or.inr ⟨by rfl, rfl⟩) (by assumption) ?_
     try simp only [Act.put, List.setIfInBounds_toArray, List.set_cons_zero, List.set_cons_succ]
     refine wpAnyH_take (i := 14) (v := undef) (gOfK rfl) (by kernel_rfl) (by kernel_rfl) (by kernel_rfl) (fun _ _ _ h => h) (Or.inr ⟨by rfl, rfl⟩) (by assumption) ?_
     try simp only [Act.put, List.setIfInBounds_toArray, List.set_cons_zero, List.set_cons_succ]
     refine wpAnyH_take (i := 15) (v := undef) (gOfK rfl) (by kernel_rfl) (by kernel_rfl) (by kernel_rfl) (fun _ _ _ h => h) (Or.inr ⟨by rfl, rfl⟩) (by assumption) ?_
     try simp only [Act.put, List.setIfInBounds_toArray, List.set_cons_zero, List.set_cons_succ]
     refine wpAnyH_take (i := 16) (v := undef) (gOfK rfl) (by kernel_rfl) (by kernel_rfl) (by kernel_rfl) (fun _ _ _ h => h) (Or.inr ⟨by rfl, rfl⟩) (by assumption) ?_
     try simp only [Act.put, List.setIfInBounds_toArray, List.set_cons_zero, List.set_cons_succ]
     refine wpAnyH_take (i := 17) (v := ?vvr10) (gOfK rfl) (by kernel_rfl) (by kernel_rfl) (by kernel_rfl) (fun _ _ _ h => h) (Or.inl ⟨by rfl, ?hyr10⟩) (by assumption) ?_
     case hyr10 => (intro w hSw; (try dsimp only at hSw); go_simp <;> with_reducible rfl)
     try simp only [Act.put, List.setIfInBounds_toArray, List.set_cons_zero, List.set_cons_succ]
     refine wpAnyH_take (i := 18) (v := ?vvr11) (gOfK rfl) (by kernel_rfl) (by kernel_rfl) (by kernel_rfl) (fun _ _ _ h => h) (Or.inl ⟨by rfl, ?hyr11⟩) (by assumption) ?_
     case hyr11 => (intro w hSw; (try dsimp only at hSw); go_simp <;> with_reducible rfl)
     try simp only [Act.put, List.setIfInBounds_toArray, List.set_cons_zero, List.set_cons_succ]
     refine wpAnyH_take (i := 19) (v := undef) (gOfK rfl) (by kernel_rfl) (by kernel_rfl) (by kernel_rfl) (fun _ _ _ h => h) (Or.inr ⟨by rfl, rfl⟩) (by assumption) ?_
     try simp only [Act.put, List.setIfInBounds_toArray, List.set_cons_zero, List.set_cons_succ]
     refine wpAnyH_take (i := 20) (v := undef) (gOfK rfl) (by kernel_rfl) (by kernel_rfl) (by kernel_rfl) (fun _ _ _ h => h) (Or.inr ⟨by rfl, rfl⟩) (by assumption) ?_
     try simp only [Act.put, List.setIfInBounds_toArray, List.set_cons_zero, List.set_cons_succ]
     refine wpAnyH_take (i := 21) (v := undef) (gOfK rfl) (by kernel_rfl) (by kernel_rfl) (by kernel_rfl) (fun _ _ _ h => h) (Or.inr ⟨by rfl, rfl⟩) (by assumption) ?_
     try simp only [Act.put, List.setIfInBounds_toArray, List.set_cons_zero, List.set_cons_succ]
     refine wpAnyH_take (i := 22) (v := undef) (gOfK rfl) (by kernel_rfl) (by kernel_rfl) (by kernel_rfl) (fun _ _ _ h => h) (Or.inr ⟨by rfl, rfl⟩) (by assumption) ?_
     try simp only [Act.put, List.setIfInBounds_toArray, List.set_cons_zero, List.set_cons_succ]
     refine wpAnyH_take (i := 23) (v := undef) (gOfK rfl) (by kernel_rfl) (by kernel_rfl) (by kernel_rfl) (fun _ _ _ h => h) (Or.inr ⟨by rfl, rfl⟩) (by assumption) ?_
     try simp only [Act.put, List.setIfInBounds_toArray, List.set_cons_zero, List.set_cons_succ]
     refine wpAnyH_take (i := 24) (v := undef) (gOfK rfl) (by kernel_rfl) (by kernel_rfl) (by kernel_rfl) (fun _ _ _ h => h) (Or.inr ⟨by rfl, rfl⟩) (by assumption) ?_
     try simp only [Act.put, List.setIfInBounds_toArray, List.set_cons_zero, List.set_cons_succ]
     refine wpAnyH_take (i := 25) (v := ?vvr12) (gOfK rfl) (by kernel_rfl) (by kernel_rfl) (by kernel_rfl) (fun _ _ _ h => h) (Or.inl ⟨by rfl, ?hyr12⟩) (by assumption) ?_
     case hyr12 => (intro w hSw; (try dsimp only at hSw); go_simp <;> with_reducible rfl)
     try simp only [Act.put, List.setIfInBounds_toArray, List.set_cons_zero, List.set_cons_succ]
     refine wpAnyH_take (i := 26) (v := ?vvr13) (gOfK rfl) (by kernel_rfl) (by kernel_rfl) (by kernel_rfl) (fun _ _ _ h => h) (Or.inl ⟨by rfl, ?hyr13⟩) (by assumption) ?_
     case hyr13 => (intro w hSw; (try dsimp only at hSw); go_simp <;> with_reducible rfl)
     try simp only [Act.put, List.setIfInBounds_toArray, List.set_cons_zero, List.set_cons_succ]
     refine wpAnyH_done (by kernel_rfl) ?_ _
     (try refine NoPanic.normal ?_)
     go_wp2_with fail
     go_ret
     exact ⟨rfl, Kr2.1⟩
    exact AllReadyH.nil
   exact AllReadyH.nil
 ·obtain rfl : false = b := by rw [← HB, decide_eq_false h1]; simp
  have n1 : (vb == 0) = false := by rw [beq_eq_false_iff_ne]; exact h1
  clear HB
  (try refine wp_region_noPanic ?_)
  refine wp_region_held_drew (S := fun w' => w'.cell? ⟨w.heap.size, 0, none⟩ = some (.bool sa) ∧ w'.cell? ⟨w.heap.size, 1, none⟩ = some (.slice Aa na ca) ∧ w'.cell? ⟨w.heap.size, 2, none⟩ = some (.bool za) ∧ w'.cell? ⟨w.heap.size, 3, none⟩ = some (.slice Ba ma da) ∧ w'.cell? ⟨w.heap.size, 4, none⟩ = some (.bool sb) ∧ w'.cell? ⟨w.heap.size, 5, none⟩ = some (.slice Ab nb cb) ∧ w'.cell? ⟨w.heap.size, 6, none⟩ = some (.bool zb) ∧ w'.cell? ⟨w.heap.size, 7, none⟩ = some (.slice Bb mb db) ∧ w'.cell? ⟨w.heap.size, 8, none⟩ = some (.bool sc) ∧ w'.cell? ⟨w.heap.size, 9, none⟩ = some (.slice Ac nc cc) ∧ w'.cell? ⟨w.heap.size, 10, none⟩ = some (.bool zc) ∧ w'.cell? ⟨w.heap.size, 11, none⟩ = some (.slice Bc mc dc) ∧ w'.cell? ⟨w.heap.size, 12, none⟩ = some (.bool sd) ∧ w'.cell? ⟨w.heap.size, 13, none⟩ = some (.slice Ad nd cd) ∧ w'.cell? ⟨w.heap.size, 14, none⟩ = some (.bool zd) ∧ w'.cell? ⟨w.heap.size, 15, none⟩ = some (.slice Bd md dd)) (by kernel_rfl) (K0.blk (mE 0 rfl)).c16 (fun H0t => ?_)
  have K0t := K0.drew
  clear K0
  generalize w0.drew = W0t at K0t H0t ⊢
  refine wpAnyH_take (i := 0) (v := ?vvt1) (gOfK rfl) (by kernel_rfl) (by kernel_rfl) (by kernel_rfl) (fun _ _ _ h => h) (Or.inl ⟨by rfl, ?hyt1⟩) (by assumption) ?_
  case hyt1 => (intro w hSw; (try dsimp only at hSw); go_simp <;> with_reducible rfl)
  try simp only [Act.put, List.setIfInBounds_toArray, List.set_cons_zero, List.set_cons_succ]
  refine wpAnyH_take (i := 1) (v := ?vvt2) (gOfK rfl) (by kernel_rfl) (by kernel_rfl) (by kernel_rfl) (fun _ _ _ h => h) (Or.inl ⟨by rfl, ?hyt2⟩) (by assumption) ?_
  case hyt2 => (intro w hSw; (try dsimp only at hSw); go_simp <;> with_reducible rfl)
  try simp only [Act.put, List.setIfInBounds_toArray, List.set_cons_zero, List.set_cons_succ]
  refine wpAnyH_ready (rs := [2]) (by kernel_rfl) (by simp) ?_
  refine AllReadyH.cons (gOfK rfl) (fun Kft1 hKt1 => ?stt1) ?mot1
  case stt1 =>
   go_simp
   refine (rat_sign_any sb zb Ab Bb nb cb mb db xb vb _ (K0t.at_ (mE 2 rfl)) (K0t.at_ (mE 3 rfl)) (Lib.hid hvb)).mono ?_
   rintro et1 Wt1 ⟨rfl, hbt1⟩
   have Kt1 := K0t.next hbt1
   clear hbt1
   refine hKt1.out _ _ (Kt1.blk (mE 0 rfl)).c16 (fun Ht1 => ?_)
   clear hKt1 Kft1 H0t K0t
   try simp only [Act.put, List.setIfInBounds_toArray, List.set_cons_zero, List.set_cons_succ]
   refine wpAnyH_take (i := 3) (v := ?vvt3) (gOfK rfl) (by kernel_rfl) (by kernel_rfl) (by kernel_rfl) (fun _ _ _ h => h) (Or.inl ⟨by rfl, ?hyt3⟩) (by assumption) ?_
   case hyt3 => (intro w hSw; (try dsimp only at hSw); go_simp <;> with_reducible rfl)
   try simp only [Act.put, List.setIfInBounds_toArray, List.set_cons_zero, List.set_cons_succ]
   refine wpAnyH_take (i := 4) (v := ?vvt4) (gOfK rfl) (by kernel_rfl) (by kernel_rfl) (by kernel_rfl) (fun _ _ _ h => h) (Or.inl ⟨by rfl, ?hyt4⟩) (by assumption) ?_
   case hyt4 => (intro w hSw; (try dsimp only at hSw); go_simp <;> with_reducible rfl)
   try simp only [Act.put, List.setIfInBounds_toArray, List.set_cons_zero, List.set_cons_succ]
   refine wpAnyH_take (i := 5) (v := undef) (gOfK rfl) (by kernel_rfl) (by kernel_rfl) (by kernel_rfl) (fun _ _ _ h => h) (Or.inr ⟨by rfl, rfl⟩) (by assumption) ?_
   try simp only [Act.put, List.setIfInBounds_toArray, List.set_cons_zero, List.set_cons_succ]
   refine wpAnyH_take (i := 6) (v := undef) (gOfK rfl) (by kernel_rfl) (by kernel_rfl) (by kernel_rfl) (fun _ _ _ h => h) (Or.inr ⟨by rfl, rfl⟩) (by assumption) ?_
   try simp only [Act.put, List.setIfInBounds_toArray, List.set_cons_zero, List.set_cons_succ]
   refine wpAnyH_take (i := 7) (v := undef) (gOfK rfl) (by kernel_rfl) (by kernel_rfl) (by kernel_rfl) (fun _ _ _ h => h) (Or.inr ⟨by rfl, rfl⟩) (by assumption) ?_
   try simp only [Act.put, List.setIfInBounds_toArray, List.set_cons_zero, List.set_cons_succ]
   refine wpAnyH_take (i := 8) (v := undef) (gOfK rfl) (by kernel_rfl) (by kernel_rfl) (by kernel_rfl) (fun _ _ _ h => h) (Or.inr ⟨by rfl, rfl⟩) (by assumption) ?_
   try simp only [Act.put, List.setIfInBounds_toArray, List.set_cons_zero, List.set_cons_succ]
   refine wpAnyH_take (i := 9) (v := ?vvt5) (gOfK rfl) (by kernel_rfl) (by kernel_rfl) (by kernel_rfl) (fun _ _ _ h => h) (Or.inl ⟨by rfl, ?hyt5⟩) (by assumption) ?_
   case hyt5 => (intro w hSw; (try dsimp only at hSw); go_simp <;> with_reducible rfl)
   try simp only [Act.put, List.setIfInBounds_toArray, List.set_cons_zero, List.set_cons_succ]
   refine wpAnyH_take (i := 10) (v := ?vvt6) (gOfK rfl) (by kernel_rfl) (by kernel_rfl) (by kernel_rfl) (fun _ _ _ h => h) (Or.inl ⟨by rfl, ?hyt6⟩) (by assumption) ?_
   case hyt6 => (intro w hSw; (try dsimp only at hSw); go_simp <;> with_reducible rfl)
   try simp only [Act.put, List.setIfInBounds_toArray, List.set_cons_zero, List.set_cons_succ]
   refine wpAnyH_take (i := 11) (v := undef) (gOfK rfl) (by kernel_rfl) (by kernel_rfl) (by kernel_rfl) (fun _ _ _ h => h) (Or.inr ⟨by rfl, rfl⟩) (by assumption) ?_
   try simp only [Act.put, List.setIfInBounds_toArray, List.set_cons_zero, List.set_cons_succ]
   refine wpAnyH_take (i := 12) (v := undef) (gOfK rfl) (by kernel_rfl) (by kernel_rfl) (by kernel_rfl) (fun _ _ _ h => h) (Or.inr ⟨by rfl, rfl⟩) (by assumption) ?_
   try simp only [Act.put, List.setIfInBounds_toArray, List.set_cons_zero, List.set_cons_succ]
   refine wpAnyH_take (i := 13) (v := undef) (gOfK rfl) (by kernel_rfl) (by kernel_rfl) (by kernel_rfl) (fun _ _ _ h => h) (Or.inr ⟨by rfl, rfl⟩) (by assumption) ?_
   try simp only [Act.put, List.setIfInBounds_toArray, List.set_cons_zero, List.set_cons_succ]
   refine wpAnyH_take (i := 14) (v := undef) (gOfK rfl) (by kernel_rfl) (by kernel_rfl) (by kernel_rfl) (fun _ _ _ h => h) (Or.inr ⟨by rfl, rfl⟩) (by assumption) ?_
   try simp only [Act.put, List.setIfInBounds_toArray, List.set_cons_zero, List.set_cons_succ]
   refine wpAnyH_take (i := 15) (v := undef) (gOfK rfl) (by kernel_rfl) (by kernel_rfl) (by kernel_rfl) (fun _ _ _ h => h) (Or.inr ⟨by rfl, rfl⟩) (by assumption) ?_
   try simp only [Act.put, List.setIfInBounds_toArray, List.set_cons_zero, List.set_cons_succ]
   refine wpAnyH_take (i := 16) (v := undef) (gOfK rfl) (by kernel_rfl) (by kernel_rfl) (by kernel_rfl) (fun _ _ _ h => h) (Or.inr ⟨by rfl, rfl⟩) (by assumption) ?_
   try simp only [Act.put, List.setIfInBounds_toArray, List.set_cons_zero, List.set_cons_succ]
   refine wpAnyH_take (i := 17) (v := ?vvt7) (gOfK rfl) (by kernel_rfl) (by kernel_rfl) (by kernel_rfl) (fun _ _ _ h => h) (Or.inl ⟨by rfl, ?hyt7⟩) (by assumption) ?_
   case hyt7 => (intro w hSw; (try dsimp only at hSw); go_simp <;> with_reducible rfl)
   try simp only [Act.put, List.setIfInBounds_toArray, List.set_cons_zero, List.set_cons_succ]
   refine wpAnyH_take (i := 18) (v := ?vvt8) (gOfK rfl) (by kernel_rfl) (by kernel_rfl) (by kernel_rfl) (fun _ _ _ h => h) (Or.inl ⟨by rfl, ?hyt8⟩) (by assumption) ?_
   case hyt8 => (intro w hSw; (try dsimp only at hSw); go_simp <;> with_reducible rfl)
   try simp only [Act.put, List.setIfInBounds_toArray, List.set_cons_zero, List.set_cons_succ]
   refine wpAnyH_take (i := 19) (v := undef) (gOfK rfl) (by kernel_rfl) (by kernel_rfl) (by kernel_rfl) (fun _ _ _ h => h) (Or.inr ⟨by rfl, rfl⟩) (by assumption) ?_
   try simp only [Act.put, List.setIfInBounds_toArray, List.set_cons_zero, List.set_cons_succ]
   refine wpAnyH_take (i := 20) (v := undef) (gOfK rfl) (by kernel_rfl) (by kernel_rfl) (by kernel_rfl) (fun _ _ _ h => h) (Or.inr ⟨by rfl, rfl⟩) (by assumption) ?_
   try simp only [Act.put, List.setIfInBounds_toArray, List.set_cons_zero, List.set_cons_succ]
   refine wpAnyH_take (i := 21) (v := undef) (gOfK rfl) (by kernel_rfl) (by kernel_rfl) (by kernel_rfl) (fun _ _ _ h => h) (Or.inr ⟨by rfl, rfl⟩) (by assumption) ?_
   try simp only [Act.put, List.setIfInBounds_toArray, List.set_cons_zero, List.set_cons_succ]
   refine wpAnyH_take (i := 22) (v := undef) (gOfK rfl) (by kernel_rfl) (by kernel_rfl) (by kernel_rfl) (fun _ _ _ h => h) (Or.inr ⟨by rfl, rfl⟩) (by assumption) ?_
   try simp only [Act.put, List.setIfInBounds_toArray, List.set_cons_zero, List.set_cons_succ]
   refine wpAnyH_take (i := 23) (v := undef) (gOfK rfl) (by kernel_rfl) (by kernel_rfl) (by kernel_rfl) (fun _ _ _ h => h) (Or.inr ⟨by rfl, rfl⟩) (by assumption) ?_
   try simp only [Act.put, List.setIfInBounds_toArray, List.set_cons_zero, List.set_cons_succ]
   refine wpAnyH_take (i := 24) (v := undef) (gOfK rfl) (by kernel_rfl) (by kernel_rfl) (by kernel_rfl) (fun _ _ _ h => h) (Or.inr ⟨by rfl, rfl⟩) (by assumption) ?_
   try simp only [Act.put, List.setIfInBounds_toArray, List.set_cons_zero, List.set_cons_succ]
   refine wpAnyH_take (i := 25) (v := ?vvt9) (gOfK rfl) (by kernel_rfl) (by kernel_rfl) (by kernel_rfl) (fun _ _ _ h => h) (Or.inl ⟨by rfl, ?hyt9⟩) (by assumption) ?_
   case hyt9 => (intro w hSw; (try dsimp only at hSw); go_simp <;> with_reducible rfl)
   try simp only [Act.put, List.setIfInBounds_toArray, List.set_cons_zero, List.set_cons_succ]
   refine wpAnyH_take (i := 26) (v := ?vvt10) (gOfK rfl) (by kernel_rfl) (by kernel_rfl) (by kernel_rfl) (fun _ _ _ h => h) (Or.inl ⟨by rfl, ?hyt10⟩) (by assumption) ?_
   case hyt10 => (intro w hSw; (try dsimp only at hSw); go_simp <;> with_reducible rfl)
   try simp only [Act.put, List.setIfInBounds_toArray, List.set_cons_zero, List.set_cons_succ]
   refine wpAnyH_done (by kernel_rfl) ?_ _
   (try refine NoPanic.normal ?_)
   go_wp2_with fail
   go_ret
   exact ⟨rfl, Kt1.1⟩
  exact AllReadyH.nil
end Go.Proofs.YtgekmbfmfiikkaaGreatDoor
