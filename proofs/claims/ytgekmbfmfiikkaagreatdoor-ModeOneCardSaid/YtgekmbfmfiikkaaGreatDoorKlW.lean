/-
  ModeKept answers true.
-/
import Derived.Test.YtgekmbfmfiikkaaGreatDoorKlC
import Derived.Test.YtgekmbfmfiikkaaGreatDoorExZ
import Derived.Test.YtgekmbfmfiikkaaGreatDoorEyB
import Derived.Test.YtgekmbfmfiikkaaGreatDoorBey
import Derived.Test.YtgekmbfmfiikkaaGreatDoorLst
import Derived.Test.YtgekmbfmfiikkaaGreatDoorKpM
import Derived.Test.YtgekmbfmfiikkaaGreatDoorHaA
import Derived.Test.YtgekmbfmfiikkaaGreatDoorMeg
namespace Go.Proofs.YtgekmbfmfiikkaaGreatDoor
open Go.RowKit
theorem matrix_cost_of (sa za : Bool) (Aa Ba : Option Addr) (na ca ma da : Nat) (sb zb : Bool) (Ab Bb : Option Addr) (nb cb mb db : Nat) (sc zc : Bool) (Ac Bc : Option Addr) (nc cc mc dc : Nat) (sd zd : Bool) (Ad Bd : Option Addr) (nd cd md dd : Nat) (p : Nat) (w : World) (hna : na ≤ 281474976710656) (hma : ma ≤ 281474976710656) (hnb : nb ≤ 281474976710656) (hmb : mb ≤ 281474976710656) (hnc : nc ≤ 281474976710656) (hmc : mc ≤ 281474976710656) (hnd : nd ≤ 281474976710656) (hmd : md ≤ 281474976710656) (hp : Hid (costFr na ma + costFr nb mb + costFr nc mc + costFr nd md = p)) :
  Calls Tryz.prog 9 #[.agg #[.bool sa, .slice Aa na ca, .bool za, .slice Ba ma da, .bool sb, .slice Ab nb cb, .bool zb, .slice Bb mb db, .bool sc, .slice Ac nc cc, .bool zc, .slice Bc mc dc, .bool sd, .slice Ad nd cd, .bool zd, .slice Bd md dd]] w (RetV w (.int .i64 ((p : Nat) : Int))) := by
 have h := matrix_cost_any sa za Aa Ba na ca ma da sb zb Ab Bb nb cb mb db sc zc Ac Bc nc cc mc dc sd zd Ad Bd nd cd md dd w hna hma hnb hmb hnc hmc hnd hmd
 rwa [hp.out] at h
theorem gauss_cost_of (su zu : Bool) (Au Bu : Option Addr) (nu cu mu du : Nat) (sv zv : Bool) (Av Bv : Option Addr) (nv cv mv dv : Nat) (p : Nat) (w : World) (hnu : nu ≤ 281474976710656) (hmu : mu ≤ 281474976710656) (hnv : nv ≤ 281474976710656) (hmv : mv ≤ 281474976710656) (hp : Hid (costFr nu mu + costFr nv mv = p)) :
  Calls Tryz.prog 10 #[.agg #[.bool su, .slice Au nu cu, .bool zu, .slice Bu mu du, .bool sv, .slice Av nv cv, .bool zv, .slice Bv mv dv]] w (RetV w (.int .i64 ((p : Nat) : Int))) := by
 have h := gauss_cost_any su zu Au Bu nu cu mu du sv zv Av Bv nv cv mv dv w hnu hmu hnv hmv
 rwa [hp.out] at h
theorem cost_low {n m : Nat} (h : costFr n m ≤ 1048576) : n ≤ 1000000000 ∧ m ≤ 1000000000 := by
 unfold costFr at h
 omega
end Go.Proofs.YtgekmbfmfiikkaaGreatDoor
