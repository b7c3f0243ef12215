/-
  ModeKept answers true.
-/
import Derived.Test.YtgekmbfmfiikkaaGreatDoorMaR
import Derived.Test.YtgekmbfmfiikkaaGreatDoorExFf
import Derived.Test.YtgekmbfmfiikkaaGreatDoorOwI
import Derived.Test.YtgekmbfmfiikkaaGreatDoorExX
import Derived.Test.YtgekmbfmfiikkaaGreatDoorRootR
namespace Go.Proofs.YtgekmbfmfiikkaaGreatDoor
open Go.RowKit

theorem matrix_cost_of (sa za : Bool) (Aa Ba : Option Addr) (na ca ma da : Nat) (sb zb : Bool) (Ab Bb : Option Addr) (nb cb mb db : Nat) (sc zc : Bool) (Ac Bc : Option Addr) (nc cc mc dc : Nat) (sd zd : Bool) (Ad Bd : Option Addr) (nd cd md dd : Nat) (p : Nat) (w : World) (hna : na ≤ 281474976710656) (hma : ma ≤ 281474976710656) (hnb : nb ≤ 281474976710656) (hmb : mb ≤ 281474976710656) (hnc : nc ≤ 281474976710656) (hmc : mc ≤ 281474976710656) (hnd : nd ≤ 281474976710656) (hmd : md ≤ 281474976710656) (hp : Hid (costFr na ma + costFr nb mb + costFr nc mc + costFr nd md = p)) :
  Calls Tryz.prog 9 #[.agg #[.bool sa, .slice Aa na ca, .bool za, .slice Ba ma da, .bool sb, .slice Ab nb cb, .bool zb, .slice Bb mb db, .bool sc, .slice Ac nc cc, .bool zc, .slice Bc mc dc, .bool sd, .slice Ad nd cd, .bool zd, .slice Bd md dd]] w (RetV w (.int .i64 ((p : Nat) : Int))) := by
 have h := matrix_cost_any sa za Aa Ba na ca ma da sb zb Ab Bb nb cb mb db sc zc Ac Bc nc cc mc dc sd zd Ad Bd nd cd md dd w hna hma hnb hmb hnc hmc hnd hmd
 rwa [hp.out] at h
theorem cost_low {n m : Nat} (h : costFr n m ≤ 1048576) : n ≤ 1000000000 ∧ m ≤ 1000000000 := by
 unfold costFr at h
 omega

end Go.Proofs.YtgekmbfmfiikkaaGreatDoor
