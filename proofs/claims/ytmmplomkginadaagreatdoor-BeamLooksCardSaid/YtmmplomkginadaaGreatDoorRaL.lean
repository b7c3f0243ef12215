/-
  The program's fractions (package ratio): turned, lowest terms.
-/
import Derived.Test.YtmmplomkginadaaGreatDoorOwC
import Derived.Test.YtmmplomkginadaaGreatDoorOwB
import Derived.Test.YtmmplomkginadaaGreatDoorEyT
import Derived.Test.YtmmplomkginadaaGreatDoorExT
import Derived.Test.YtmmplomkginadaaGreatDoorFrR
namespace Go.Proofs.YtmmplomkginadaaGreatDoor
open Go.RowKit

theorem ex_cmp_of (neg neg' : Bool) (A A' : Option Addr) (n c n' c' : Nat) (x y v : Int) (w : World) (hx : IsInt w neg A n c x) (hy : IsInt w neg' A' n' c' y) (hn : n ≤ 1000000000) (hn' : n' ≤ 1000000000) (hv : Hid (icmp x y = v)) :
    Calls Tryz.prog 232 #[.agg #[.bool neg, .slice A n c], .agg #[.bool neg', .slice A' n' c']] w (RetV w (.int .i64 v)) := by
  have h := ex_cmp_int neg neg' A A' n c n' c' x y w hx hy hn hn'
  rwa [hv.out] at h
theorem ex_sign_of (neg : Bool) (A : Option Addr) (n c : Nat) (z v : Int) (w : World) (h : IsInt w neg A n c z) (hv : Hid (z.sign = v)) :
    Calls Tryz.prog 188 #[.agg #[.bool neg, .slice A n c]] w (RetV w (.int .i64 v)) := by
  have k := ex_sign_any neg A n c z w h
  rwa [hv.out] at k

end Go.Proofs.YtmmplomkginadaaGreatDoor
