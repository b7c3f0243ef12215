/-
  The program's fractions (package ratio): turned, lowest terms.
-/
import Derived.Test.YtjcjphgpmpjmbaaDoorExB
import Derived.Test.YtjcjphgpmpjmbaaDoorMem
import Derived.BigQuiet
import Derived.Laws.BitsLemmas
import Derived.Test.YtjcjphgpmpjmbaaDoorExW
import Derived.Test.YtjcjphgpmpjmbaaDoorEyT
import Derived.Test.YtjcjphgpmpjmbaaDoorExT
import Derived.Test.YtjcjphgpmpjmbaaDoorFrR
namespace Go.Proofs.YtjcjphgpmpjmbaaDoor
open Go.RowKit

theorem ex_cmp_of (neg neg' : Bool) (A A' : Option Addr) (n c n' c' : Nat) (x y v : Int) (w : World) (hx : IsInt w neg A n c x) (hy : IsInt w neg' A' n' c' y) (hn : n ≤ 1000000000) (hn' : n' ≤ 1000000000) (hv : Hid (icmp x y = v)) :
    Calls Tryd.prog 61 #[.agg #[.bool neg, .slice A n c], .agg #[.bool neg', .slice A' n' c']] w (RetV w (.int .i64 v)) := by
  have h := ex_cmp_int neg neg' A A' n c n' c' x y w hx hy hn hn'
  rwa [hv.out] at h
end Go.Proofs.YtjcjphgpmpjmbaaDoor
