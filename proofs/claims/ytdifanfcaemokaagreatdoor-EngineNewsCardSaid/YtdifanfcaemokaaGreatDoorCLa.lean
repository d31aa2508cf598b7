import Derived.Test.YtdifanfcaemokaaGreatDoorBCS
import Derived.DeepKeys4
open Prod (fst)
open Int (tdiv tmod)
set_option maxHeartbeats 4000000
set_option maxRecDepth 100000
namespace Go.Proofs.YtdifanfcaemokaaGreatDoor.Av
open Go Go.Proofs Go.ChangeShapes Go.WideShapes Go.RowKit
def Hv (p:Nat→Bool) (a:Nat):Nat→Bool
 | 0=>true
 | k+1=>p a&&Hv p (a+1) k
theorem GY {p:Nat→Bool}:∀ {k a:Nat},Hv p a k=true→∀ t,a≤t→t<a+k→p t=true
 | 0,a,_,t,h1,h2=>by omega
 | k+1,a,h,t,h1,h2=>by
  simp only [Hv,Bool.and_eq_true] at h
  by_cases e:t=a
  ·subst e; exact h.1
  ·exact GY h.2 t (by omega) (by omega)
end Go.Proofs.YtdifanfcaemokaaGreatDoor.Av
