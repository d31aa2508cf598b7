import Derived.Test.YteljonodbkkckaaDoorAvX
import Derived.Test.YteljonodbkkckaaDoorProg
import Derived.Tactics
namespace Go.Proofs.YteljonodbkkckaaDoor.Av
open Go Go.Proofs
/-- what the closed part of a law comes to -/
def awakeF : Option Bool := some true
theorem awake_ret (r : Bool) (h : awakeF = some r) : Ret Tryd.prog G0 8 [] (.bool r) [] := by
  cases h
  exact Ret.of_view 10000 [] [] (ps := []) (by kernel_rfl) (by kernel_rfl) trivial
end Go.Proofs.YteljonodbkkckaaDoor.Av
