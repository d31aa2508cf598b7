import Derived.Test.YteljonodbkkckaaAvX
import Derived.Test.YteljonodbkkckaaProg
import Derived.Tactics
namespace Go.Proofs.Yteljonodbkkckaa.Av
open Go Go.Proofs
/-- what the closed part of a law comes to -/
def awakeF : Option Bool := some true
theorem awake49_ret (r : Bool) (h : awakeF = some r) : Ret Try.prog G0 13 [] (.bool r) [] := by
  cases h
  exact Ret.of_view 10000 [] [] (ps := []) (by kernel_rfl) (by kernel_rfl) trivial
theorem awake24_ret (r : Bool) (h : awakeF = some r) : Ret Try.prog G0 18 [] (.bool r) [] := by
  cases h
  exact Ret.of_view 10000 [] [] (ps := []) (by kernel_rfl) (by kernel_rfl) trivial
end Go.Proofs.Yteljonodbkkckaa.Av
