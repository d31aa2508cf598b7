import Derived.Test.YtabjlmlfmafllaaAvX
import Derived.Test.YtabjlmlfmafllaaProg
import Derived.Tactics
set_option linter.unusedVariables false
namespace Go.Proofs.Ytabjlmlfmafllaa.Av
open Go Go.Proofs
/-- what the closed part of a law comes to -/
def awakeF : Option Bool := some true
theorem awake24_ret (r : Bool) (h : awakeF = some r) : Ret Try.prog G0 9 [] (.bool r) [] := by
  cases h
  exact Ret.of_view 10000 [] [] (ps := []) (by kernel_rfl) (by kernel_rfl) trivial
/-- a function of which nothing is told (the law never comes to it) -/
def noF (x : Int) : Option Int := none
theorem noLZ (x : Int) (r : Int) (h : noF x = some r) : Ret Try.prog G0 55 [.int .u64 x] (.int .i64 r) [] := by cases h
end Go.Proofs.Ytabjlmlfmafllaa.Av
