import Derived.Test.YteljonodbkkckaaAvX
import Derived.Test.YteljonodbkkckaaProg
import Derived.Tactics
namespace Go.Proofs.Yteljonodbkkckaa.Av
open Go Go.Proofs
/-- a function of which nothing is told (the law never comes to it) -/
def noF (x : Int) : Option Int := none
theorem noLZ (x : Int) (r : Int) (h : noF x = some r) : Ret Try.prog G0 93 [.int .u64 x] (.int .i64 r) [] := by cases h
end Go.Proofs.Yteljonodbkkckaa.Av
