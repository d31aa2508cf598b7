/- awake of law 47, as a contract. -/
import Derived.Test.YtnlaiahcemckkaaGreatDoorAvZ
import Derived.Test.YtnlaiahcemckkaaGreatDoorKBw
set_option linter.unusedVariables false
namespace Go.Proofs.YtnlaiahcemckkaaGreatDoor.Av
open Go Go.Proofs
def awakeF : Option Bool := some true
theorem awake47_ret (r : Bool) (h : awakeF = some r) : Ret Tryz.prog GT 5 [] (.bool r) [] := by
  obtain rfl := Option.some.inj h
  exact kb_awake
end Go.Proofs.YtnlaiahcemckkaaGreatDoor.Av
