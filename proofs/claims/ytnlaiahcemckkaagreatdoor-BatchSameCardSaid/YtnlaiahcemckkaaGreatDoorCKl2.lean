/- What functions name: some of them. -/
import Derived.Test.YtnlaiahcemckkaaGreatDoorCKt
set_option linter.unusedVariables false
set_option maxRecDepth 1000000
namespace Go.Proofs.YtnlaiahcemckkaaGreatDoor.Av
open Go Go.Proofs
theorem leads8 : allFrom (leadB Tryz.prog leadTab) 640 20 = true := by kernel_rfl
end Go.Proofs.YtnlaiahcemckkaaGreatDoor.Av
