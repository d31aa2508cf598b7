/- What functions name: some of them. -/
import Derived.Test.YtnlaiahcemckkaaGreatDoorCKt
set_option linter.unusedVariables false
set_option maxRecDepth 1000000
namespace Go.Proofs.YtnlaiahcemckkaaGreatDoor.Av
open Go Go.Proofs
theorem leads4 : allFrom (leadB Tryz.prog leadTab) 320 80 = true := by kernel_rfl
theorem leads5 : allFrom (leadB Tryz.prog leadTab) 400 80 = true := by kernel_rfl
theorem leads6 : allFrom (leadB Tryz.prog leadTab) 480 80 = true := by kernel_rfl
theorem leads7 : allFrom (leadB Tryz.prog leadTab) 560 80 = true := by kernel_rfl
end Go.Proofs.YtnlaiahcemckkaaGreatDoor.Av
