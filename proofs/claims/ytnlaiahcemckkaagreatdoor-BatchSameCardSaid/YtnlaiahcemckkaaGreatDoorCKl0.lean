/- What functions name: some of them. -/
import Derived.Test.YtnlaiahcemckkaaGreatDoorCKt
set_option linter.unusedVariables false
set_option maxRecDepth 1000000
namespace Go.Proofs.YtnlaiahcemckkaaGreatDoor.Av
open Go Go.Proofs
theorem leads0 : allFrom (leadB Tryz.prog leadTab) 0 80 = true := by kernel_rfl
theorem leads1 : allFrom (leadB Tryz.prog leadTab) 80 80 = true := by kernel_rfl
theorem leads2 : allFrom (leadB Tryz.prog leadTab) 160 80 = true := by kernel_rfl
theorem leads3 : allFrom (leadB Tryz.prog leadTab) 240 80 = true := by kernel_rfl
end Go.Proofs.YtnlaiahcemckkaaGreatDoor.Av
