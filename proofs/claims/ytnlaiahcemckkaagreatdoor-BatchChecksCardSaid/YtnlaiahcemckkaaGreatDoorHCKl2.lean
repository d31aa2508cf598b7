import Derived.Test.YtnlaiahcemckkaaGreatDoorHCKt
open Prod (fst)
open Int (tdiv tmod)
set_option maxRecDepth 1000000
set_option linter.unusedVariables false
namespace Go.Proofs.YtnlaiahcemckkaaGreatDoor.Av
open Go Go.Proofs
theorem GwF:Hz (Gkh Tryz.prog MJ) 640 20=true:=by kernel_rfl
end Go.Proofs.YtnlaiahcemckkaaGreatDoor.Av
