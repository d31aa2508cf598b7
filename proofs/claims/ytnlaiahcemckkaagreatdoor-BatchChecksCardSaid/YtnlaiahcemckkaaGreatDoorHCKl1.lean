import Derived.Test.YtnlaiahcemckkaaGreatDoorHCKt
open Prod (fst)
open Int (tdiv tmod)
set_option maxRecDepth 1000000
set_option linter.unusedVariables false
namespace Go.Proofs.YtnlaiahcemckkaaGreatDoor.Av
open Go Go.Proofs
theorem GwP:Hz (Gkh Tryz.prog MJ) 320 80=true:=by kernel_rfl
theorem GwO:Hz (Gkh Tryz.prog MJ) 400 80=true:=by kernel_rfl
theorem GwJ:Hz (Gkh Tryz.prog MJ) 480 80=true:=by kernel_rfl
theorem GwH:Hz (Gkh Tryz.prog MJ) 560 80=true:=by kernel_rfl
end Go.Proofs.YtnlaiahcemckkaaGreatDoor.Av
