import Derived.Test.YtnlaiahcemckkaaGreatDoorHCKt
open Prod (fst)
open Int (tdiv tmod)
set_option maxRecDepth 1000000
set_option linter.unusedVariables false
namespace Go.Proofs.YtnlaiahcemckkaaGreatDoor.Av
open Go Go.Proofs
theorem Gw9:Hz (Gkh Tryz.prog MJ) 0 80=true:=by kernel_rfl
theorem GwK:Hz (Gkh Tryz.prog MJ) 80 80=true:=by kernel_rfl
theorem Gw3:Hz (Gkh Tryz.prog MJ) 160 80=true:=by kernel_rfl
theorem GwE:Hz (Gkh Tryz.prog MJ) 240 80=true:=by kernel_rfl
end Go.Proofs.YtnlaiahcemckkaaGreatDoor.Av
