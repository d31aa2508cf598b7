import Derived.Test.YtdifanfcaemokaaGreatDoorCKt
open Prod (fst)
open Int (tdiv tmod)
set_option maxRecDepth 1000000
set_option linter.unusedVariables false
namespace Go.Proofs.YtdifanfcaemokaaGreatDoor.Av
open Go Go.Proofs
theorem GAg:Hv (GjM Tryz.prog Qc) 640 80=true:=by kernel_rfl
theorem GAh:Hv (GjM Tryz.prog Qc) 720 41=true:=by kernel_rfl
end Go.Proofs.YtdifanfcaemokaaGreatDoor.Av
