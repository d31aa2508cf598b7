import Derived.Test.YtdifanfcaemokaaGreatDoorCKt
open Prod (fst)
open Int (tdiv tmod)
set_option maxRecDepth 1000000
set_option linter.unusedVariables false
namespace Go.Proofs.YtdifanfcaemokaaGreatDoor.Av
open Go Go.Proofs
theorem GAc:Hv (GjM Tryz.prog Qc) 320 80=true:=by kernel_rfl
theorem GAd:Hv (GjM Tryz.prog Qc) 400 80=true:=by kernel_rfl
theorem GAe:Hv (GjM Tryz.prog Qc) 480 80=true:=by kernel_rfl
theorem GAf:Hv (GjM Tryz.prog Qc) 560 80=true:=by kernel_rfl
end Go.Proofs.YtdifanfcaemokaaGreatDoor.Av
