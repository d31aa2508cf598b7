import Derived.Test.YtdifanfcaemokaaGreatDoorCKt
open Prod (fst)
open Int (tdiv tmod)
set_option maxRecDepth 1000000
set_option linter.unusedVariables false
namespace Go.Proofs.YtdifanfcaemokaaGreatDoor.Av
open Go Go.Proofs
theorem Gz8:Hv (GjM Tryz.prog Qc) 0 80=true:=by kernel_rfl
theorem Gz9:Hv (GjM Tryz.prog Qc) 80 80=true:=by kernel_rfl
theorem GAa:Hv (GjM Tryz.prog Qc) 160 80=true:=by kernel_rfl
theorem GAb:Hv (GjM Tryz.prog Qc) 240 80=true:=by kernel_rfl
end Go.Proofs.YtdifanfcaemokaaGreatDoor.Av
