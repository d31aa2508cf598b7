import Derived.Test.YtnlaiahcemckkaaGreatDoorRows
import Derived.LaidByTextLater
import Derived.SevenTiedAt
open Prod (fst)
open Int (tdiv tmod)
set_option maxHeartbeats 4000000
set_option maxRecDepth 100000
set_option linter.unusedVariables false
set_option linter.unusedSimpArgs false
namespace Go.Proofs.YtnlaiahcemckkaaGreatDoor.Av
open Go Go.Proofs Go.Proofs.YtnlaiahcemckkaaGreatDoor
abbrev GtZ:List (String×DataW Unit):=[("internal/strconv.uint64pow10",Rows.laid_internal_strconv_uint64pow10),("math/bits.deBruijn32tab",Rows.laid_math_bits_deBruijn32tab),("math/bits.deBruijn64tab",Rows.laid_math_bits_deBruijn64tab),("tollway/clock.months",Rows.laid_tollway_clock_months)]
theorem Gxd:Tryz.pinned.checked.prog.headLifts.contains "ownunsafe" = false:=by kernel_rfl
theorem Gxl:Tryz.prog.worded (varsWordLater true)=true:=by kernel_rfl
theorem Gxp:Tryz.prog.worded (varsWordLater !true)=false:=by kernel_rfl
theorem Gxf:Tryz.prog.worded rootWordLater=true:=by kernel_rfl
theorem Gxq:GtZ.map (fun x=>Tryz.prog.kindOfLater x.1)=([.data,.data,.data,.data]:List LaidKind).map some:=by kernel_rfl
theorem Gxh:Tryz.prog.funcNamed "gosem.cut.vars" = some 659:=by kernel_rfl
theorem Gxn:varsNamedLaterB Tryz.prog 659 GtZ=true:=by kernel_rfl
theorem Gxr (os:Os) (tape):varsDone Tryz.prog 400 659 os tape=true:=by kernel_rfl
theorem Gxc (os:Os) (tape):(DataW.laidRun Tryz.prog (varsWorld Tryz.prog 400 659 os tape).memory 8 (GtZ.map (·.1))).map (·.1)=some GtZ:=by kernel_rfl
theorem Gxs (os:Os) (tape):(DataW.laidRun Tryz.prog (varsWorld Tryz.prog 400 659 os tape).memory 8 (GtZ.map (·.1))).map (fun x=>decide x.2.Nodup&&laidRowsB Tryz.prog (varsWorld Tryz.prog 400 659 os tape).memory x.2)=some true:=by kernel_rfl
theorem tieF:Tryz.prog.laidByTextLater GtZ [.data,.data,.data,.data] true:=
 Program.laidByTextLater_of_run 659 400 8 Gxl Gxp Gxf Gxq Gxh Gxn Gxr Gxc Gxs
theorem GgY:Rows.batchChecksRow.laidByTextAt .later Tryz.pinned [.data,.data,.data,.data] true:=
 OpenClaim.laidByTextAt_later rfl rfl tieF Gxd
end Go.Proofs.YtnlaiahcemckkaaGreatDoor.Av
