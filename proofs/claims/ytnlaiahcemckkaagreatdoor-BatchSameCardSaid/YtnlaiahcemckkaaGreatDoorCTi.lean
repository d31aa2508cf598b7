/- The program's tie, fact by fact. -/
import Derived.Test.YtnlaiahcemckkaaGreatDoorRows
import Derived.LaidByTextLater
import Derived.SevenTiedAt
set_option linter.unusedVariables false
set_option linter.unusedSimpArgs false
set_option maxHeartbeats 4000000
set_option maxRecDepth 100000
namespace Go.Proofs.YtnlaiahcemckkaaGreatDoor.Av
open Go Go.Proofs Go.Proofs.YtnlaiahcemckkaaGreatDoor
abbrev tieL : List (String × DataW Unit) := [("internal/strconv.uint64pow10", Rows.laid_internal_strconv_uint64pow10), ("math/bits.deBruijn32tab", Rows.laid_math_bits_deBruijn32tab), ("math/bits.deBruijn64tab", Rows.laid_math_bits_deBruijn64tab), ("tollway/clock.months", Rows.laid_tollway_clock_months)]
theorem tieF0 : Tryz.pinned.checked.prog.headLifts.contains "ownunsafe" = false := by kernel_rfl
theorem tieF1 : Tryz.prog.worded (varsWordLater true) = true := by kernel_rfl
theorem tieF2 : Tryz.prog.worded (varsWordLater !true) = false := by kernel_rfl
theorem tieF3 : Tryz.prog.worded rootWordLater = true := by kernel_rfl
theorem tieF4 : tieL.map (fun x => Tryz.prog.kindOfLater x.1) = ([.data, .data, .data, .data] : List LaidKind).map some := by kernel_rfl
theorem tieF5 : Tryz.prog.funcNamed "gosem.cut.vars" = some 659 := by kernel_rfl
theorem tieF6 : varsNamedLaterB Tryz.prog 659 tieL = true := by kernel_rfl
theorem tieF7 (os : Os) (tape) : varsDone Tryz.prog 400 659 os tape = true := by kernel_rfl
theorem tieF8 (os : Os) (tape) : (DataW.laidRun Tryz.prog (varsWorld Tryz.prog 400 659 os tape).memory 8 (tieL.map (·.1))).map (·.1) = some tieL := by kernel_rfl
theorem tieF9 (os : Os) (tape) : (DataW.laidRun Tryz.prog (varsWorld Tryz.prog 400 659 os tape).memory 8 (tieL.map (·.1))).map (fun x => decide x.2.Nodup && laidRowsB Tryz.prog (varsWorld Tryz.prog 400 659 os tape).memory x.2) = some true := by kernel_rfl
theorem tieF : Tryz.prog.laidByTextLater tieL [.data, .data, .data, .data] true :=
  Program.laidByTextLater_of_run 659 400 8 tieF1 tieF2 tieF3 tieF4 tieF5 tieF6 tieF7 tieF8 tieF9
theorem batchSame_row_tie : Rows.batchSameRow.laidByTextAt .later Tryz.pinned [.data, .data, .data, .data] true :=
  OpenClaim.laidByTextAt_later rfl rfl tieF tieF0
end Go.Proofs.YtnlaiahcemckkaaGreatDoor.Av
