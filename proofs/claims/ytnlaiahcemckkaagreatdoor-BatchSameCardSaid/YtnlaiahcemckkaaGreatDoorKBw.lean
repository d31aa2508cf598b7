/- The law is awake. (Walked by the evaluator.) -/
import Derived.Test.YtnlaiahcemckkaaGreatDoorKB0
import Derived.Test.YtnlaiahcemckkaaGreatDoorKB2
set_option linter.unusedVariables false
namespace Go.Proofs.YtnlaiahcemckkaaGreatDoor.Av
open Go Go.Proofs
theorem kb_awake : Ret Tryz.prog GT 5 [] (.bool true) [] :=
  Ret.of_true (tab [⟨12, 12, [1, 2, 3, 5, 6, 7, 8, 11, 4], 9, _, _, _, _, kb6⟩, ⟨10, 37, [29, 30, 31, 33, 34, 35, 36, 32], 8, _, _, _, _, kb0⟩, ⟨10, 45, [], 0, _, _, _, _, kb7⟩]) 100000 (by kernel_rfl)
end Go.Proofs.YtnlaiahcemckkaaGreatDoor.Av
