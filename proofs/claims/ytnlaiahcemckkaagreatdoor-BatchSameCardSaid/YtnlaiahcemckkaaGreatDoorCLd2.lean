/- Rows are laid out: some of them. -/
import Derived.Test.YtnlaiahcemckkaaGreatDoorCLa
set_option maxHeartbeats 4000000
set_option maxRecDepth 100000
namespace Go.Proofs.YtnlaiahcemckkaaGreatDoor.Av
open Go Go.Proofs Go.ChangeShapes Go.WideShapes Go.RowKit
theorem laid_rows8 : allFrom (rowFine Tryz.prog) 720 42 = true := by kernel_rfl
end Go.Proofs.YtnlaiahcemckkaaGreatDoor.Av
