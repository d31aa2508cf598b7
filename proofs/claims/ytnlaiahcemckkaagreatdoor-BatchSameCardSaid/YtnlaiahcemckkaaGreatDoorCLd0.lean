/- Rows are laid out: some of them. -/
import Derived.Test.YtnlaiahcemckkaaGreatDoorCLa
set_option maxHeartbeats 4000000
set_option maxRecDepth 100000
namespace Go.Proofs.YtnlaiahcemckkaaGreatDoor.Av
open Go Go.Proofs Go.ChangeShapes Go.WideShapes Go.RowKit
theorem laid_rows0 : allFrom (rowFine Tryz.prog) 0 90 = true := by kernel_rfl
theorem laid_rows1 : allFrom (rowFine Tryz.prog) 90 90 = true := by kernel_rfl
theorem laid_rows2 : allFrom (rowFine Tryz.prog) 180 90 = true := by kernel_rfl
theorem laid_rows3 : allFrom (rowFine Tryz.prog) 270 90 = true := by kernel_rfl
end Go.Proofs.YtnlaiahcemckkaaGreatDoor.Av
