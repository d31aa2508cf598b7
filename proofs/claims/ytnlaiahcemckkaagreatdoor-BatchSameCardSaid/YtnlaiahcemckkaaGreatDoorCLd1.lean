/- Rows are laid out: some of them. -/
import Derived.Test.YtnlaiahcemckkaaGreatDoorCLa
set_option maxHeartbeats 4000000
set_option maxRecDepth 100000
namespace Go.Proofs.YtnlaiahcemckkaaGreatDoor.Av
open Go Go.Proofs Go.ChangeShapes Go.WideShapes Go.RowKit
theorem laid_rows4 : allFrom (rowFine Tryz.prog) 360 90 = true := by kernel_rfl
theorem laid_rows5 : allFrom (rowFine Tryz.prog) 450 90 = true := by kernel_rfl
theorem laid_rows6 : allFrom (rowFine Tryz.prog) 540 90 = true := by kernel_rfl
theorem laid_rows7 : allFrom (rowFine Tryz.prog) 630 90 = true := by kernel_rfl
end Go.Proofs.YtnlaiahcemckkaaGreatDoor.Av
