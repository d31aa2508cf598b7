import Derived.Test.YtnlaiahcemckkaaGreatDoorHCLa
open Prod (fst)
open Int (tdiv tmod)
set_option maxHeartbeats 4000000
set_option maxRecDepth 100000
namespace Go.Proofs.YtnlaiahcemckkaaGreatDoor.Av
noncomputable section
open Go Go.Proofs Go.ChangeShapes Go.WideShapes Go.RowKit
theorem GrL:Hz (rowFine Tryz.prog) 0 90=true:=by kernel_rfl
theorem GrK:Hz (rowFine Tryz.prog) 90 90=true:=by kernel_rfl
theorem GrH:Hz (rowFine Tryz.prog) 180 90=true:=by kernel_rfl
theorem Grs:Hz (rowFine Tryz.prog) 270 90=true:=by kernel_rfl
end
set_option maxHeartbeats 4000000
set_option maxRecDepth 100000
noncomputable section
open Go Go.Proofs Go.ChangeShapes Go.WideShapes Go.RowKit
theorem Gst:Hz (rowFine Tryz.prog) 360 90=true:=by kernel_rfl
theorem Gsq:Hz (rowFine Tryz.prog) 450 90=true:=by kernel_rfl
theorem Gsm:Hz (rowFine Tryz.prog) 540 90=true:=by kernel_rfl
theorem Gsa:Hz (rowFine Tryz.prog) 630 90=true:=by kernel_rfl
end
set_option maxHeartbeats 4000000
set_option maxRecDepth 100000
noncomputable section
open Go Go.Proofs Go.ChangeShapes Go.WideShapes Go.RowKit
theorem GrG:Hz (rowFine Tryz.prog) 720 42=true:=by kernel_rfl
end
set_option maxHeartbeats 4000000
set_option maxRecDepth 100000
noncomputable section
open Go Go.Proofs Go.ChangeShapes Go.WideShapes Go.RowKit
theorem GtY:Tryz.prog.types.size=762:=by kernel_rfl
theorem Go6:Tryz.prog.globals.all (fun g=>decide (g.type<Tryz.prog.types.size))=true:=by kernel_rfl
theorem Gsd:Tryz.prog.funcs.all (fun f=>f.params.all fun t=>decide (t<Tryz.prog.types.size))=true:=by kernel_rfl
theorem Gra:laidOutB Tryz.prog=true:=by
 simp only [laidOutB,Bool.and_eq_true]
 refine ⟨⟨?_,Go6⟩,Gsd⟩
 rw [List.all_eq_true]
 intro t ht
 have ht:=List.mem_range.1 ht
 rw [GtY] at ht
 by_cases h0:t<90
 ·exact GY GrL t (by omega) (by omega)
 by_cases h1:t<180
 ·exact GY GrK t (by omega) (by omega)
 by_cases h2:t<270
 ·exact GY GrH t (by omega) (by omega)
 by_cases h3:t<360
 ·exact GY Grs t (by omega) (by omega)
 by_cases h4:t<450
 ·exact GY Gst t (by omega) (by omega)
 by_cases h5:t<540
 ·exact GY Gsq t (by omega) (by omega)
 by_cases h6:t<630
 ·exact GY Gsm t (by omega) (by omega)
 by_cases h7:t<720
 ·exact GY Gsa t (by omega) (by omega)
 by_cases h8:t<762
 ·exact GY GrG t (by omega) (by omega)
 omega
end
end Go.Proofs.YtnlaiahcemckkaaGreatDoor.Av
