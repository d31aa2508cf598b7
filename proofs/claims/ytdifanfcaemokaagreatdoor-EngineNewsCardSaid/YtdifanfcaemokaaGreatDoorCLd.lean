import Derived.Test.YtdifanfcaemokaaGreatDoorCLa
open Prod (fst)
open Int (tdiv tmod)
set_option maxHeartbeats 4000000
set_option maxRecDepth 100000
namespace Go.Proofs.YtdifanfcaemokaaGreatDoor.Av
noncomputable section
open Go Go.Proofs Go.ChangeShapes Go.WideShapes Go.RowKit
theorem GuG:Hv (rowFine Tryz.prog) 0 90=true:=by kernel_rfl
theorem GuH:Hv (rowFine Tryz.prog) 90 90=true:=by kernel_rfl
theorem GuI:Hv (rowFine Tryz.prog) 180 90=true:=by kernel_rfl
theorem GuJ:Hv (rowFine Tryz.prog) 270 90=true:=by kernel_rfl
end
set_option maxHeartbeats 4000000
set_option maxRecDepth 100000
noncomputable section
open Go Go.Proofs Go.ChangeShapes Go.WideShapes Go.RowKit
theorem GuK:Hv (rowFine Tryz.prog) 360 90=true:=by kernel_rfl
theorem GuL:Hv (rowFine Tryz.prog) 450 90=true:=by kernel_rfl
theorem GuM:Hv (rowFine Tryz.prog) 540 90=true:=by kernel_rfl
theorem GuN:Hv (rowFine Tryz.prog) 630 90=true:=by kernel_rfl
end
set_option maxHeartbeats 4000000
set_option maxRecDepth 100000
noncomputable section
open Go Go.Proofs Go.ChangeShapes Go.WideShapes Go.RowKit
theorem GuO:Hv (rowFine Tryz.prog) 720 90=true:=by kernel_rfl
theorem GuP:Hv (rowFine Tryz.prog) 810 67=true:=by kernel_rfl
end
set_option maxHeartbeats 4000000
set_option maxRecDepth 100000
noncomputable section
open Go Go.Proofs Go.ChangeShapes Go.WideShapes Go.RowKit
theorem Gwv:Tryz.prog.types.size=877:=by kernel_rfl
theorem GrQ:Tryz.prog.globals.all (fun g=>decide (g.type<Tryz.prog.types.size))=true:=by kernel_rfl
theorem GuF:Tryz.prog.funcs.all (fun f=>f.params.all fun t=>decide (t<Tryz.prog.types.size))=true:=by kernel_rfl
theorem Gs3:laidOutB Tryz.prog=true:=by
 simp only [laidOutB,Bool.and_eq_true]
 refine ⟨⟨?_,GrQ⟩,GuF⟩
 rw [List.all_eq_true]
 intro t ht
 have ht:=List.mem_range.1 ht
 rw [Gwv] at ht
 by_cases h0:t<90
 ·exact GY GuG t (by omega) (by omega)
 by_cases h1:t<180
 ·exact GY GuH t (by omega) (by omega)
 by_cases h2:t<270
 ·exact GY GuI t (by omega) (by omega)
 by_cases h3:t<360
 ·exact GY GuJ t (by omega) (by omega)
 by_cases h4:t<450
 ·exact GY GuK t (by omega) (by omega)
 by_cases h5:t<540
 ·exact GY GuL t (by omega) (by omega)
 by_cases h6:t<630
 ·exact GY GuM t (by omega) (by omega)
 by_cases h7:t<720
 ·exact GY GuN t (by omega) (by omega)
 by_cases h8:t<810
 ·exact GY GuO t (by omega) (by omega)
 by_cases h9:t<877
 ·exact GY GuP t (by omega) (by omega)
 omega
end
end Go.Proofs.YtdifanfcaemokaaGreatDoor.Av
