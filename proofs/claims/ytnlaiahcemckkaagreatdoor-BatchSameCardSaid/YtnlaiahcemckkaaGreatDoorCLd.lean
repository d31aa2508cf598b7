/- The program's rows are laid out: checked in parts. -/
import Derived.Test.YtnlaiahcemckkaaGreatDoorCLd0
import Derived.Test.YtnlaiahcemckkaaGreatDoorCLd1
import Derived.Test.YtnlaiahcemckkaaGreatDoorCLd2
set_option maxHeartbeats 4000000
set_option maxRecDepth 100000
namespace Go.Proofs.YtnlaiahcemckkaaGreatDoor.Av
open Go Go.Proofs Go.ChangeShapes Go.WideShapes Go.RowKit
theorem laid_size : Tryz.prog.types.size = 762 := by kernel_rfl
theorem laid_globals : Tryz.prog.globals.all (fun g => decide (g.type < Tryz.prog.types.size)) = true := by kernel_rfl
theorem laid_funcs : Tryz.prog.funcs.all (fun f => f.params.all fun t => decide (t < Tryz.prog.types.size)) = true := by kernel_rfl
theorem laid_out : laidOutB Tryz.prog = true := by
  simp only [laidOutB, Bool.and_eq_true]
  refine ⟨⟨?_, laid_globals⟩, laid_funcs⟩
  rw [List.all_eq_true]
  intro t ht
  have ht := List.mem_range.1 ht
  rw [laid_size] at ht
  by_cases h0 : t < 90
  · exact allFrom_spec laid_rows0 t (by omega) (by omega)
  by_cases h1 : t < 180
  · exact allFrom_spec laid_rows1 t (by omega) (by omega)
  by_cases h2 : t < 270
  · exact allFrom_spec laid_rows2 t (by omega) (by omega)
  by_cases h3 : t < 360
  · exact allFrom_spec laid_rows3 t (by omega) (by omega)
  by_cases h4 : t < 450
  · exact allFrom_spec laid_rows4 t (by omega) (by omega)
  by_cases h5 : t < 540
  · exact allFrom_spec laid_rows5 t (by omega) (by omega)
  by_cases h6 : t < 630
  · exact allFrom_spec laid_rows6 t (by omega) (by omega)
  by_cases h7 : t < 720
  · exact allFrom_spec laid_rows7 t (by omega) (by omega)
  by_cases h8 : t < 762
  · exact allFrom_spec laid_rows8 t (by omega) (by omega)
  omega
end Go.Proofs.YtnlaiahcemckkaaGreatDoor.Av
