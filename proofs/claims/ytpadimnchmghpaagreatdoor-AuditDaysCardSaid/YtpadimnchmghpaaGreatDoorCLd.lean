import Derived.Test.YtpadimnchmghpaaGreatDoorM1
import Derived.Test.YtpadimnchmghpaaGreatDoorRows
import Derived.DeepKeys4
open Prod (fst)
open Int (tdiv tmod)
set_option maxHeartbeats 4000000
set_option maxRecDepth 100000
namespace Go.Proofs.YtpadimnchmghpaaGreatDoor.Av
open Go Go.Proofs Go.ChangeShapes Go.WideShapes Go.RowKit Go.Proofs.YtpadimnchmghpaaGreatDoor
def allFrom (p : Nat → Bool) (a : Nat) : Nat → Bool
 | 0 => true
 | k + 1 => p a && allFrom p (a + 1) k
theorem allFrom_spec {p : Nat → Bool} : ∀ {k a : Nat}, allFrom p a k = true → ∀ t, a ≤ t → t < a + k → p t = true
 | 0, a, _, t, h1, h2 => by omega
 | k + 1, a, h, t, h1, h2 => by
  simp only [allFrom, Bool.and_eq_true] at h
  by_cases e : t = a
  ·subst e; exact h.1
  ·exact allFrom_spec h.2 t (by omega) (by omega)
theorem laid_rows0 : allFrom (rowFine Tryz.prog) 0 90 = true := by kernel_rfl
theorem laid_rows1 : allFrom (rowFine Tryz.prog) 90 90 = true := by kernel_rfl
theorem laid_rows2 : allFrom (rowFine Tryz.prog) 180 90 = true := by kernel_rfl
theorem laid_rows3 : allFrom (rowFine Tryz.prog) 270 90 = true := by kernel_rfl
theorem laid_rows4 : allFrom (rowFine Tryz.prog) 360 90 = true := by kernel_rfl
theorem laid_rows5 : allFrom (rowFine Tryz.prog) 450 90 = true := by kernel_rfl
theorem laid_rows6 : allFrom (rowFine Tryz.prog) 540 90 = true := by kernel_rfl
theorem laid_rows7 : allFrom (rowFine Tryz.prog) 630 81 = true := by kernel_rfl
theorem laid_size : Tryz.prog.types.size = 711 := by kernel_rfl
theorem laid_globals : Tryz.prog.globals.all (fun g => decide (g.type < Tryz.prog.types.size)) = true := by kernel_rfl
theorem laid_funcs : Tryz.prog.funcs.all (fun f => f.params.all fun t => decide (t < Tryz.prog.types.size)) = true := by kernel_rfl
theorem laid_out : laidOutB Tryz.prog = true := by
 simp only [laidOutB, Bool.and_eq_true]
 refine ⟨⟨?_, laid_globals⟩, laid_funcs⟩
 rw [List.all_eq_true]
 intro t ht
 have ht := List.mem_range.1 ht
 rw [laid_size] at ht
 by_cases h0 : t < 90
 ·exact allFrom_spec laid_rows0 t (by omega) (by omega)
 by_cases h1 : t < 180
 ·exact allFrom_spec laid_rows1 t (by omega) (by omega)
 by_cases h2 : t < 270
 ·exact allFrom_spec laid_rows2 t (by omega) (by omega)
 by_cases h3 : t < 360
 ·exact allFrom_spec laid_rows3 t (by omega) (by omega)
 by_cases h4 : t < 450
 ·exact allFrom_spec laid_rows4 t (by omega) (by omega)
 by_cases h5 : t < 540
 ·exact allFrom_spec laid_rows5 t (by omega) (by omega)
 by_cases h6 : t < 630
 ·exact allFrom_spec laid_rows6 t (by omega) (by omega)
 by_cases h7 : t < 711
 ·exact allFrom_spec laid_rows7 t (by omega) (by omega)
 omega
end Go.Proofs.YtpadimnchmghpaaGreatDoor.Av
