/- The tables that the rows list lie where the contracts read them. -/
import Derived.Test.YtnlaiahcemckkaaGreatDoorSrD
import Derived.Test.YtnlaiahcemckkaaGreatDoorAvMm
import Derived.Lib.LaidTab
import Derived.Stop.LaidErr
import Derived.Test.YtnlaiahcemckkaaGreatDoorRows
set_option linter.unusedVariables false
set_option linter.unusedSimpArgs false
set_option maxHeartbeats 4000000
set_option maxRecDepth 100000
namespace Go.Proofs.YtnlaiahcemckkaaGreatDoor.Av
open Go Go.Proofs Go.ChangeShapes Go.WideShapes Go.ChangeAt Go.RowKit Go.Proofs.YtnlaiahcemckkaaGreatDoor
theorem gl_GT {W : World} (h : laidMet Tryz.prog Rows.batchSameRow.laid W) : GlRel GT (fun _ => none) (fun b => b < W.heap.size) W := by
  have h2 : laidMet Tryz.prog (("internal/strconv.uint64pow10", Rows.laid_internal_strconv_uint64pow10) :: _) W := h
  rw [show (Rows.laid_internal_strconv_uint64pow10 : DataW Unit) = Go.Lib.tabData .u64 Go.Lib.pow10Tab by kernel_rfl] at h2
  have h3 := (laidMet.tail (laidMet.tail (laidMet.tail h)))
  rw [show (Rows.laid_tollway_clock_months : DataW Unit) = Go.Lib.tabData .i64 [31, 28, 31, 30, 31, 30, 31, 31, 30, 31, 30, 31] by kernel_rfl] at h3
  refine gl_tabs (P := Tryz.prog) fun g => ?_
  by_cases hg : g = 1
  · subst hg
    exact .inr ⟨_, .u64, Go.Lib.pow10Tab, rfl, by kernel_rfl, Go.Lib.tabIs_of_head (g := 1) (t := 548) (e := 277) (n := 20) (by kernel_rfl) (by kernel_rfl) (by kernel_rfl) (by kernel_rfl) (by kernel_rfl) (by kernel_rfl) h2⟩
  · by_cases hm : g = 6
    · subst hm
      exact .inr ⟨_, .i64, [31, 28, 31, 30, 31, 30, 31, 31, 30, 31, 30, 31], rfl, by kernel_rfl, Go.Lib.tabIs_of_head (g := 6) (t := 699) (e := 3) (n := 12) (by kernel_rfl) (by kernel_rfl) (by kernel_rfl) (by kernel_rfl) (by kernel_rfl) (by kernel_rfl) h3⟩
    · exact .inl ((if_neg hg).trans (if_neg hm))
end Go.Proofs.YtnlaiahcemckkaaGreatDoor.Av
