/- The table that the rows list lies where the contracts read it. -/
import Derived.Test.YtalobodhbbkgdabDoorTrK
import Derived.Test.YtalobodhbbkgdabDoorRows
import Derived.Lib.LaidTab
import Derived.Stop.LaidErr
set_option linter.unusedVariables false
namespace Go.Proofs.YtalobodhbbkgdabDoor.Av
open Go Go.Proofs Go.Proofs.YtalobodhbbkgdabDoor
theorem gl_GT {W : World} (h : laidMet Tryd.prog Rows.tracePrintsRow.laid W) : GlRel GT (fun _ => none) (fun b => b < W.heap.size) W := by
  have h2 := laidMet.tail (laidMet.tail h)
  rw [show (Rows.laid_internal_strconv_uint64pow10 : DataW Unit) = Go.Lib.tabData .u64 Go.Lib.pow10Tab by kernel_rfl] at h2
  refine gl_tabs (P := Tryd.prog) fun g => ?_
  by_cases hg : g = 0
  · subst hg
    exact .inr ⟨_, .u64, Go.Lib.pow10Tab, rfl, by kernel_rfl, Go.Lib.tabIs_of_head (g := 0) (t := 181) (e := 174) (n := 20) (by kernel_rfl) (by kernel_rfl) (by kernel_rfl) (by kernel_rfl) (by kernel_rfl) (by kernel_rfl) h2⟩
  · exact .inl (if_neg hg)
end Go.Proofs.YtalobodhbbkgdabDoor.Av
