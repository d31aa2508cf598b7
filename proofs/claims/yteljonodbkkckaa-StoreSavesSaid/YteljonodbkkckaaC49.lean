import Derived.Test.YteljonodbkkckaaAvZ
import Derived.Test.YteljonodbkkckaaC49B
import Derived.Test.YteljonodbkkckaaC49J
import Derived.Test.YteljonodbkkckaaB3
import Derived.Test.YteljonodbkkckaaP49
import Derived.Test.YteljonodbkkckaaR49
import Derived.Test.YteljonodbkkckaaRows
set_option linter.unusedVariables false
set_option linter.unusedSimpArgs false
set_option maxHeartbeats 4000000
set_option maxRecDepth 100000
namespace Go.Proofs.Yteljonodbkkckaa.Av
open Go Go.Proofs Go.ChangeShapes Go.WideShapes Go.ChangeAt Go.RowKit Go.Proofs.Yteljonodbkkckaa
theorem tollwaylaw49_StoreSaves_said : Rows.StoreSavesSaid :=
  OpenClaim.holds_of_cond 3 Try.f3 rfl rfl rfl rfl rfl rfl rfl ⟨rfl, rfl, rfl, rfl, rfl⟩ rfl rfl rfl rfl rfl (by kernel_rfl) Try.func3 tollwaylaw49_StoreSaves_joined
    (of_decide_eq_true (by kernel_rfl)) (by unfold Func.isWrapper; first | (rw [if_pos (by decide +kernel)]; kernel_rfl) | (rw [if_neg (by decide +kernel)]; exact ⟨rfl, rfl⟩))
    (fun os started H enc _ F => by rw [OpenClaim.pre_eq_preRow]; exact tollwaylaw49_StoreSaves_lifted os started H enc F)
end Go.Proofs.Yteljonodbkkckaa.Av
namespace Go.Proofs.Yteljonodbkkckaa
theorem store_saves : Rows.StoreSavesSaid := Go.Proofs.Yteljonodbkkckaa.Av.tollwaylaw49_StoreSaves_said
end Go.Proofs.Yteljonodbkkckaa
