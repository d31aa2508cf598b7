/- MoneyRatios' plain law. -/
import Derived.Test.YteljonodbkkckaaDoorPRef
import Derived.Test.YteljonodbkkckaaDoorE2
set_option linter.unusedVariables false
namespace Go.Proofs.YteljonodbkkckaaDoor.Av
open Go Go.Proofs
theorem ratios_true (x : Ttollwaylaw03_Fraction) (h1 : InR .i64 x.N) (h2 : InR .i64 x.Num) (h3 : InR .i64 x.Den) : tollwaylaw03_MoneyRatios x = some true := by
  have h1 := inR_i64.1 h1
  have h2 := inR_i64.1 h2
  have h3 := inR_i64.1 h3
  unfold tollwaylaw03_MoneyRatios
  exact bind_i (ratio_eq _ _ _ _ h1 h2 h3) (bind_i (rratio_eq _ _ _ _ h1 h2 h3) (ite_t rfl (ite_t rfl (bind_i (v := true) rfl rfl))))
end Go.Proofs.YteljonodbkkckaaDoor.Av
