/- Discounts: the law DiscountBest. -/
import Derived.Test.YtabjlmlfmafllaaPDs4
import Derived.Test.YtabjlmlfmafllaaK3
set_option linter.unusedVariables false
set_option linter.unusedSimpArgs false
set_option maxHeartbeats 1000000
namespace Go.Proofs.Ytabjlmlfmafllaa.Av
open Go Go.Proofs
theorem tollwaylaw24_DiscountBest_true (l : List Tapi_Discount) (cents : Int) {p q : Prop} (hw : l.length ≤ maxLen ∧ p) (_ : q) : tollwaylaw24_DiscountBest l cents = some true := by
  obtain ⟨b, hb, -⟩ := few_tot l hw.1
  unfold tollwaylaw24_DiscountBest
  refine bind_i hb ?_
  cases b with
  | false => exact ite_f (by decide) (bind_i rfl rfl)
  | true =>
    refine ite_t rfl ?_
    rcases both_eq l cents with ⟨d, -, hl, hc, hbest, h1, h2⟩ | ⟨e, he, h1, h2, -⟩
    · have hdl := asc_len hbest.1.asc hbest.1.lt
      obtain ⟨k1, k2⟩ := lines_eq l cents hc d hbest.1.lt (by omega) _ h1 h2
      exact bind_i h1 (bind_i h2 (ite_t rfl (ite_t rfl (bind_i (sameNumbers_refl (up d) (by rw [up_len]; omega)) (ite_t rfl (bind_i k1 (bind_i k2 (bind_i (sameLines_refl _ (by rw [linesR_len]; omega)) (ite_t rfl (bind_i rfl rfl))))))))))
    · obtain ⟨k1, k2⟩ := lines_none l cents 0 e he h1 h2
      exact bind_i h1 (bind_i h2 (ite_t rfl (ite_t rfl (bind_i (sameNumbers_refl [] (by simp)) (ite_t rfl (bind_i k1 (bind_i k2 (bind_i (sameLines_refl [] (by simp)) (ite_t rfl (bind_i rfl rfl))))))))))
end Go.Proofs.Ytabjlmlfmafllaa.Av
