/- The audit: the law AuditLocates is true. (Plain.) -/
import Derived.Test.YtpadimnchmghpaaGreatDoorPLv
import Derived.Test.YtpadimnchmghpaaGreatDoorALocates
set_option linter.unusedVariables false
set_option linter.unusedSimpArgs false
set_option maxHeartbeats 1000000
namespace Go.Proofs.YtpadimnchmghpaaGreatDoor.Av
open Go Go.Proofs
theorem locR_len {a b : List Tapi_Charge} (ha : ChL a) (hb : ChL b) : (locR a b).length ≤ 64 := by
  unfold locR
  rw [List.length_map]
  have := ksR_len a b
  have := ha.1
  have := hb.1
  exact places_len a b (by omega)
theorem tollwaylaw50_AuditLocates_true (a b : List Tapi_Charge) (hwa : lwf Tapi_Charge.wf a) (hwb : lwf Tapi_Charge.wf b) : tollwaylaw50_AuditLocates a b = some true := by
  obtain ⟨x, h1, h2⟩ := few_wf hwa
  obtain ⟨y, h3, h4⟩ := few_wf hwb
  unfold tollwaylaw50_AuditLocates
  refine bind_i h1 ?_
  cases x with
  | false => exact ite_f (by simp) (bind_i awake_true rfl)
  | true =>
    refine ite_t rfl (bind_i h3 ?_)
    cases y with
    | false => exact ite_f (by simp) (bind_i awake_true rfl)
    | true =>
      have ka := h2 rfl
      have kb := h4 rfl
      have := locR_len ka kb
      exact ite_t rfl (bind_i (Locate_eq ka kb) (bind_i (refLocate_eq ka kb) (bind_i (sameFind_refl (by omega)) (ite_t rfl (bind_i awake_true rfl)))))
end Go.Proofs.YtpadimnchmghpaaGreatDoor.Av
