import Derived.Test.YtpadimnchmghpaaGreatDoorPDf
import Derived.Test.YtpadimnchmghpaaGreatDoorADays
open Prod (fst)
open Int (tdiv tmod)
set_option maxHeartbeats 1000000
set_option linter.unusedVariables false
set_option linter.unusedSimpArgs false
namespace Go.Proofs.YtpadimnchmghpaaGreatDoor.Av
open Go Go.Proofs
theorem w5AuditDays_true (a b : List TC) (hwa : lwf TC.wf a) (hwb : lwf TC.wf b) : w5AuditDays a b = some true := by
 obtain ⟨x, h1, h2⟩ := few_wf hwa
 obtain ⟨y, h3, h4⟩ := few_wf hwb
 unfold w5AuditDays
 refine bind_i h1 ?_
 cases x with
 | false => exact ite_f (by simp) (bind_i awake_true rfl)
 | true =>
  refine ite_t rfl (bind_i h3 ?_)
  cases y with
  | false => exact ite_f (by simp) (bind_i awake_true rfl)
  | true =>
   have ka := h2 rfl
   have kb := h4 rfl
   have := daysR_len ka.1 kb.1
   exact ite_t rfl (bind_i (Days_eq ka.1 kb.1) (bind_i (refDays50_eq ka.1 kb.1) (bind_i (sameFind_refl (by omega)) (ite_t rfl (bind_i (Lost_eq ka.1 kb.1) (bind_i (refLost_eq ka kb) (ite_t rfl (bind_i awake_true rfl))))))))
end Go.Proofs.YtpadimnchmghpaaGreatDoor.Av
