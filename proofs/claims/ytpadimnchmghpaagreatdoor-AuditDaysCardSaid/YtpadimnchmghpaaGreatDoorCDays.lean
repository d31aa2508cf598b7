import Derived.Test.YtpadimnchmghpaaGreatDoorCBDays
import Derived.Test.YtpadimnchmghpaaGreatDoorCJDays
import Derived.Test.YtpadimnchmghpaaGreatDoorCGo
import Derived.Test.YtpadimnchmghpaaGreatDoorCards
import Derived.Test.YtpadimnchmghpaaGreatDoorTie
/- For any charges the law AuditDays returns true, and its arguments read as before. -/
open Prod (fst)
open Int (tdiv tmod)
set_option linter.unusedVariables false
set_option linter.unusedSimpArgs false
set_option maxHeartbeats 4000000
set_option maxRecDepth 100000
namespace Go.Proofs.YtpadimnchmghpaaGreatDoor.Av
open Go Go.Proofs Go.ChangeShapes Go.WideShapes Go.ChangeAt Go.RowKit Go.Proofs.YtpadimnchmghpaaGreatDoor
theorem w5AuditDays_said : Rows.AuditDaysSaid :=
 OpenClaim.holds_of_cond 5 Tryz.f5 rfl rfl rfl rfl rfl rfl rfl ⟨rfl, rfl, rfl, rfl, rfl⟩ rfl rfl rfl rfl rfl (by kernel_rfl) Tryz.func5 w5AuditDays_joined
  (of_decide_eq_true (by kernel_rfl)) (by unfold Func.isWrapper; first | (rw [if_pos (by decide +kernel)]; kernel_rfl) | (rw [if_neg (by decide +kernel)]; exact ⟨rfl, rfl⟩))
  (fun os started H enc _ F => by rw [OpenClaim.pre_eq_preRow]; exact w5AuditDays_lifted os started H enc F)
theorem w5AuditDays_plain (f : FuncId) (fn : Func) (hf : Tryz.pinned.checked.prog.funcNamed "tollway/tollwaylaw50.AuditDays" = some f) (hfn : Tryz.pinned.checked.prog.funcs[f]? = some fn) :
  true = Tryz.pinned.checked.prog.looks [] ∧ ∀ (j : Nat) t, fn.params[j]? = some t → Tryz.pinned.checked.prog.wantsStandIn t = false := by
 obtain rfl : f = 5 := Option.some.inj ((show Tryz.prog.funcNamed "tollway/tollwaylaw50.AuditDays" = some 5 by kernel_rfl).symm.trans hf) |>.symm
 obtain rfl : fn = Tryz.f5 := (Option.some.inj (Tryz.func5.symm.trans hfn)).symm
 refine ⟨by kernel_rfl, fun j t ht => ?_⟩
 rw [Tryz.params5] at ht
 have hm : t = 22 := by
  have := Array.mem_of_getElem? ht
  simp only [List.mem_toArray, List.mem_cons, List.not_mem_nil, or_false] at this
  rcases this with rfl | rfl <;> simp
 rcases hm with rfl
 ·exact (show Tryz.prog.wantsStandIn 22 = false by kernel_rfl)
theorem w5AuditDays_card : Rows.AuditDaysCardSaid :=
 Claim7.holds_tied_plain_at .later [] _ _ _ _ w5AuditDays_said (fun _ h => by cases h) (by as_aux_lemma => kernel_rfl) (fun _ h => by cases h) auditDays_row_tie rfl ⟨rfl, rfl⟩ (by as_aux_lemma => kernel_rfl) rfl w5AuditDays_plain (goesBy_false rfl)
end Go.Proofs.YtpadimnchmghpaaGreatDoor.Av
namespace Go.Proofs.YtpadimnchmghpaaGreatDoor
theorem audit_days_card : Rows.AuditDaysCardSaid := Go.Proofs.YtpadimnchmghpaaGreatDoor.Av.w5AuditDays_card
end Go.Proofs.YtpadimnchmghpaaGreatDoor
