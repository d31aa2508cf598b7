import Derived.Test.YtnlaiahcemckkaaGreatDoorHCLk
import Derived.Test.YtnlaiahcemckkaaGreatDoorHCBBatchChecks
import Derived.Test.YtnlaiahcemckkaaGreatDoorHCJBatchChecks
import Derived.Test.YtnlaiahcemckkaaGreatDoorHCGo
import Derived.Test.YtnlaiahcemckkaaGreatDoorCards
import Derived.Test.YtnlaiahcemckkaaGreatDoorHCTi
/- For any configuration the law BatchChecks returns true, and its argument reads as before. -/
open Prod (fst)
open Int (tdiv tmod)
set_option linter.unusedVariables false
set_option linter.unusedSimpArgs false
set_option maxHeartbeats 4000000
set_option maxRecDepth 100000
namespace Go.Proofs.YtnlaiahcemckkaaGreatDoor.Av
open Go Go.Proofs Go.ChangeShapes Go.WideShapes Go.ChangeAt Go.RowKit Go.Proofs.YtnlaiahcemckkaaGreatDoor
theorem XP:Rows.BatchChecksSaid:=
 OpenClaim.holds_of_cond 4 Tryz.f4 rfl rfl rfl rfl rfl rfl rfl ⟨rfl,rfl,rfl,rfl,rfl⟩ rfl rfl rfl rfl rfl (by kernel_rfl) Tryz.func4 Vr
  (of_decide_eq_true (by kernel_rfl)) (by unfold Func.isWrapper; first | (rw [if_pos (by decide +kernel)]; kernel_rfl) | (rw [if_neg (by decide +kernel)]; exact ⟨rfl,rfl⟩))
  (fun os started H enc _ F=>by rw [OpenClaim.pre_eq_preRow]; exact Vs os started H enc F)
theorem V9 (f:FuncId) (fn:Func) (hf:Tryz.pinned.checked.prog.funcNamed "tollway/tollwaylaw47.BatchChecks" = some f) (hfn:Tryz.pinned.checked.prog.funcs[f]?=some fn):
  false=Tryz.pinned.checked.prog.looks []∧∀ (j:Nat) t,fn.params[j]?=some t→Tryz.pinned.checked.prog.wantsStandIn t=false:=by
 obtain rfl:f=4:=Option.some.inj ((show Tryz.prog.funcNamed "tollway/tollwaylaw47.BatchChecks" = some 4 by kernel_rfl).symm.trans hf) |>.symm
 obtain rfl:fn=Tryz.f4:=(Option.some.inj (Tryz.func4.symm.trans hfn)).symm
 refine ⟨looks_none.symm, fun j t ht => ?_⟩
 rw [Tryz.params4] at ht
 have hm:t=59:=by
  have:=Array.mem_of_getElem? ht
  simp only [List.mem_toArray,List.mem_cons,List.not_mem_nil,or_false] at this
  rcases this with rfl <;> simp
 rcases hm with rfl
 ·exact (show Tryz.prog.wantsStandIn 59=false by kernel_rfl)
theorem tollwaylaw47_BatchChecks_card:Rows.BatchChecksCardSaid:=
 Claim7.holds_tied_plain_at .later [] _ _ _ _ XP (fun _ h=>by cases h) (by as_aux_lemma=>kernel_rfl) (fun _ h=>by cases h) GgY rfl ⟨rfl,rfl⟩ (by as_aux_lemma=>kernel_rfl) rfl V9 (GpE rfl)
end Go.Proofs.YtnlaiahcemckkaaGreatDoor.Av
namespace Go.Proofs.YtnlaiahcemckkaaGreatDoor
theorem batch_checks_card:Rows.BatchChecksCardSaid:=Go.Proofs.YtnlaiahcemckkaaGreatDoor.Av.tollwaylaw47_BatchChecks_card
end Go.Proofs.YtnlaiahcemckkaaGreatDoor
