/- For any two results and any identifier the law BatchSame returns true, and its arguments read as before. -/
import Derived.Test.YtnlaiahcemckkaaGreatDoorCLk
import Derived.Test.YtnlaiahcemckkaaGreatDoorCBBatchSame
import Derived.Test.YtnlaiahcemckkaaGreatDoorCJBatchSame
import Derived.Test.YtnlaiahcemckkaaGreatDoorCGo
import Derived.Test.YtnlaiahcemckkaaGreatDoorCards
import Derived.Test.YtnlaiahcemckkaaGreatDoorCTi
set_option linter.unusedVariables false
set_option linter.unusedSimpArgs false
set_option maxHeartbeats 4000000
set_option maxRecDepth 100000
namespace Go.Proofs.YtnlaiahcemckkaaGreatDoor.Av
open Go Go.Proofs Go.ChangeShapes Go.WideShapes Go.ChangeAt Go.RowKit Go.Proofs.YtnlaiahcemckkaaGreatDoor
theorem tollwaylaw47_BatchSame_said : Rows.BatchSameSaid :=
  OpenClaim.holds_of_cond 3 Tryz.f3 rfl rfl rfl rfl rfl rfl rfl ⟨rfl, rfl, rfl, rfl, rfl⟩ rfl rfl rfl rfl rfl (by kernel_rfl) Tryz.func3 tollwaylaw47_BatchSame_joined
    (of_decide_eq_true (by kernel_rfl)) (by unfold Func.isWrapper; first | (rw [if_pos (by decide +kernel)]; kernel_rfl) | (rw [if_neg (by decide +kernel)]; exact ⟨rfl, rfl⟩))
    (fun os started H enc _ F => by rw [OpenClaim.pre_eq_preRow]; exact tollwaylaw47_BatchSame_lifted os started H enc F)
theorem tollwaylaw47_BatchSame_plain (f : FuncId) (fn : Func) (hf : Tryz.pinned.checked.prog.funcNamed "tollway/tollwaylaw47.BatchSame" = some f) (hfn : Tryz.pinned.checked.prog.funcs[f]? = some fn) :
    false = Tryz.pinned.checked.prog.looks [] ∧ ∀ (j : Nat) t, fn.params[j]? = some t → Tryz.pinned.checked.prog.wantsStandIn t = false := by
  obtain rfl : f = 3 := Option.some.inj ((show Tryz.prog.funcNamed "tollway/tollwaylaw47.BatchSame" = some 3 by kernel_rfl).symm.trans hf) |>.symm
  obtain rfl : fn = Tryz.f3 := (Option.some.inj (Tryz.func3.symm.trans hfn)).symm
  refine ⟨looks_none.symm, fun j t ht => ?_⟩
  rw [Tryz.params3] at ht
  have hm : t = 9 ∨ t = 29 := by
    have := Array.mem_of_getElem? ht
    simp only [List.mem_toArray, List.mem_cons, List.not_mem_nil, or_false] at this
    rcases this with rfl | rfl | rfl <;> simp
  rcases hm with rfl | rfl
  · exact (show Tryz.prog.wantsStandIn 9 = false by kernel_rfl)
  · exact (show Tryz.prog.wantsStandIn 29 = false by kernel_rfl)
theorem tollwaylaw47_BatchSame_card : Rows.BatchSameCardSaid :=
  Claim7.holds_tied_plain_at .later [] _ _ _ _ tollwaylaw47_BatchSame_said (fun _ h => by cases h) (by as_aux_lemma => kernel_rfl) (fun _ h => by cases h) batchSame_row_tie rfl ⟨rfl, rfl⟩ (by as_aux_lemma => kernel_rfl) rfl tollwaylaw47_BatchSame_plain (goesBy_false rfl)
end Go.Proofs.YtnlaiahcemckkaaGreatDoor.Av
namespace Go.Proofs.YtnlaiahcemckkaaGreatDoor
theorem batch_same_card : Rows.BatchSameCardSaid := Go.Proofs.YtnlaiahcemckkaaGreatDoor.Av.tollwaylaw47_BatchSame_card
end Go.Proofs.YtnlaiahcemckkaaGreatDoor
