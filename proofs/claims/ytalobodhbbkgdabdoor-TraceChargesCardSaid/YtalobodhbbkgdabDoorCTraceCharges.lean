/- For any state and key the law TraceCharges returns true, and its arguments read as before. -/
import Derived.Test.YtalobodhbbkgdabDoorCBTraceCharges
import Derived.Test.YtalobodhbbkgdabDoorCJTraceCharges
import Derived.Test.YtalobodhbbkgdabDoorCards
import Derived.Test.YtalobodhbbkgdabDoorTie
set_option linter.unusedVariables false
set_option linter.unusedSimpArgs false
set_option maxHeartbeats 4000000
set_option maxRecDepth 100000
namespace Go.Proofs.YtalobodhbbkgdabDoor.Av
open Go Go.Proofs Go.ChangeShapes Go.WideShapes Go.ChangeAt Go.RowKit Go.Proofs.YtalobodhbbkgdabDoor
theorem tollwaylaw52_TraceCharges_said : Rows.TraceChargesSaid :=
  OpenClaim.holds_of_cond 4 Tryd.f4 rfl rfl rfl rfl rfl rfl rfl ⟨rfl, rfl, rfl, rfl, rfl⟩ rfl rfl rfl rfl rfl (by kernel_rfl) Tryd.func4 tollwaylaw52_TraceCharges_joined
    (of_decide_eq_true (by kernel_rfl)) (by unfold Func.isWrapper; first | (rw [if_pos (by decide +kernel)]; kernel_rfl) | (rw [if_neg (by decide +kernel)]; exact ⟨rfl, rfl⟩))
    (fun os started H enc _ F => by rw [OpenClaim.pre_eq_preRow]; exact tollwaylaw52_TraceCharges_lifted os started H enc F)
theorem tollwaylaw52_TraceCharges_plain (f : FuncId) (fn : Func) (hf : Tryd.pinned.checked.prog.funcNamed "tollway/tollwaylaw52.TraceCharges" = some f) (hfn : Tryd.pinned.checked.prog.funcs[f]? = some fn) :
    false = Tryd.pinned.checked.prog.looks [] ∧ ∀ (j : Nat) t, fn.params[j]? = some t → Tryd.pinned.checked.prog.wantsStandIn t = false := by
  obtain rfl : f = 4 := Option.some.inj ((show Tryd.prog.funcNamed "tollway/tollwaylaw52.TraceCharges" = some 4 by kernel_rfl).symm.trans hf) |>.symm
  obtain rfl : fn = Tryd.f4 := (Option.some.inj (Tryd.func4.symm.trans hfn)).symm
  refine ⟨by kernel_rfl, fun j t ht => ?_⟩
  rw [Tryd.params4] at ht
  have hm : t = 9 ∨ t = 64 := by
    have := Array.mem_of_getElem? ht
    simp only [List.mem_toArray, List.mem_cons, List.not_mem_nil, or_false] at this
    rcases this with rfl | rfl <;> simp
  rcases hm with rfl | rfl
  · exact (show Tryd.prog.wantsStandIn 9 = false by kernel_rfl)
  · exact (show Tryd.prog.wantsStandIn 64 = false by kernel_rfl)
theorem tollwaylaw52_TraceCharges_card : Rows.TraceChargesCardSaid :=
  Claim7.holds_tied_plain_at .later [] _ _ _ _ tollwaylaw52_TraceCharges_said (fun _ h => by cases h) (by kernel_rfl) (fun _ h => by cases h) traceCharges_row_tie rfl ⟨rfl, rfl⟩ (by kernel_rfl) rfl tollwaylaw52_TraceCharges_plain (by kernel_rfl)
end Go.Proofs.YtalobodhbbkgdabDoor.Av
namespace Go.Proofs.YtalobodhbbkgdabDoor
theorem trace_charges_card : Rows.TraceChargesCardSaid := Go.Proofs.YtalobodhbbkgdabDoor.Av.tollwaylaw52_TraceCharges_card
end Go.Proofs.YtalobodhbbkgdabDoor
