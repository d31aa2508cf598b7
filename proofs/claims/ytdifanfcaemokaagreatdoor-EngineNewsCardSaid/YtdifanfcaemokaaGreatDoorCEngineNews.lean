import Derived.Test.YtdifanfcaemokaaGreatDoorCLk
import Derived.Test.YtdifanfcaemokaaGreatDoorCBEngineNews
import Derived.Test.YtdifanfcaemokaaGreatDoorCJEngineNews
import Derived.Test.YtdifanfcaemokaaGreatDoorCGo
import Derived.Test.YtdifanfcaemokaaGreatDoorCards
import Derived.Test.YtdifanfcaemokaaGreatDoorCTi
/- For any configuration the law EngineNews returns true, and its argument reads as before. -/
open Prod (fst)
open Int (tdiv tmod)
set_option linter.unusedVariables false
set_option linter.unusedSimpArgs false
set_option maxHeartbeats 4000000
set_option maxRecDepth 100000
namespace Go.Proofs.YtdifanfcaemokaaGreatDoor.Av
open Go Go.Proofs Go.ChangeShapes Go.WideShapes Go.ChangeAt Go.RowKit Go.Proofs.YtdifanfcaemokaaGreatDoor
theorem ZF:Rows.EngineNewsSaid:=
 OpenClaim.holds_of_cond 3 Tryz.f3 rfl rfl rfl rfl rfl rfl rfl ⟨rfl,rfl,rfl,rfl,rfl⟩ rfl rfl rfl rfl rfl (by kernel_rfl) Tryz.func3 Ye
  (of_decide_eq_true (by kernel_rfl)) (by unfold Func.isWrapper; first | (rw [if_pos (by decide +kernel)]; kernel_rfl) | (rw [if_neg (by decide +kernel)]; exact ⟨rfl,rfl⟩))
  (fun os started H enc _ F=>by rw [OpenClaim.pre_eq_preRow]; exact Yf os started H enc F)
theorem Zm (f:FuncId) (fn:Func) (hf:Tryz.pinned.checked.prog.funcNamed "tollway/tollwaylaw48.EngineNews" = some f) (hfn:Tryz.pinned.checked.prog.funcs[f]?=some fn):
  false=Tryz.pinned.checked.prog.looks []∧∀ (j:Nat) t,fn.params[j]?=some t→Tryz.pinned.checked.prog.wantsStandIn t=false:=by
 obtain rfl:f=3:=Option.some.inj ((show Tryz.prog.funcNamed "tollway/tollwaylaw48.EngineNews" = some 3 by kernel_rfl).symm.trans hf) |>.symm
 obtain rfl:fn=Tryz.f3:=(Option.some.inj (Tryz.func3.symm.trans hfn)).symm
 refine ⟨GuU.symm,fun j t ht=>?_⟩
 rw [Tryz.params3] at ht
 have hm:t=46:=by
  have:=Array.mem_of_getElem? ht
  simp only [List.mem_toArray,List.mem_cons,List.not_mem_nil,or_false] at this
  rcases this with rfl <;> simp
 rcases hm with rfl
 ·exact (show Tryz.prog.wantsStandIn 46=false by kernel_rfl)
theorem tollwaylaw48_EngineNews_card:Rows.EngineNewsCardSaid:=
 Claim7.holds_tied_plain_at .later [] _ _ _ _ ZF (fun _ h=>by cases h) (by as_aux_lemma=>kernel_rfl) (fun _ h=>by cases h) Gj2 rfl ⟨rfl,rfl⟩ (by as_aux_lemma=>kernel_rfl) rfl Zm (GrN rfl)
end Go.Proofs.YtdifanfcaemokaaGreatDoor.Av
namespace Go.Proofs.YtdifanfcaemokaaGreatDoor
theorem engine_news_card:Rows.EngineNewsCardSaid:=Go.Proofs.YtdifanfcaemokaaGreatDoor.Av.tollwaylaw48_EngineNews_card
end Go.Proofs.YtdifanfcaemokaaGreatDoor
