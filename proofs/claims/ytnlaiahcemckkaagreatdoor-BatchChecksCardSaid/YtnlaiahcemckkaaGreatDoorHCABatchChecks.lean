import Derived.Test.YtnlaiahcemckkaaGreatDoorHRB
import Derived.Test.YtnlaiahcemckkaaGreatDoorHPGlBatchChecks
import Derived.Test.YtnlaiahcemckkaaGreatDoorHCLd
open Prod (fst)
open Int (tdiv tmod)
set_option maxHeartbeats 4000000
set_option maxRecDepth 100000
set_option linter.unusedVariables false
set_option linter.unusedSimpArgs false
namespace Go.Proofs.YtnlaiahcemckkaaGreatDoor.Av
open Go Go.Proofs Go.ChangeShapes Go.WideShapes Go.ChangeAt Go.RowKit Go.Proofs.YtnlaiahcemckkaaGreatDoor
theorem Gsp (c:GB) (h:GB.wf c):(∀ x ∈ c.Devices,Gua x)∧(∀ p ∈ c.Permits,∀ x ∈ p.Plates,Ls x)∧∀ a ∈ c.Accounts,GpR a:=by
 obtain ⟨_,⟨⟨_,hd⟩,_⟩,_,_,_,_,_,_,_,_,_,⟨⟨_,hp⟩,_⟩,⟨⟨_,ha⟩,_⟩,_⟩:=h
 have hr:reachBytes=140737488351232:=rfl
 refine ⟨fun x hx=>?_,fun p hx s hs=>?_,fun a hx o ho=>?_⟩
 ·obtain ⟨_,_,_,_,⟨_,b1⟩,⟨_,b2⟩⟩:=hd x hx
  rw [hr] at b1 b2
  exact ⟨by show _≤_; omega,by show _≤_; omega⟩
 ·obtain ⟨_,_,⟨⟨_,b1⟩,_⟩,_⟩:=hp p hx
  have:=b1 s hs
  simp only [JB,hr] at this
  show _≤_; omega
 ·obtain ⟨_,_,_,⟨⟨_,b1⟩,_⟩,_⟩:=ha a hx
  obtain ⟨_,b2,_⟩:=b1 o ho
  simp only [JB,hr] at b2
  show _≤_; omega
theorem Yj (c:GB) (h:GB.wf c):JC c=some true:=
 GkG c (Gsp c h).1 (Gsp c h).2.1 (Gsp c h).2.2
theorem Un (H:Type) (enc:TypeId×Value→H) (W:World) (base:Nat) (args:Array Value) (ds gs:List (DataW H)) (before:List MemPlace)
  (hval:∀ (j:Nat) t v,Tryz.f4.params[j]?=some t→args[j]?=some v→Value.okWide Tryz.prog W .any base t v)
  (hW:DataW.Whole enc Tryz.prog Tryz.f4.params.toList Rows.batchChecksSpec.vars false W args.toList ds gs before) (hL:laidMet Tryz.prog Rows.batchChecksRow.laid W) (hz:(DataW.weightsEach Tryz.prog (Tryz.f4.params.toList++(OpenSpec.ofChange Rows.batchChecksSpec).bare.plain.varTypes Tryz.prog) (ds++gs)).all (·≤ reachBytes)=true):
  Calls Tryz.prog 4 args W fun e W2=>∃ v,e=.returned v∧Rows.batchChecksSpec.post enc Tryz.prog Tryz.f4 false true false false W args v W2:=by
 have hW2:=hW
 obtain ⟨p,q,hA,hV,hpq,hz,hn⟩:=hW
 rw [Tryz.params4] at hA hval
 obtain ⟨v0,vs0,d0,ds0,p0,q0,hargs,rfl,rfl,h0,r0⟩:=trodAll_cons hA
 obtain ⟨rfl,rfl,rfl⟩:=trodAll_nil r0
 obtain rfl:args=#[v0]:=by cases args; simp_all
 obtain ⟨x0,hr0,hw0⟩:=GuG (GB.reads 0) (by kernel_rfl) (by
  have:=hval 0 59 v0 rfl rfl
  simp only [Value.okWide,Tryz.underlying59] at this
  obtain ⟨cs,h,_⟩:=this
  exact ⟨cs,h⟩) h0 (Gvh hz 0 (by kernel_rfl) rfl)
 refine (G5.calls_true (Ym x0 true (Yj x0 hw0)) (vs:=#[v0]) (GR.cons hr0 GR.nil) (Gxk hL)).mono ?_
 rintro e W1 ⟨hB,rfl⟩
 exact ⟨_,rfl,Gue (tb:=4) Gra (fun t ht=>by
  rw [Tryz.params4] at ht
  simp only [List.mem_cons,List.not_mem_nil,or_false] at ht
  subst ht; exact ⟨by kernel_rfl,of_decide_eq_true (by kernel_rfl)⟩) rfl (by kernel_rfl) Tryz.underlying4 (fun ds hd=>by
   rw [show Tryz.f4.params.size=1 by kernel_rfl] at hd
   match ds,hd with
   | [y0],_=>rfl) hW2 hB⟩
end Go.Proofs.YtnlaiahcemckkaaGreatDoor.Av
