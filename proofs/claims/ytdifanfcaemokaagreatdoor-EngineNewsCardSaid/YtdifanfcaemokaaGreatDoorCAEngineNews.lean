import Derived.Test.YtdifanfcaemokaaGreatDoorRE
import Derived.Test.YtdifanfcaemokaaGreatDoorPGlEngineNews
import Derived.Test.YtdifanfcaemokaaGreatDoorCLd
open Prod (fst)
open Int (tdiv tmod)
set_option maxHeartbeats 4000000
set_option maxRecDepth 100000
set_option linter.unusedVariables false
set_option linter.unusedSimpArgs false
namespace Go.Proofs.YtdifanfcaemokaaGreatDoor.Av
open Go Go.Proofs Go.ChangeShapes Go.WideShapes Go.ChangeAt Go.RowKit Go.Proofs.YtdifanfcaemokaaGreatDoor
def GAF {H:Type}:DataW H→Array Value
 | .agg l=>(l.flatMap fun d=>match d with | .agg m=>m.map GAi | d=>[GAi d]).toArray
 | _=>#[]
theorem Grd (c:Gh) (h:Gh.wf c):(∀ x ∈ c.Devices,Guh x)∧(∀ p ∈ c.Permits,∀ x ∈ p.Plates,Ls x)∧(∀ a ∈ c.Accounts,GpF a)∧Sm c.Caps:=by
 obtain ⟨_,⟨⟨_,hd⟩,_⟩,_,_,_,_,_,_,_,⟨⟨_,_⟩,hcp⟩,_,⟨⟨_,hp⟩,_⟩,⟨⟨_,ha⟩,_⟩,_⟩:=h
 have hr:reachBytes=140737488351232:=rfl
 refine ⟨fun x hx=>?_,fun p hx s hs=>?_,fun a hx o ho=>?_,?_⟩
 ·obtain ⟨_,_,_,_,⟨_,b1⟩,⟨_,b2⟩⟩:=hd x hx
  rw [hr] at b1 b2
  exact ⟨by show _≤_; omega,by show _≤_; omega⟩
 ·obtain ⟨_,_,⟨⟨_,b1⟩,_⟩,_⟩:=hp p hx
  have:=b1 s hs
  simp only [JR,hr] at this
  show _≤_; omega
 ·obtain ⟨_,_,_,⟨⟨_,b1⟩,_⟩,_⟩:=ha a hx
  obtain ⟨_,b2,_⟩:=b1 o ho
  simp only [JR,hr] at b2
  show _≤_; omega
 ·rw [hr] at hcp
  show _≤_; omega
theorem ZG (c:Gh) (h:Gh.wf c):Jn c=some true:=
 GnF c (Grd c h).1 (Grd c h).2.1 (Grd c h).2.2.1 (Grd c h).2.2.2
theorem Xq (H:Type) (enc:TypeId×Value→H) (W:World) (base:Nat) (args:Array Value) (ds gs:List (DataW H)) (before:List MemPlace)
  (hval:∀ (j:Nat) t v,Tryz.f3.params[j]?=some t→args[j]?=some v→Value.okWide Tryz.prog W .any base t v)
  (hW:DataW.Whole enc Tryz.prog Tryz.f3.params.toList Rows.engineNewsSpec.vars false W args.toList ds gs before) (hL:laidMet Tryz.prog Rows.engineNewsRow.laid W) (hz:(DataW.weightsEach Tryz.prog (Tryz.f3.params.toList++(OpenSpec.ofChange Rows.engineNewsSpec).bare.plain.varTypes Tryz.prog) (ds++gs)).all (·≤ reachBytes)=true):
  Calls Tryz.prog 3 args W fun e W2=>∃ v,e=.returned v∧Rows.engineNewsSpec.post enc Tryz.prog Tryz.f3 false true false false W args v W2:=by
 have hW2:=hW
 obtain ⟨p,q,hA,hV,hpq,hz,hn⟩:=hW
 rw [Tryz.params3] at hA hval
 obtain ⟨v0,vs0,d0,ds0,p0,q0,hargs,rfl,rfl,h0,r0⟩:=trodAll_cons hA
 obtain ⟨rfl,rfl,rfl⟩:=trodAll_nil r0
 obtain rfl:args=#[v0]:=by cases args; simp_all
 obtain ⟨x0,hr0,hw0⟩:=Gxz (Gh.reads 0) (by kernel_rfl) (by
  have:=hval 0 46 v0 rfl rfl
  simp only [Value.okWide,Tryz.underlying46] at this
  obtain ⟨cs,h,_⟩:=this
  exact ⟨cs,h⟩) h0 (Gyi hz 0 (by kernel_rfl) rfl)
 refine (HA.calls_true (GaG x0 true (ZG x0 hw0)) (vs:=#[v0]) (GQ.cons hr0 GQ.nil) (GAy hL)).mono ?_
 rintro e W1 ⟨hB,rfl⟩
 exact ⟨_,rfl,GwE (tb:=4) Gs3 (fun t ht=>by
  rw [Tryz.params3] at ht
  simp only [List.mem_cons,List.not_mem_nil,or_false] at ht
  subst ht; exact ⟨by kernel_rfl,of_decide_eq_true (by kernel_rfl)⟩) rfl (by kernel_rfl) Tryz.underlying4 (fun ds hd=>by
   rw [show Tryz.f3.params.size=1 by kernel_rfl] at hd
   match ds,hd with
   | [y0],_=>rfl) hW2 hB⟩
end Go.Proofs.YtdifanfcaemokaaGreatDoor.Av
