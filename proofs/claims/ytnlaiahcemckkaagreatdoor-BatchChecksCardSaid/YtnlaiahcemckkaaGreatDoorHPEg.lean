import Derived.Test.YtnlaiahcemckkaaGreatDoorHBCS
import Derived.Laws.RangeString
import Derived.Laws.RangeAny
open Prod (fst)
open Int (tdiv tmod)
set_option maxHeartbeats 4000000
set_option maxRecDepth 100000
set_option linter.unusedVariables false
set_option linter.unusedSimpArgs false
namespace Go.Proofs.YtnlaiahcemckkaaGreatDoor.Av
noncomputable section
open Go Go.Proofs
def UV (s_0:(List UInt8)):Nat→HT (Nat⊕(Unit⊕Unit)) True
 | p0=>.sp (p0<s_0.length)
  (.bd (some (dec s_0 p0)) fun r23=>.run ((.op none (.m r23.1 r23.2))::oc::bt::(cs 4 [])) (fun γ=>k2 γ.1.2 (k2 ((Option.some.inj γ.2):Utf8.decode ⟨s_0.toArray⟩ p0=(r23.1,r23.2)) (Gb (rfl:true=true)))) <|
  .sp ((↑r23.1:Int)≥(97:Int))
  (.run (oc::oa::oc::tc::oa::(cs 2 [])) (fun γ=>Gb (dT γ.2)) <|
  .sp ((↑r23.1:Int)≤(122:Int))
  (.run (cs 3 (oF::(cs 14 [bf]))) (fun γ=>k2 (Gs (dT γ.2)) (Gb (rfl:false=false))) <|
  .leaf (Sum.inl (p0+r23.2)) [0])
  (.sp ((↑p0:Int)=(0:Int))
  (.run (cs 3 (tc::oa::oc::tc::(cs 11 [bt,oc]))) (fun γ=>k2 (Gu (dF γ.1.2)) (k2 (Gp γ.2) (Gb (rfl:true=true)))) <|
  .leaf (Sum.inr (Sum.inl ())) [])
  (.sp ((↑r23.1:Int)=(45:Int))
  (.run (cs 3 (tc::oa::oc::oF::oa::oc::oF::(cs 8 [bf]))) (fun γ=>k2 (Gu (dF γ.1.1.2)) (k2 (Gw γ.1.2) (k2 (Gs (Gp γ.2)) (Gb (rfl:false=false))))) <|
  .leaf (Sum.inl (p0+r23.2)) [0])
  (.sp ((↑r23.1:Int)<(48:Int))
  (.run (cs 3 (tc::oa::oc::oF::oa::oc::tc::oa::oc::tc::(cs 5 [bt,oc]))) (fun γ=>k2 (Gu (dF γ.1.1.1.2)) (k2 (Gw γ.1.1.2) (k2 (Gu (Gw γ.1.2)) (k2 (dT γ.2) (Gb (rfl:true=true)))))) <|
  .leaf (Sum.inr (Sum.inl ())) [])
  (.run (cs 3 (tc::oa::oc::oF::oa::oc::tc::oa::oc::oF::oa::(cs 4 []))) (fun γ=>k2 (Gu (dF γ.1.1.1.2)) (k2 (Gw γ.1.1.2) (k2 (Gu (Gw γ.1.2)) (Gb (dF γ.2))))) <|
  .sp ((↑r23.1:Int)>(57:Int))
  (.run [bt,oc] (fun γ=>Gb (dT γ.2)) <|
  .leaf (Sum.inr (Sum.inl ())) [])
  (.run [bf] (fun γ=>Gb (dF γ.2)) <|
  .leaf (Sum.inl (p0+r23.2)) [0]))))))
  (.run (oc::oa::oc::oF::(cs 3 [])) (fun γ=>Gb (dF γ.2)) <|
  .sp ((↑p0:Int)=(0:Int))
  (.run (cs 4 (oa::oc::tc::(cs 11 [bt,oc]))) (fun γ=>k2 (Gp γ.2) (Gb (rfl:true=true))) <|
  .leaf (Sum.inr (Sum.inl ())) [])
  (.sp ((↑r23.1:Int)=(45:Int))
  (.run (cs 4 (oa::oc::oF::oa::oc::oF::(cs 8 [bf]))) (fun γ=>k2 (Gw γ.1.2) (k2 (Gs (Gp γ.2)) (Gb (rfl:false=false)))) <|
  .leaf (Sum.inl (p0+r23.2)) [0])
  (.sp ((↑r23.1:Int)<(48:Int))
  (.run (cs 4 (oa::oc::oF::oa::oc::tc::oa::oc::tc::(cs 5 [bt,oc]))) (fun γ=>k2 (Gw γ.1.1.2) (k2 (Gu (Gw γ.1.2)) (k2 (dT γ.2) (Gb (rfl:true=true))))) <|
  .leaf (Sum.inr (Sum.inl ())) [])
  (.run (cs 4 (oa::oc::oF::oa::oc::tc::oa::oc::oF::oa::(cs 4 []))) (fun γ=>k2 (Gw γ.1.1.2) (k2 (Gu (Gw γ.1.2)) (Gb (dF γ.2)))) <|
  .sp ((↑r23.1:Int)>(57:Int))
  (.run [bt,oc] (fun γ=>Gb (dT γ.2)) <|
  .leaf (Sum.inr (Sum.inl ())) [])
  (.run [bf] (fun γ=>Gb (dF γ.2)) <|
  .leaf (Sum.inl (p0+r23.2)) [0]))))))
  (.run [.op none (.b false),oc,bf] (fun γ=>k2 γ.2 (Gb (rfl:false=false))) <|
  .leaf (Sum.inr (Sum.inr (()))) [])
def KZ (s_0:(List UInt8)):Nat→Option (Nat⊕(Unit⊕Unit)):=fun s=>(UV s_0 s).den
def GfH (s_0:(List UInt8)):Nat→PS:=fun s=>(43,[(14,.ptr 0 0)],[{ c:=[],e:=0,ext:=false,fz:=0,pl:=true,o:=false,it:=some (.str s_0 s) }])
def Ggo:(Unit⊕Unit)→Hm:=fun q=>match q with | Sum.inl o=>.ret | Sum.inr (o)=>(.exit 0)
def Gge (s_0:(List UInt8)):(Unit⊕Unit)→List (Nat×AV):=fun q=>match q with | Sum.inl o=>[(2,.bool false)] | Sum.inr (o)=>[]
def GeJ (s_0:(List UInt8)):(Unit⊕Unit)→List G6:=fun q=>match q with | Sum.inl o=>[] | Sum.inr (o)=>[]
theorem GbZ (s_0:(List UInt8)) {s:Nat} {r:Unit⊕Unit} (h:lp (KZ s_0) s=some r):GI Tryz.prog GT 0 (.loop (GO Tryz.prog 104 [1,1,0,1,0,0])) (GfH s_0 s).st (Ggo r) (PS.st (43,Gge s_0 r,GeJ s_0 r)):=
 GI.lp_ht 0 400 (GfH s_0) Ggo (fun q=>(43,Gge s_0 q,GeJ s_0 q)) (UV s_0) (by intro p0; kernel_rfl) h
def Gfg (s_0:(List UInt8)):HT Bool True:=.run [oc] (fun _=>He) <|
  .sp (s_0=[])
  (.run (oc::oa::oc::tc::(cs 3 [bt,oc])) (fun γ=>k2 (Gp γ.2) (Gb (rfl:true=true))) <|
  .leaf false [])
  (.run [oc,oa,oc,oF,oc,oa,oc] (fun γ=>Gb (Gw γ.2)) <|
  .sp ((↑s_0.length:Int)>(12:Int))
  (.run [bt,oc] (fun γ=>Gb (dT γ.2)) <|
  .leaf false [])
  (.run (bf::(cs 2 [])) (fun γ=>Gb (dF γ.2)) <|
  .bd (lp (KZ s_0) (0:Nat)) fun qq=>.cs qq (fun o3=>.run [.fcut 0 .ret [(2,.bool false)] [] [0] [(14,.any)] [{ c:=[],e:=0,ext:=false,fz:=0,pl:=true,o:=false,it:=some (.str s_0 (0:Nat)) }]] (fun γ=>k2 (⟨rfl,rfl⟩:s_0=s_0∧0=(0:Nat)) (Gb (GbZ s_0 (s:=(0:Nat)) (r:=Sum.inl o3) (eS γ.1.2 γ.2)))) <|
  .leaf false [])
  (fun o3=>.run [.fcut 0 (.exit 0) [] [] [0] [(14,.any)] [{ c:=[],e:=0,ext:=false,fz:=0,pl:=true,o:=false,it:=some (.str s_0 (0:Nat)) }],oc] (fun γ=>k2 (⟨rfl,rfl⟩:s_0=s_0∧0=(0:Nat)) (Gb (GbZ s_0 (s:=(0:Nat)) (r:=Sum.inr (o3)) (eS γ.1.2 γ.2)))) <|
  .leaf true [])))
def HC (s_0:(List UInt8)):Option Bool:=(Gfg s_0).den
theorem Ha (s_0:(List UInt8)) (r:Bool) (h:HC s_0=some r):G5 Tryz.prog GT 104 [.str s_0] (.bool r) []:=
 G5.of_ht 400 (Gfg s_0) (fun (r:Bool)=>.bool r) (fun (r:Bool)=>[]) (by kernel_rfl) h
def Zq (s_0:(List UInt8)):Nat→HT (Nat⊕(Unit⊕Unit)) True
 | k3=>.run (cs 3 [oa]) (fun _=>He) <|
  .sp ((↑k3:Int)<(↑s_0.length:Int))
  (.run [bt] (fun γ=>Gb (dT γ.2)) <|
  .bd (s_0[k3]?) fun x35=>.sp ((x35.toNat:Int)≥(97:Int))
  (.run (cs 2 ((.op none (.i k3))::(.tr (.eqt (.t 22) (.int .u8 (x35.toNat:Int))))::oa::oc::tc::oc::(.op none (.i k3))::(.tr (.eqt (.t 27) (.int .u8 (x35.toNat:Int))))::oa::(cs 2 []))) (fun γ=>k2 (ir γ.1.2) (k2 ((Hy γ.1.2):(.int .u8 ((List.getD s_0 k3 0).toNat:Int):AV)=.int .u8 (x35.toNat:Int)) (k2 (dT γ.2) (k2 (ir γ.1.2) (Gb ((Hy γ.1.2):(.int .u8 ((List.getD s_0 k3 0).toNat:Int):AV)=.int .u8 (x35.toNat:Int))))))) <|
  .sp ((x35.toNat:Int)≥(48:Int))
  (.sp ((x35.toNat:Int)≤(57:Int))
  (.run (cs 2 ((.op none (.i k3))::(.tr (.eqt (.t 32) (.int .u8 (x35.toNat:Int))))::oa::oc::tc::oc::(.op none (.i k3))::(.tr (.eqt (.t 37) (.int .u8 (x35.toNat:Int))))::oa::(cs 2 (tc::(cs 5 []))))) (fun γ=>k2 (ir γ.1.1.1.2) (k2 ((Hy γ.1.1.1.2):(.int .u8 ((List.getD s_0 k3 0).toNat:Int):AV)=.int .u8 (x35.toNat:Int)) (k2 (dT γ.1.2) (k2 (ir γ.1.1.1.2) (k2 ((Hy γ.1.1.1.2):(.int .u8 ((List.getD s_0 k3 0).toNat:Int):AV)=.int .u8 (x35.toNat:Int)) (Gb (dT γ.2))))))) <|
  .sp ((x35.toNat:Int)≤(122:Int))
  (.run (cs 3 (oF::(cs 6 [bf]))) (fun γ=>k2 (Gs (dT γ.2)) (Gb (rfl:false=false))) <|
  .gd (GP .i64 ((↑k3:Int)+1)) <| .run [oc,ow,oc] (fun γ=>Gb γ.2) <|
  .leaf (Sum.inl (k3+1)) [])
  (.sp ((↑k3:Int)=(0:Int))
  (.run (cs 3 (tc::oa::oc::tc::(cs 3 [bt,oc]))) (fun γ=>k2 (Gu (dF γ.1.2)) (k2 (Gp γ.2) (Gb (rfl:true=true)))) <|
  .leaf (Sum.inr (Sum.inl ())) [])
  (.run (cs 3 (tc::oa::oc::oF::(cs 3 [bf]))) (fun γ=>k2 (Gu (dF γ.1.2)) (k2 (Gw γ.2) (Gb (rfl:false=false)))) <|
  .gd (GP .i64 ((↑k3:Int)+1)) <| .run [oc,ow,oc] (fun γ=>Gb γ.2) <|
  .leaf (Sum.inl (k3+1)) [])))
  (.run (cs 2 ((.op none (.i k3))::(.tr (.eqt (.t 32) (.int .u8 (x35.toNat:Int))))::oa::oc::tc::oc::(.op none (.i k3))::(.tr (.eqt (.t 37) (.int .u8 (x35.toNat:Int))))::oa::(cs 2 (oF::oc::(.op none (.i k3))::(.tr (.eqt (.t 43) (.int .u8 (x35.toNat:Int))))::oa::(cs 2 []))))) (fun γ=>k2 (ir γ.1.1.1.2) (k2 ((Hy γ.1.1.1.2):(.int .u8 ((List.getD s_0 k3 0).toNat:Int):AV)=.int .u8 (x35.toNat:Int)) (k2 (dT γ.1.2) (k2 (ir γ.1.1.1.2) (k2 ((Hy γ.1.1.1.2):(.int .u8 ((List.getD s_0 k3 0).toNat:Int):AV)=.int .u8 (x35.toNat:Int)) (k2 (dF γ.2) (k2 (ir γ.1.1.1.2) (Gb ((Hy γ.1.1.1.2):(.int .u8 ((List.getD s_0 k3 0).toNat:Int):AV)=.int .u8 (x35.toNat:Int)))))))))) <|
  .sp ((x35.toNat:Int)≤(122:Int))
  (.run (cs 3 (oF::(cs 6 [bf]))) (fun γ=>k2 (Gs (dT γ.2)) (Gb (rfl:false=false))) <|
  .gd (GP .i64 ((↑k3:Int)+1)) <| .run [oc,ow,oc] (fun γ=>Gb γ.2) <|
  .leaf (Sum.inl (k3+1)) [])
  (.sp ((↑k3:Int)=(0:Int))
  (.run (cs 3 (tc::oa::oc::tc::(cs 3 [bt,oc]))) (fun γ=>k2 (Gu (dF γ.1.2)) (k2 (Gp γ.2) (Gb (rfl:true=true)))) <|
  .leaf (Sum.inr (Sum.inl ())) [])
  (.run (cs 3 (tc::oa::oc::oF::(cs 3 []))) (fun γ=>k2 (Gu (dF γ.1.2)) (Gb (Gw γ.2))) <|
  .sp ((x35.toNat:Int)=(45:Int))
  (.run [bf] (fun γ=>Gb (Gs (Gp γ.2))) <|
  .gd (GP .i64 ((↑k3:Int)+1)) <| .run [oc,ow,oc] (fun γ=>Gb γ.2) <|
  .leaf (Sum.inl (k3+1)) [])
  (.run [bt,oc] (fun γ=>Gb (Gu (Gw γ.2))) <|
  .leaf (Sum.inr (Sum.inl ())) [])))))
  (.run (cs 2 ((.op none (.i k3))::(.tr (.eqt (.t 32) (.int .u8 (x35.toNat:Int))))::oa::oc::oF::(cs 7 ((.op none (.i k3))::(.tr (.eqt (.t 43) (.int .u8 (x35.toNat:Int))))::oa::(cs 2 []))))) (fun γ=>k2 (ir γ.1.1.2) (k2 ((Hy γ.1.1.2):(.int .u8 ((List.getD s_0 k3 0).toNat:Int):AV)=.int .u8 (x35.toNat:Int)) (k2 (dF γ.2) (k2 (ir γ.1.1.2) (Gb ((Hy γ.1.1.2):(.int .u8 ((List.getD s_0 k3 0).toNat:Int):AV)=.int .u8 (x35.toNat:Int))))))) <|
  .sp ((x35.toNat:Int)≤(122:Int))
  (.run (cs 3 (oF::(cs 6 [bf]))) (fun γ=>k2 (Gs (dT γ.2)) (Gb (rfl:false=false))) <|
  .gd (GP .i64 ((↑k3:Int)+1)) <| .run [oc,ow,oc] (fun γ=>Gb γ.2) <|
  .leaf (Sum.inl (k3+1)) [])
  (.sp ((↑k3:Int)=(0:Int))
  (.run (cs 3 (tc::oa::oc::tc::(cs 3 [bt,oc]))) (fun γ=>k2 (Gu (dF γ.1.2)) (k2 (Gp γ.2) (Gb (rfl:true=true)))) <|
  .leaf (Sum.inr (Sum.inl ())) [])
  (.run (cs 3 (tc::oa::oc::oF::(cs 3 []))) (fun γ=>k2 (Gu (dF γ.1.2)) (Gb (Gw γ.2))) <|
  .sp ((x35.toNat:Int)=(45:Int))
  (.run [bf] (fun γ=>Gb (Gs (Gp γ.2))) <|
  .gd (GP .i64 ((↑k3:Int)+1)) <| .run [oc,ow,oc] (fun γ=>Gb γ.2) <|
  .leaf (Sum.inl (k3+1)) [])
  (.run [bt,oc] (fun γ=>Gb (Gu (Gw γ.2))) <|
  .leaf (Sum.inr (Sum.inl ())) [])))))
  (.run (cs 2 ((.op none (.i k3))::(.tr (.eqt (.t 22) (.int .u8 (x35.toNat:Int))))::oa::oc::oF::(cs 5 []))) (fun γ=>k2 (ir γ.1.2) (k2 ((Hy γ.1.2):(.int .u8 ((List.getD s_0 k3 0).toNat:Int):AV)=.int .u8 (x35.toNat:Int)) (Gb (dF γ.2)))) <|
  .sp ((x35.toNat:Int)≥(48:Int))
  (.sp ((x35.toNat:Int)≤(57:Int))
  (.run (cs 2 ((.op none (.i k3))::(.tr (.eqt (.t 32) (.int .u8 (x35.toNat:Int))))::oa::oc::tc::oc::(.op none (.i k3))::(.tr (.eqt (.t 37) (.int .u8 (x35.toNat:Int))))::oa::(cs 2 (tc::(cs 5 []))))) (fun γ=>k2 (ir γ.1.1.1.2) (k2 ((Hy γ.1.1.1.2):(.int .u8 ((List.getD s_0 k3 0).toNat:Int):AV)=.int .u8 (x35.toNat:Int)) (k2 (dT γ.1.2) (k2 (ir γ.1.1.1.2) (k2 ((Hy γ.1.1.1.2):(.int .u8 ((List.getD s_0 k3 0).toNat:Int):AV)=.int .u8 (x35.toNat:Int)) (Gb (dT γ.2))))))) <|
  .sp ((↑k3:Int)=(0:Int))
  (.run (cs 4 (oa::oc::tc::(cs 3 [bt,oc]))) (fun γ=>k2 (Gp γ.2) (Gb (rfl:true=true))) <|
  .leaf (Sum.inr (Sum.inl ())) [])
  (.run (cs 4 (oa::oc::oF::(cs 3 [bf]))) (fun γ=>k2 (Gw γ.2) (Gb (rfl:false=false))) <|
  .gd (GP .i64 ((↑k3:Int)+1)) <| .run [oc,ow,oc] (fun γ=>Gb γ.2) <|
  .leaf (Sum.inl (k3+1)) []))
  (.run (cs 2 ((.op none (.i k3))::(.tr (.eqt (.t 32) (.int .u8 (x35.toNat:Int))))::oa::oc::tc::oc::(.op none (.i k3))::(.tr (.eqt (.t 37) (.int .u8 (x35.toNat:Int))))::oa::(cs 2 (oF::oc::(.op none (.i k3))::(.tr (.eqt (.t 43) (.int .u8 (x35.toNat:Int))))::oa::(cs 2 []))))) (fun γ=>k2 (ir γ.1.1.1.2) (k2 ((Hy γ.1.1.1.2):(.int .u8 ((List.getD s_0 k3 0).toNat:Int):AV)=.int .u8 (x35.toNat:Int)) (k2 (dT γ.1.2) (k2 (ir γ.1.1.1.2) (k2 ((Hy γ.1.1.1.2):(.int .u8 ((List.getD s_0 k3 0).toNat:Int):AV)=.int .u8 (x35.toNat:Int)) (k2 (dF γ.2) (k2 (ir γ.1.1.1.2) (Gb ((Hy γ.1.1.1.2):(.int .u8 ((List.getD s_0 k3 0).toNat:Int):AV)=.int .u8 (x35.toNat:Int)))))))))) <|
  .sp ((↑k3:Int)=(0:Int))
  (.run (cs 4 (oa::oc::tc::(cs 3 [bt,oc]))) (fun γ=>k2 (Gp γ.2) (Gb (rfl:true=true))) <|
  .leaf (Sum.inr (Sum.inl ())) [])
  (.run (cs 4 (oa::oc::oF::(cs 3 []))) (fun γ=>Gb (Gw γ.2)) <|
  .sp ((x35.toNat:Int)=(45:Int))
  (.run [bf] (fun γ=>Gb (Gs (Gp γ.2))) <|
  .gd (GP .i64 ((↑k3:Int)+1)) <| .run [oc,ow,oc] (fun γ=>Gb γ.2) <|
  .leaf (Sum.inl (k3+1)) [])
  (.run [bt,oc] (fun γ=>Gb (Gu (Gw γ.2))) <|
  .leaf (Sum.inr (Sum.inl ())) []))))
  (.run (cs 2 ((.op none (.i k3))::(.tr (.eqt (.t 32) (.int .u8 (x35.toNat:Int))))::oa::oc::oF::(cs 7 ((.op none (.i k3))::(.tr (.eqt (.t 43) (.int .u8 (x35.toNat:Int))))::oa::(cs 2 []))))) (fun γ=>k2 (ir γ.1.1.2) (k2 ((Hy γ.1.1.2):(.int .u8 ((List.getD s_0 k3 0).toNat:Int):AV)=.int .u8 (x35.toNat:Int)) (k2 (dF γ.2) (k2 (ir γ.1.1.2) (Gb ((Hy γ.1.1.2):(.int .u8 ((List.getD s_0 k3 0).toNat:Int):AV)=.int .u8 (x35.toNat:Int))))))) <|
  .sp ((↑k3:Int)=(0:Int))
  (.run (cs 4 (oa::oc::tc::(cs 3 [bt,oc]))) (fun γ=>k2 (Gp γ.2) (Gb (rfl:true=true))) <|
  .leaf (Sum.inr (Sum.inl ())) [])
  (.run (cs 4 (oa::oc::oF::(cs 3 []))) (fun γ=>Gb (Gw γ.2)) <|
  .sp ((x35.toNat:Int)=(45:Int))
  (.run [bf] (fun γ=>Gb (Gs (Gp γ.2))) <|
  .gd (GP .i64 ((↑k3:Int)+1)) <| .run [oc,ow,oc] (fun γ=>Gb γ.2) <|
  .leaf (Sum.inl (k3+1)) [])
  (.run [bt,oc] (fun γ=>Gb (Gu (Gw γ.2))) <|
  .leaf (Sum.inr (Sum.inl ())) [])))))
  (.run [bf] (fun γ=>Gb (dF γ.2)) <|
  .leaf (Sum.inr (Sum.inr (()))) [])
def M0 (s_0:(List UInt8)):Nat→Option (Nat⊕(Unit⊕Unit)):=fun s=>(Zq s_0 s).den
def GjQ (s_0:(List UInt8)):Nat→PS:=fun s=>(56,[(0,.str s_0),(3,jI (↑s:Int))],[])
def GjI:(Unit⊕Unit)→Hm:=fun q=>match q with | Sum.inl o=>.ret | Sum.inr (o)=>(.exit 0)
def Gku (s_0:(List UInt8)):(Unit⊕Unit)→List (Nat×AV):=fun q=>match q with | Sum.inl o=>[(2,.bool false)] | Sum.inr (o)=>[]
def Gjn (s_0:(List UInt8)):(Unit⊕Unit)→List G6:=fun q=>match q with | Sum.inl o=>[] | Sum.inr (o)=>[]
theorem Geh (s_0:(List UInt8)) {s:Nat} {r:Unit⊕Unit} (h:lp (M0 s_0) s=some r):GI Tryz.prog GT 0 (.loop (GO Tryz.prog 63 [1,1,0,1,0,0])) (GjQ s_0 s).st (GjI r) (PS.st (56,Gku s_0 r,Gjn s_0 r)):=
 GI.lp_ht 0 400 (GjQ s_0) GjI (fun q=>(56,Gku s_0 q,Gjn s_0 q)) (Zq s_0) (by intro k3; kernel_rfl) h
def Glj (s_0:(List UInt8)):HT Bool True:=.run [oc] (fun _=>He) <|
  .sp ((↑s_0.length:Int)<(1:Int))
  (.run (cs 2 (oa::oc::tc::(cs 3 [bt,oc]))) (fun γ=>k2 (dT γ.2) (Gb (rfl:true=true))) <|
  .leaf false [])
  (.run (cs 2 [oa,oc,oF,oc,oa,oc]) (fun γ=>Gb (dF γ.2)) <|
  .sp ((↑s_0.length:Int)>(12:Int))
  (.run [bt,oc] (fun γ=>Gb (dT γ.2)) <|
  .leaf false [])
  (.run [bf,oc] (fun γ=>Gb (dF γ.2)) <|
  .bd (lp (M0 s_0) (0:Nat)) fun qq=>.cs qq (fun o3=>.run [.fcut 0 .ret [(2,.bool false)] [] [] [(0,.any),(3,jI (↑(0:Nat):Int))] []] (fun γ=>k2 (rfl:(jI 0:AV)=jI (↑(0:Nat):Int)) (Gb (Geh s_0 (s:=(0:Nat)) (r:=Sum.inl o3) (eS γ.1.2 γ.2)))) <|
  .leaf false [])
  (fun o3=>.run [.fcut 0 (.exit 0) [] [] [] [(0,.any),(3,jI (↑(0:Nat):Int))] [],oc] (fun γ=>k2 (rfl:(jI 0:AV)=jI (↑(0:Nat):Int)) (Gb (Geh s_0 (s:=(0:Nat)) (r:=Sum.inr (o3)) (eS γ.1.2 γ.2)))) <|
  .leaf true [])))
def MK (s_0:(List UInt8)):Option Bool:=(Glj s_0).den
theorem HW (s_0:(List UInt8)) (r:Bool) (h:MK s_0=some r):G5 Tryz.prog GT 63 [.str s_0] (.bool r) []:=
 G5.of_ht 400 (Glj s_0) (fun (r:Bool)=>.bool r) (fun (r:Bool)=>[]) (by kernel_rfl) h
def UH (s_0:(List UInt8)):Nat→HT (Nat⊕(Unit⊕Unit)) True
 | k3=>.run (cs 3 [oa]) (fun _=>He) <|
  .sp ((↑k3:Int)<(↑s_0.length:Int))
  (.run [bt] (fun γ=>Gb (dT γ.2)) <|
  .bd (s_0[k3]?) fun x29=>.run (cs 2 [.op none (.i k3),.tr (.eqt (.t 31) (.int .u8 (x29.toNat:Int))),oc]) (fun γ=>k2 (ir γ.2) (Gb ((Hy γ.2):(.int .u8 ((List.getD s_0 k3 0).toNat:Int):AV)=.int .u8 (x29.toNat:Int)))) <|
  .sp ((x29.toNat:Int)≥(97:Int))
  (.sp ((x29.toNat:Int)≤(122:Int))
  (.run (oc::oa::oc::tc::oa::(cs 2 (tc::(cs 11 [bf])))) (fun γ=>k2 (dT γ.1.2) (k2 (dT γ.2) (Gb (rfl:false=false)))) <|
  .gd (GP .i64 ((↑k3:Int)+1)) <| .run [oc,ow,oc] (fun γ=>Gb γ.2) <|
  .leaf (Sum.inl (k3+1)) [])
  (.sp ((x29.toNat:Int)≥(48:Int))
  (.sp ((x29.toNat:Int)≤(57:Int))
  (.run (oc::oa::oc::tc::oa::(cs 2 (oF::oa::oc::tc::oa::(cs 3 (tc::(cs 3 [bf])))))) (fun γ=>k2 (dT γ.1.1.1.2) (k2 (dF γ.1.1.2) (k2 (dT γ.1.2) (k2 (dT γ.2) (Gb (rfl:false=false)))))) <|
  .gd (GP .i64 ((↑k3:Int)+1)) <| .run [oc,ow,oc] (fun γ=>Gb γ.2) <|
  .leaf (Sum.inl (k3+1)) [])
  (.run (oc::oa::oc::tc::oa::(cs 2 (oF::oa::oc::tc::oa::(cs 3 (oF::oa::(cs 2 [])))))) (fun γ=>k2 (dT γ.1.1.1.2) (k2 (dF γ.1.1.2) (k2 (dT γ.1.2) (Gb (dF γ.2))))) <|
  .sp ((x29.toNat:Int)=(45:Int))
  (.run [bf] (fun γ=>Gb (Gs (Gp γ.2))) <|
  .gd (GP .i64 ((↑k3:Int)+1)) <| .run [oc,ow,oc] (fun γ=>Gb γ.2) <|
  .leaf (Sum.inl (k3+1)) [])
  (.run [bt,oc] (fun γ=>Gb (Gu (Gw γ.2))) <|
  .leaf (Sum.inr (Sum.inl ())) [])))
  (.run (oc::oa::oc::tc::oa::(cs 2 (oF::oa::oc::oF::(cs 5 (oa::(cs 2 [])))))) (fun γ=>k2 (dT γ.1.1.2) (k2 (dF γ.1.2) (Gb (dF γ.2)))) <|
  .sp ((x29.toNat:Int)=(45:Int))
  (.run [bf] (fun γ=>Gb (Gs (Gp γ.2))) <|
  .gd (GP .i64 ((↑k3:Int)+1)) <| .run [oc,ow,oc] (fun γ=>Gb γ.2) <|
  .leaf (Sum.inl (k3+1)) [])
  (.run [bt,oc] (fun γ=>Gb (Gu (Gw γ.2))) <|
  .leaf (Sum.inr (Sum.inl ())) []))))
  (.sp ((x29.toNat:Int)≥(48:Int))
  (.sp ((x29.toNat:Int)≤(57:Int))
  (.run (oc::oa::oc::oF::(cs 4 (oa::oc::tc::oa::(cs 3 (tc::(cs 3 [bf])))))) (fun γ=>k2 (dF γ.1.1.2) (k2 (dT γ.1.2) (k2 (dT γ.2) (Gb (rfl:false=false))))) <|
  .gd (GP .i64 ((↑k3:Int)+1)) <| .run [oc,ow,oc] (fun γ=>Gb γ.2) <|
  .leaf (Sum.inl (k3+1)) [])
  (.run (oc::oa::oc::oF::(cs 4 (oa::oc::tc::oa::(cs 3 (oF::oa::(cs 2 [])))))) (fun γ=>k2 (dF γ.1.1.2) (k2 (dT γ.1.2) (Gb (dF γ.2)))) <|
  .sp ((x29.toNat:Int)=(45:Int))
  (.run [bf] (fun γ=>Gb (Gs (Gp γ.2))) <|
  .gd (GP .i64 ((↑k3:Int)+1)) <| .run [oc,ow,oc] (fun γ=>Gb γ.2) <|
  .leaf (Sum.inl (k3+1)) [])
  (.run [bt,oc] (fun γ=>Gb (Gu (Gw γ.2))) <|
  .leaf (Sum.inr (Sum.inl ())) [])))
  (.run (oc::oa::oc::oF::(cs 4 (oa::oc::oF::(cs 5 (oa::(cs 2 [])))))) (fun γ=>k2 (dF γ.1.2) (Gb (dF γ.2))) <|
  .sp ((x29.toNat:Int)=(45:Int))
  (.run [bf] (fun γ=>Gb (Gs (Gp γ.2))) <|
  .gd (GP .i64 ((↑k3:Int)+1)) <| .run [oc,ow,oc] (fun γ=>Gb γ.2) <|
  .leaf (Sum.inl (k3+1)) [])
  (.run [bt,oc] (fun γ=>Gb (Gu (Gw γ.2))) <|
  .leaf (Sum.inr (Sum.inl ())) []))))
  (.run [bf] (fun γ=>Gb (dF γ.2)) <|
  .leaf (Sum.inr (Sum.inr (()))) [])
def KN (s_0:(List UInt8)):Nat→Option (Nat⊕(Unit⊕Unit)):=fun s=>(UH s_0 s).den
def Gf2 (s_0:(List UInt8)):Nat→PS:=fun s=>(51,[(0,.str s_0),(3,jI (↑s:Int))],[])
def Gfn:(Unit⊕Unit)→Hm:=fun q=>match q with | Sum.inl o=>.ret | Sum.inr (o)=>(.exit 0)
def Ge7 (s_0:(List UInt8)):(Unit⊕Unit)→List (Nat×AV):=fun q=>match q with | Sum.inl o=>[(2,.bool false)] | Sum.inr (o)=>[]
def Ggj (s_0:(List UInt8)):(Unit⊕Unit)→List G6:=fun q=>match q with | Sum.inl o=>[] | Sum.inr (o)=>[]
theorem Gbo (s_0:(List UInt8)) {s:Nat} {r:Unit⊕Unit} (h:lp (KN s_0) s=some r):GI Tryz.prog GT 0 (.loop (GO Tryz.prog 115 [1,1,0,1,0,0])) (Gf2 s_0 s).st (Gfn r) (PS.st (51,Ge7 s_0 r,Ggj s_0 r)):=
 GI.lp_ht 0 400 (Gf2 s_0) Gfn (fun q=>(51,Ge7 s_0 q,Ggj s_0 q)) (UH s_0) (by intro k3; kernel_rfl) h
def GfD (s_0:(List UInt8)):HT Bool True:=.run [oc] (fun _=>He) <|
  .sp ((↑s_0.length:Int)<(1:Int))
  (.run (cs 2 (oa::oc::tc::(cs 13 [bt,oc]))) (fun γ=>k2 (dT γ.2) (Gb (rfl:true=true))) <|
  .leaf false [])
  (.sp ((↑s_0.length:Int)>(12:Int))
  (.run (cs 2 (oa::oc::oF::oc::oa::(cs 2 (tc::(cs 8 [bt,oc]))))) (fun γ=>k2 (dF γ.1.2) (k2 (dT γ.2) (Gb (rfl:true=true)))) <|
  .leaf false [])
  (.bd (s_0[0]?) fun x3=>.sp ((x3.toNat:Int)<(97:Int))
  (.run (cs 2 (oa::oc::oF::oc::oa::(cs 2 (oF::(.op none (.i 0))::(.tr (.eqt (.t 15) (.int .u8 (x3.toNat:Int))))::oa::(cs 2 (tc::(cs 3 [bt,oc]))))))) (fun γ=>k2 (dF γ.1.1.1.2) (k2 (dF γ.1.1.2) (k2 (ir γ.1.2) (k2 ((Hy γ.1.2):(.int .u8 ((List.getD s_0 0 0).toNat:Int):AV)=.int .u8 (x3.toNat:Int)) (k2 (dT γ.2) (Gb (rfl:true=true))))))) <|
  .leaf false [])
  (.run (cs 2 (oa::oc::oF::oc::oa::(cs 2 (oF::(.op none (.i 0))::(.tr (.eqt (.t 15) (.int .u8 (x3.toNat:Int))))::oa::(cs 2 [oF,.op none (.i 0),.tr (.eqt (.t 20) (.int .u8 (x3.toNat:Int))),oa,oc]))))) (fun γ=>k2 (dF γ.1.1.1.2) (k2 (dF γ.1.1.2) (k2 (ir γ.1.2) (k2 ((Hy γ.1.2):(.int .u8 ((List.getD s_0 0 0).toNat:Int):AV)=.int .u8 (x3.toNat:Int)) (k2 (dF γ.2) (k2 (ir γ.1.2) (Gb ((Hy γ.1.2):(.int .u8 ((List.getD s_0 0 0).toNat:Int):AV)=.int .u8 (x3.toNat:Int))))))))) <|
  .sp ((x3.toNat:Int)>(122:Int))
  (.run [bt,oc] (fun γ=>Gb (dT γ.2)) <|
  .leaf false [])
  (.run [bf,oc] (fun γ=>Gb (dF γ.2)) <|
  .bd (lp (KN s_0) (0:Nat)) fun qq=>.cs qq (fun o7=>.run [.fcut 0 .ret [(2,.bool false)] [] [] [(0,.any),(3,jI (↑(0:Nat):Int))] []] (fun γ=>k2 (rfl:(jI 0:AV)=jI (↑(0:Nat):Int)) (Gb (Gbo s_0 (s:=(0:Nat)) (r:=Sum.inl o7) (eS γ.1.2 γ.2)))) <|
  .leaf false [])
  (fun o7=>.run [.fcut 0 (.exit 0) [] [] [] [(0,.any),(3,jI (↑(0:Nat):Int))] [],oc] (fun γ=>k2 (rfl:(jI 0:AV)=jI (↑(0:Nat):Int)) (Gb (Gbo s_0 (s:=(0:Nat)) (r:=Sum.inr (o7)) (eS γ.1.2 γ.2)))) <|
  .leaf true [])))))
def GgV (s_0:(List UInt8)):Option Bool:=(GfD s_0).den
theorem Gn0 (s_0:(List UInt8)) (r:Bool) (h:GgV s_0=some r):G5 Tryz.prog GT 115 [.str s_0] (.bool r) []:=
 G5.of_ht 400 (GfD s_0) (fun (r:Bool)=>.bool r) (fun (r:Bool)=>[]) (by kernel_rfl) h
def Vq (s_0:(List UInt8)):Nat→HT (Nat⊕(Unit⊕Unit)) True
 | k3=>.run (cs 3 [oa]) (fun _=>He) <|
  .sp ((↑k3:Int)<(↑s_0.length:Int))
  (.run [bt] (fun γ=>Gb (dT γ.2)) <|
  .bd (s_0[k3]?) fun x29=>.run (cs 2 [.op none (.i k3),.tr (.eqt (.t 31) (.int .u8 (x29.toNat:Int))),oc]) (fun γ=>k2 (ir γ.2) (Gb ((Hy γ.2):(.int .u8 ((List.getD s_0 k3 0).toNat:Int):AV)=.int .u8 (x29.toNat:Int)))) <|
  .sp ((x29.toNat:Int)≥(97:Int))
  (.sp ((x29.toNat:Int)≤(122:Int))
  (.run (oc::oa::oc::tc::oa::(cs 2 (tc::(cs 11 [bf])))) (fun γ=>k2 (dT γ.1.2) (k2 (dT γ.2) (Gb (rfl:false=false)))) <|
  .gd (GP .i64 ((↑k3:Int)+1)) <| .run [oc,ow,oc] (fun γ=>Gb γ.2) <|
  .leaf (Sum.inl (k3+1)) [])
  (.sp ((x29.toNat:Int)≥(48:Int))
  (.sp ((x29.toNat:Int)≤(57:Int))
  (.run (oc::oa::oc::tc::oa::(cs 2 (oF::oa::oc::tc::oa::(cs 3 (tc::(cs 3 [bf])))))) (fun γ=>k2 (dT γ.1.1.1.2) (k2 (dF γ.1.1.2) (k2 (dT γ.1.2) (k2 (dT γ.2) (Gb (rfl:false=false)))))) <|
  .gd (GP .i64 ((↑k3:Int)+1)) <| .run [oc,ow,oc] (fun γ=>Gb γ.2) <|
  .leaf (Sum.inl (k3+1)) [])
  (.run (oc::oa::oc::tc::oa::(cs 2 (oF::oa::oc::tc::oa::(cs 3 (oF::oa::(cs 2 [])))))) (fun γ=>k2 (dT γ.1.1.1.2) (k2 (dF γ.1.1.2) (k2 (dT γ.1.2) (Gb (dF γ.2))))) <|
  .sp ((x29.toNat:Int)=(45:Int))
  (.run [bf] (fun γ=>Gb (Gs (Gp γ.2))) <|
  .gd (GP .i64 ((↑k3:Int)+1)) <| .run [oc,ow,oc] (fun γ=>Gb γ.2) <|
  .leaf (Sum.inl (k3+1)) [])
  (.run [bt,oc] (fun γ=>Gb (Gu (Gw γ.2))) <|
  .leaf (Sum.inr (Sum.inl ())) [])))
  (.run (oc::oa::oc::tc::oa::(cs 2 (oF::oa::oc::oF::(cs 5 (oa::(cs 2 [])))))) (fun γ=>k2 (dT γ.1.1.2) (k2 (dF γ.1.2) (Gb (dF γ.2)))) <|
  .sp ((x29.toNat:Int)=(45:Int))
  (.run [bf] (fun γ=>Gb (Gs (Gp γ.2))) <|
  .gd (GP .i64 ((↑k3:Int)+1)) <| .run [oc,ow,oc] (fun γ=>Gb γ.2) <|
  .leaf (Sum.inl (k3+1)) [])
  (.run [bt,oc] (fun γ=>Gb (Gu (Gw γ.2))) <|
  .leaf (Sum.inr (Sum.inl ())) []))))
  (.sp ((x29.toNat:Int)≥(48:Int))
  (.sp ((x29.toNat:Int)≤(57:Int))
  (.run (oc::oa::oc::oF::(cs 4 (oa::oc::tc::oa::(cs 3 (tc::(cs 3 [bf])))))) (fun γ=>k2 (dF γ.1.1.2) (k2 (dT γ.1.2) (k2 (dT γ.2) (Gb (rfl:false=false))))) <|
  .gd (GP .i64 ((↑k3:Int)+1)) <| .run [oc,ow,oc] (fun γ=>Gb γ.2) <|
  .leaf (Sum.inl (k3+1)) [])
  (.run (oc::oa::oc::oF::(cs 4 (oa::oc::tc::oa::(cs 3 (oF::oa::(cs 2 [])))))) (fun γ=>k2 (dF γ.1.1.2) (k2 (dT γ.1.2) (Gb (dF γ.2)))) <|
  .sp ((x29.toNat:Int)=(45:Int))
  (.run [bf] (fun γ=>Gb (Gs (Gp γ.2))) <|
  .gd (GP .i64 ((↑k3:Int)+1)) <| .run [oc,ow,oc] (fun γ=>Gb γ.2) <|
  .leaf (Sum.inl (k3+1)) [])
  (.run [bt,oc] (fun γ=>Gb (Gu (Gw γ.2))) <|
  .leaf (Sum.inr (Sum.inl ())) [])))
  (.run (oc::oa::oc::oF::(cs 4 (oa::oc::oF::(cs 5 (oa::(cs 2 [])))))) (fun γ=>k2 (dF γ.1.2) (Gb (dF γ.2))) <|
  .sp ((x29.toNat:Int)=(45:Int))
  (.run [bf] (fun γ=>Gb (Gs (Gp γ.2))) <|
  .gd (GP .i64 ((↑k3:Int)+1)) <| .run [oc,ow,oc] (fun γ=>Gb γ.2) <|
  .leaf (Sum.inl (k3+1)) [])
  (.run [bt,oc] (fun γ=>Gb (Gu (Gw γ.2))) <|
  .leaf (Sum.inr (Sum.inl ())) []))))
  (.run [bf] (fun γ=>Gb (dF γ.2)) <|
  .leaf (Sum.inr (Sum.inr (()))) [])
def K1 (s_0:(List UInt8)):Nat→Option (Nat⊕(Unit⊕Unit)):=fun s=>(Vq s_0 s).den
def GeP (s_0:(List UInt8)):Nat→PS:=fun s=>(51,[(0,.str s_0),(3,jI (↑s:Int))],[])
def Ge6:(Unit⊕Unit)→Hm:=fun q=>match q with | Sum.inl o=>.ret | Sum.inr (o)=>(.exit 0)
def GeR (s_0:(List UInt8)):(Unit⊕Unit)→List (Nat×AV):=fun q=>match q with | Sum.inl o=>[(2,.bool false)] | Sum.inr (o)=>[]
def GfK (s_0:(List UInt8)):(Unit⊕Unit)→List G6:=fun q=>match q with | Sum.inl o=>[] | Sum.inr (o)=>[]
theorem Gbb (s_0:(List UInt8)) {s:Nat} {r:Unit⊕Unit} (h:lp (K1 s_0) s=some r):GI Tryz.prog GT 0 (.loop (GO Tryz.prog 106 [1,1,0,1,0,0])) (GeP s_0 s).st (Ge6 r) (PS.st (51,GeR s_0 r,GfK s_0 r)):=
 GI.lp_ht 0 400 (GeP s_0) Ge6 (fun q=>(51,GeR s_0 q,GfK s_0 q)) (Vq s_0) (by intro k3; kernel_rfl) h
def GeV (s_0:(List UInt8)):HT Bool True:=.run [oc] (fun _=>He) <|
  .sp ((↑s_0.length:Int)<(1:Int))
  (.run (cs 2 (oa::oc::tc::(cs 13 [bt,oc]))) (fun γ=>k2 (dT γ.2) (Gb (rfl:true=true))) <|
  .leaf false [])
  (.sp ((↑s_0.length:Int)>(12:Int))
  (.run (cs 2 (oa::oc::oF::oc::oa::(cs 2 (tc::(cs 8 [bt,oc]))))) (fun γ=>k2 (dF γ.1.2) (k2 (dT γ.2) (Gb (rfl:true=true)))) <|
  .leaf false [])
  (.bd (s_0[0]?) fun x3=>.sp ((x3.toNat:Int)<(97:Int))
  (.run (cs 2 (oa::oc::oF::oc::oa::(cs 2 (oF::(.op none (.i 0))::(.tr (.eqt (.t 15) (.int .u8 (x3.toNat:Int))))::oa::(cs 2 (tc::(cs 3 [bt,oc]))))))) (fun γ=>k2 (dF γ.1.1.1.2) (k2 (dF γ.1.1.2) (k2 (ir γ.1.2) (k2 ((Hy γ.1.2):(.int .u8 ((List.getD s_0 0 0).toNat:Int):AV)=.int .u8 (x3.toNat:Int)) (k2 (dT γ.2) (Gb (rfl:true=true))))))) <|
  .leaf false [])
  (.run (cs 2 (oa::oc::oF::oc::oa::(cs 2 (oF::(.op none (.i 0))::(.tr (.eqt (.t 15) (.int .u8 (x3.toNat:Int))))::oa::(cs 2 [oF,.op none (.i 0),.tr (.eqt (.t 20) (.int .u8 (x3.toNat:Int))),oa,oc]))))) (fun γ=>k2 (dF γ.1.1.1.2) (k2 (dF γ.1.1.2) (k2 (ir γ.1.2) (k2 ((Hy γ.1.2):(.int .u8 ((List.getD s_0 0 0).toNat:Int):AV)=.int .u8 (x3.toNat:Int)) (k2 (dF γ.2) (k2 (ir γ.1.2) (Gb ((Hy γ.1.2):(.int .u8 ((List.getD s_0 0 0).toNat:Int):AV)=.int .u8 (x3.toNat:Int))))))))) <|
  .sp ((x3.toNat:Int)>(122:Int))
  (.run [bt,oc] (fun γ=>Gb (dT γ.2)) <|
  .leaf false [])
  (.run [bf,oc] (fun γ=>Gb (dF γ.2)) <|
  .bd (lp (K1 s_0) (0:Nat)) fun qq=>.cs qq (fun o7=>.run [.fcut 0 .ret [(2,.bool false)] [] [] [(0,.any),(3,jI (↑(0:Nat):Int))] []] (fun γ=>k2 (rfl:(jI 0:AV)=jI (↑(0:Nat):Int)) (Gb (Gbb s_0 (s:=(0:Nat)) (r:=Sum.inl o7) (eS γ.1.2 γ.2)))) <|
  .leaf false [])
  (fun o7=>.run [.fcut 0 (.exit 0) [] [] [] [(0,.any),(3,jI (↑(0:Nat):Int))] [],oc] (fun γ=>k2 (rfl:(jI 0:AV)=jI (↑(0:Nat):Int)) (Gb (Gbb s_0 (s:=(0:Nat)) (r:=Sum.inr (o7)) (eS γ.1.2 γ.2)))) <|
  .leaf true [])))))
def Xa (s_0:(List UInt8)):Option Bool:=(GeV s_0).den
theorem Xo (s_0:(List UInt8)) (r:Bool) (h:Xa s_0=some r):G5 Tryz.prog GT 106 [.str s_0] (.bool r) []:=
 G5.of_ht 400 (GeV s_0) (fun (r:Bool)=>.bool r) (fun (r:Bool)=>[]) (by kernel_rfl) h
end
set_option maxHeartbeats 4000000
noncomputable section
theorem Gu4 (s:List UInt8) (k:Nat) (h:k<s.length) (h2:k<(⟨s.toArray⟩:ByteArray).size):(⟨s.toArray⟩:ByteArray)[k]=s[k]:=by
 show s.toArray[k]=s[k]
 simp
theorem GkQ (s:List UInt8) (k:Nat) (h:k<s.length) (ha:s[k].toNat<128):dec s k=(s[k].toNat,1):=by
 have h2:k<(⟨s.toArray⟩:ByteArray).size:=by simpa [ByteArray.size] using h
 have:=Go.decode_ascii ⟨s.toArray⟩ k h2 (by rw [Gu4 s k h h2]; exact ha)
 rw [Gu4 s k h h2] at this
 exact this
theorem Gro (s:List UInt8) (k:Nat) (h:k<s.length) (ha:128≤s[k].toNat):128≤(dec s k).1:=by
 have h2:k<(⟨s.toArray⟩:ByteArray).size:=by simpa [ByteArray.size] using h
 exact (Go.decode_high ⟨s.toArray⟩ k h2 (by rw [Gu4 s k h h2]; exact ha)).1
def Geb (k:Nat) (b:Nat):Prop:=(97≤b∧b≤122)∨(k≠0∧((48≤b∧b≤57)∨b=45))
instance (k b:Nat):Decidable (Geb k b):=by unfold Geb; infer_instance
def nmN (k:Nat) (x:UInt8):Option Unit:=if Geb k x.toNat then none else some ()
def nm1 (k:Nat) (x:UInt8):Option Unit:=if Geb 1 x.toNat then none else some ()
def HE (s:List UInt8):Bool:=decide (1≤s.length∧s.length≤12∧GK nmN 0 s=none)
theorem JF (s:List UInt8):HC s=some (HE s):=by
 simp only [HC,Gfg,d1,d2,d3,d4,d5,d6,d7,eN,eM]
 have key:lp (KZ s) 0=some (HL (GK nmN 0 s)):=by
  refine GQ (fun k x hx=>?_) ?_
  ·have hk:=Hg hx
   have hxe:=(List.getElem?_eq_some_iff.1 hx).2
   simp only [KZ,UV,d1,d2,d3,d4,d5,d6,d7,eN,eM,hk,if_true,Option.bind_some]
   unfold nmN
   by_cases ha:x.toNat<128
   ·rw [show dec s k=(x.toNat,1) by rw [GkQ s k hk (by rw [hxe]; exact ha),hxe]]
    grind [KC,Geb]
   ·have:=Gro s k hk (by rw [hxe]; omega)
    generalize dec s k=q at this
    grind [KC,Geb]
  ·simp only [KZ,UV,d1,d3,d6,Nat.lt_irrefl,if_false]
 rw [key]
 unfold HE
 cases s with
 | nil=>simp
 | cons c t=>cases GK nmN 0 (c::t) <;> simp only [HL,Option.bind_some,eN,eM,List.length_cons] <;> grind
theorem K3 (s:List UInt8):MK s=some (HE s):=by
 simp only [MK,Glj,d1,d2,d3,d4,d5,d6,d7,eN,eM]
 by_cases hs:s.length≤12
 ·have key:lp (M0 s) 0=some (HL (GK nmN 0 s)):=by
   refine GQ (fun k x hx=>?_) ?_
   ·have hk:=Hg hx
    have i1:GP .i64 ((k:Int)+1):=KV (by omega) (by omega)
    simp only [M0,Zq,d1,d2,d3,d4,d5,d6,d7,eN,eM,hx,Option.bind_some,i1,if_true]
    clear i1
    unfold nmN
    grind [KC,Geb]
   ·simp only [M0,Zq,d1,d3,d6]
    rw [if_neg (by omega)]
  rw [key]
  unfold HE
  cases GK nmN 0 s <;> simp only [HL,Option.bind_some,eN,eM,List.length_cons] <;> grind
 ·unfold HE
  grind
theorem GqP {c:UInt8} {t:List UInt8} (h:Geb 0 c.toNat):GK nm1 0 (c::t)=GK nmN 0 (c::t):=
 Gr4 fun i x hx=>by
  unfold nm1 nmN
  cases i with
  | zero=>simp only [List.getElem?_cons_zero,sJ] at hx; subst hx; grind [Geb]
  | succ i=>grind [Geb]
theorem GuC {c:UInt8} {t:List UInt8} (h:¬ Geb 0 c.toNat):GK nmN 0 (c::t)=some ():=by
 unfold GK nmN
 rw [if_neg h]
theorem Gl4 (s:List UInt8):GgV s=some (HE s):=by
 simp only [GgV,GfD,d1,d2,d3,d4,d5,d6,d7,eN,eM]
 by_cases hs:s.length≤12
 ·have key:lp (KN s) 0=some (HL (GK nm1 0 s)):=by
   refine GQ (fun k x hx=>?_) ?_
   ·have hk:=Hg hx
    have i1:GP .i64 ((k:Int)+1):=KV (by omega) (by omega)
    simp only [KN,UH,d1,d2,d3,d4,d5,d6,d7,eN,eM,hx,Option.bind_some,i1,if_true]
    clear i1
    unfold nm1
    grind [KC,Geb]
   ·simp only [KN,UH,d1,d3,d6]
    rw [if_neg (by omega)]
  rw [key]
  unfold HE
  cases s with
  | nil=>simp
  | cons c t=>
   by_cases h:Geb 0 c.toNat
   ·rw [GqP h]
    cases GK nmN 0 (c::t) <;> simp only [HL,Option.bind_some,eN,eM,List.getElem?_cons_zero,List.length_cons] <;> grind [Geb]
   ·rw [GuC h]
    simp only [Option.bind_some,List.getElem?_cons_zero,List.length_cons]
    grind [Geb]
 ·unfold HE
  grind
theorem RN (s:List UInt8):Xa s=some (HE s):=by
 simp only [Xa,GeV,d1,d2,d3,d4,d5,d6,d7,eN,eM]
 by_cases hs:s.length≤12
 ·have key:lp (K1 s) 0=some (HL (GK nm1 0 s)):=by
   refine GQ (fun k x hx=>?_) ?_
   ·have hk:=Hg hx
    have i1:GP .i64 ((k:Int)+1):=KV (by omega) (by omega)
    simp only [K1,Vq,d1,d2,d3,d4,d5,d6,d7,eN,eM,hx,Option.bind_some,i1,if_true]
    clear i1
    unfold nm1
    grind [KC,Geb]
   ·simp only [K1,Vq,d1,d3,d6]
    rw [if_neg (by omega)]
  rw [key]
  unfold HE
  cases s with
  | nil=>simp
  | cons c t=>
   by_cases h:Geb 0 c.toNat
   ·rw [GqP h]
    cases GK nmN 0 (c::t) <;> simp only [HL,Option.bind_some,eN,eM,List.getElem?_cons_zero,List.length_cons] <;> grind [Geb]
   ·rw [GuC h]
    simp only [Option.bind_some,List.getElem?_cons_zero,List.length_cons]
    grind [Geb]
 ·unfold HE
  grind
end
set_option maxHeartbeats 4000000
set_option maxRecDepth 100000
noncomputable section
open Go Go.Proofs
def Q1 (n_0:Gc):(Nat×(List ((List UInt8)×Bool)))→HT ((Nat×(List ((List UInt8)×Bool)))⊕((Int×(List ((List UInt8)×Bool)))⊕(List ((List UInt8)×Bool)))) True
 | (k24,b1)=>.run [oa] (fun _=>He) <|
  .sp ((↑k24:Int)<(↑n_0.Points.length:Int))
  (.run [bt] (fun γ=>Gb (dT γ.2)) <|
  .bd (n_0.Points[k24]?) fun x57=>.run ((.op none (.i k24))::(.op none (.v [.str x57.Name,jI x57.Kind,.str x57.System]))::(cs 2 [])) (fun γ=>k2 (ir γ.2) (k2 (GC (f:=Gq.enc) (z:=2) (fun _=>rfl) γ.2) (Gb (GU (f:=Gq.enc) (z:=3) (j:=k24) (fun _=>rfl) γ.2 rfl)))) <|
  .bd (HC x57.Name) fun r59=>.run (cs 2 ((.ret none [.any] (.bool r59) [])::(cs 2 []))) (fun γ=>Gb (Ha x57.Name r59 γ.2)) <|
  .sp (r59=true)
  (.run [bf] (fun γ=>Gb ((Gs γ.2):(!r59)=false)) <|
  .sp (((V0 fst b1 x57.Name).isSome)=true)
  (.bd (V0 fst b1 x57.Name) fun q63=>.run (cs 3 [.op none (.v [.bool q63.2]),oc]) (fun γ=>Gb ((K2 Hx (k:=x57.Name) (KD x57.Name) γ.2):Ja (List.map Ho b1) (.str x57.Name)=some (.bool q63.2))) <|
  .sp (q63.2=true)
  (.run [bt,oc] (fun γ=>Gb γ.2) <|
  .leaf (Sum.inr (Sum.inl (9,b1))) [0,1])
  (.run [bf] (fun γ=>Gb ((eq_false_of_ne_true γ.2):q63.2=false)) <|
  .sp (x57.Kind<(1:Int))
  (.run (cs 2 (oa::oc::tc::(cs 4 [bt,oc]))) (fun γ=>k2 (dT γ.2) (Gb (rfl:true=true))) <|
  .leaf (Sum.inr (Sum.inl (1,b1))) [0,1])
  (.run (cs 2 (oa::oc::oF::oc::oa::(cs 2 []))) (fun γ=>Gb (dF γ.2)) <|
  .sp (x57.Kind>(4:Int))
  (.run [bt,oc] (fun γ=>Gb (dT γ.2)) <|
  .leaf (Sum.inr (Sum.inl (1,b1))) [0,1])
  (.run [bf] (fun γ=>Gb (dF γ.2)) <|
  .sp (x57.System=[])
  (.run (cs 2 (oa::oc::oF::(cs 5 (bf::(cs 4 [.tr (.mp 1 (List.map Ho (HU fst b1 (x57.Name,true))))]))))) (fun γ=>k2 (Gs (Gp γ.2)) (k2 (rfl:false=false) (Gb ((List.Perm.of_eq (Xl (κ:=fst) Hx b1 (x57.Name,true))):List.Perm (YA (List.map Ho b1) (.str x57.Name) (.bool true)) (List.map Ho (HU fst b1 (x57.Name,true))))))) <|
  .gd (GP .i64 ((↑k24:Int)+1)) <| .run [ow,oc] (fun γ=>Gb γ.2) <|
  .leaf (Sum.inl ((k24+1),(HU fst b1 (x57.Name,true)))) [0,1])
  (.bd (HC x57.System) fun r70=>.run (cs 2 (oa::oc::tc::oc::(.ret none [.any] (.bool r70) [])::(cs 3 []))) (fun γ=>k2 (Gu (Gw γ.1.2)) (Gb (Ha x57.System r70 γ.2))) <|
  .sp (r70=true)
  (.run (bf::(cs 4 [.tr (.mp 1 (List.map Ho (HU fst b1 (x57.Name,true))))])) (fun γ=>k2 ((Gs γ.2):(!r70)=false) (Gb ((List.Perm.of_eq (Xl (κ:=fst) Hx b1 (x57.Name,true))):List.Perm (YA (List.map Ho b1) (.str x57.Name) (.bool true)) (List.map Ho (HU fst b1 (x57.Name,true)))))) <|
  .gd (GP .i64 ((↑k24:Int)+1)) <| .run [ow,oc] (fun γ=>Gb γ.2) <|
  .leaf (Sum.inl ((k24+1),(HU fst b1 (x57.Name,true)))) [0,1])
  (.run [bt,oc] (fun γ=>Gb ((Gu (eq_false_of_ne_true γ.2)):(!r70)=true)) <|
  .leaf (Sum.inr (Sum.inl (6,b1))) [0,1]))))))
  (.run (cs 3 [.op none (.b false),oc,bf]) (fun γ=>k2 ((VR Hx (k:=x57.Name) (KD x57.Name) (GgI γ.2)):Ja (List.map Ho b1) (.str x57.Name)=none) (Gb (rfl:false=false))) <|
  .sp (x57.Kind<(1:Int))
  (.run (cs 2 (oa::oc::tc::(cs 4 [bt,oc]))) (fun γ=>k2 (dT γ.2) (Gb (rfl:true=true))) <|
  .leaf (Sum.inr (Sum.inl (1,b1))) [0,1])
  (.run (cs 2 (oa::oc::oF::oc::oa::(cs 2 []))) (fun γ=>Gb (dF γ.2)) <|
  .sp (x57.Kind>(4:Int))
  (.run [bt,oc] (fun γ=>Gb (dT γ.2)) <|
  .leaf (Sum.inr (Sum.inl (1,b1))) [0,1])
  (.run [bf] (fun γ=>Gb (dF γ.2)) <|
  .sp (x57.System=[])
  (.run (cs 2 (oa::oc::oF::(cs 5 (bf::(cs 4 [.tr (.mp 1 (List.map Ho (HU fst b1 (x57.Name,true))))]))))) (fun γ=>k2 (Gs (Gp γ.2)) (k2 (rfl:false=false) (Gb ((List.Perm.of_eq (Xl (κ:=fst) Hx b1 (x57.Name,true))):List.Perm (YA (List.map Ho b1) (.str x57.Name) (.bool true)) (List.map Ho (HU fst b1 (x57.Name,true))))))) <|
  .gd (GP .i64 ((↑k24:Int)+1)) <| .run [ow,oc] (fun γ=>Gb γ.2) <|
  .leaf (Sum.inl ((k24+1),(HU fst b1 (x57.Name,true)))) [0,1])
  (.bd (HC x57.System) fun r78=>.run (cs 2 (oa::oc::tc::oc::(.ret none [.any] (.bool r78) [])::(cs 3 []))) (fun γ=>k2 (Gu (Gw γ.1.2)) (Gb (Ha x57.System r78 γ.2))) <|
  .sp (r78=true)
  (.run (bf::(cs 4 [.tr (.mp 1 (List.map Ho (HU fst b1 (x57.Name,true))))])) (fun γ=>k2 ((Gs γ.2):(!r78)=false) (Gb ((List.Perm.of_eq (Xl (κ:=fst) Hx b1 (x57.Name,true))):List.Perm (YA (List.map Ho b1) (.str x57.Name) (.bool true)) (List.map Ho (HU fst b1 (x57.Name,true)))))) <|
  .gd (GP .i64 ((↑k24:Int)+1)) <| .run [ow,oc] (fun γ=>Gb γ.2) <|
  .leaf (Sum.inl ((k24+1),(HU fst b1 (x57.Name,true)))) [0,1])
  (.run [bt,oc] (fun γ=>Gb ((Gu (eq_false_of_ne_true γ.2)):(!r78)=true)) <|
  .leaf (Sum.inr (Sum.inl (6,b1))) [0,1]))))))
  (.run [bt,oc] (fun γ=>Gb ((Gu (eq_false_of_ne_true γ.2)):(!r59)=true)) <|
  .leaf (Sum.inr (Sum.inl (6,b1))) [0,1]))
  (.run [bf] (fun γ=>Gb (dF γ.2)) <|
  .leaf (Sum.inr (Sum.inr (b1))) [0,1])
def Jj (n_0:Gc):(Nat×(List ((List UInt8)×Bool)))→Option ((Nat×(List ((List UInt8)×Bool)))⊕((Int×(List ((List UInt8)×Bool)))⊕(List ((List UInt8)×Bool)))):=fun s=>(Q1 n_0 s).den
def GdI (n_0:Gc):(Nat×(List ((List UInt8)×Bool)))→PS:=fun s=>(117,[(1,.ptr 0 0),(3,.mapr 1),(22,.lst (fl Gq.enc n_0.Points) n_0.Points.length),(23,jI (↑n_0.Points.length:Int)),(24,jI (↑s.1:Int))],[(bT (Gc.enc n_0) 38),(bM .s (List.map Ho s.2))])
def Gc9:((Int×(List ((List UInt8)×Bool)))⊕(List ((List UInt8)×Bool)))→Hm:=fun q=>match q with | Sum.inl o=>.ret | Sum.inr (o)=>(.exit 0)
def GdD (n_0:Gc):((Int×(List ((List UInt8)×Bool)))⊕(List ((List UInt8)×Bool)))→List (Nat×AV):=fun q=>match q with | Sum.inl o=>[(2,jI o.1)] | Sum.inr (o)=>[(1,.ptr 0 0),(3,.mapr 1)]
def Rh (n_0:Gc):((Int×(List ((List UInt8)×Bool)))⊕(List ((List UInt8)×Bool)))→List G6:=fun q=>match q with | Sum.inl o=>[(bT (Gc.enc n_0) 38),(bM .s (List.map Ho o.2))] | Sum.inr (o)=>[(bT (Gc.enc n_0) 38),(bM .s (List.map Ho o))]
theorem Y2 (n_0:Gc) {s:(Nat×(List ((List UInt8)×Bool)))} {r:(Int×(List ((List UInt8)×Bool)))⊕(List ((List UInt8)×Bool))} (h:lp (Jj n_0) s=some r):GI Tryz.prog GT 2 (.loop (GO Tryz.prog 164 [1,1,1,0,1,0,0])) (GdI n_0 s).st (Gc9 r) (PS.st (117,GdD n_0 r,Rh n_0 r)):=
 GI.lp_ht 2 400 (GdI n_0) Gc9 (fun q=>(117,GdD n_0 q,Rh n_0 q)) (Q1 n_0) (by rintro ⟨k24,b1⟩; kernel_rfl) h
def Qs (n_0:Gc) (o3:(List ((List UInt8)×Bool))):(Nat×(List (GZ×Bool)))→HT ((Nat×(List (GZ×Bool)))⊕((Int×(List (GZ×Bool)))⊕(List (GZ×Bool)))) True
 | (k65,b4)=>.run [oa] (fun _=>He) <|
  .sp ((↑k65:Int)<(↑n_0.Links.length:Int))
  (.run [bt] (fun γ=>Gb (dT γ.2)) <|
  .bd (n_0.Links[k65]?) fun x132=>.run ((.op none (.i k65))::(.op none (.v [.str x132.From,.str x132.To,jI x132.Min,jI x132.Max]))::(cs 9 [])) (fun γ=>k2 (ir γ.2) (k2 (GC (f:=G1.enc) (z:=3) (fun _=>rfl) γ.2) (Gb (GU (f:=G1.enc) (z:=4) (j:=k65) (fun _=>rfl) γ.2 rfl)))) <|
  .sp (((V0 fst o3 x132.From).isSome)=true)
  (.bd (V0 fst o3 x132.From) fun q135=>.sp (q135.2=true)
  (.sp (((V0 fst o3 x132.To).isSome)=true)
  (.bd (V0 fst o3 x132.To) fun q139=>.sp (q139.2=true)
  (.run (cs 3 ((.op none (.v [.bool q135.2]))::(cs 2 (oF::(cs 2 ((.op none (.v [.bool q139.2]))::(cs 3 (oF::(cs 3 (oa::(cs 2 []))))))))))) (fun γ=>k2 ((K2 Hx (k:=x132.From) (KD x132.From) γ.1.1.1.1.2):Ja (List.map Ho o3) (.str x132.From)=some (.bool q135.2)) (k2 ((Gs γ.1.1.1.2):(!q135.2)=false) (k2 ((K2 Hx (k:=x132.To) (KD x132.To) γ.1.2):Ja (List.map Ho o3) (.str x132.To)=some (.bool q139.2)) (Gb ((Gs γ.2):(!q139.2)=false))))) <|
  .sp (x132.From=x132.To)
  (.run [bt,oc] (fun γ=>Gb (Gp γ.2)) <|
  .leaf (Sum.inr (Sum.inl (16,b4))) [0,1])
  (.run [bf] (fun γ=>Gb (Gw γ.2)) <|
  .sp (((V0 fst b4 (⟨x132.From,x132.To⟩:GZ)).isSome)=true)
  (.bd (V0 fst b4 (⟨x132.From,x132.To⟩:GZ)) fun q144=>.run (cs 2 [.op none (.v [.bool q144.2]),oc]) (fun γ=>Gb ((K2 KJ (k:=(⟨x132.From,x132.To⟩:GZ)) (GdK (⟨x132.From,x132.To⟩:GZ)) γ.2):Ja (List.map Hn b4) (.agg [.str x132.From,.str x132.To])=some (.bool q144.2))) <|
  .sp (q144.2=true)
  (.run [bt,oc] (fun γ=>Gb γ.2) <|
  .leaf (Sum.inr (Sum.inl (9,b4))) [0,1])
  (.run [bf] (fun γ=>Gb ((eq_false_of_ne_true γ.2):q144.2=false)) <|
  .sp (x132.Min<(1:Int))
  (.run (cs 2 (oa::oc::tc::(cs 11 [bt,oc]))) (fun γ=>k2 (dT γ.2) (Gb (rfl:true=true))) <|
  .leaf (Sum.inr (Sum.inl (12,b4))) [0,1])
  (.sp (x132.Min>x132.Max)
  (.run (cs 2 (oa::oc::oF::(cs 3 (oa::(cs 2 (tc::(cs 4 [bt,oc]))))))) (fun γ=>k2 (dF γ.1.2) (k2 (dT γ.2) (Gb (rfl:true=true)))) <|
  .leaf (Sum.inr (Sum.inl (12,b4))) [0,1])
  (.run (cs 2 (oa::oc::oF::(cs 3 (oa::(cs 2 (oF::oc::oa::(cs 2 []))))))) (fun γ=>k2 (dF γ.1.2) (Gb (dF γ.2))) <|
  .sp (x132.Max>(2147483648:Int))
  (.run [bt,oc] (fun γ=>Gb (dT γ.2)) <|
  .leaf (Sum.inr (Sum.inl (12,b4))) [0,1])
  (.run (bf::(cs 3 [.tr (.mp 1 (List.map Hn (HU fst b4 ((⟨x132.From,x132.To⟩:GZ),true))))])) (fun γ=>k2 (dF γ.2) (Gb ((List.Perm.of_eq (Xl (κ:=fst) KJ b4 ((⟨x132.From,x132.To⟩:GZ),true))):List.Perm (YA (List.map Hn b4) (.agg [.str x132.From,.str x132.To]) (.bool true)) (List.map Hn (HU fst b4 ((⟨x132.From,x132.To⟩:GZ),true)))))) <|
  .gd (GP .i64 ((↑k65:Int)+1)) <| .run [ow,oc] (fun γ=>Gb γ.2) <|
  .leaf (Sum.inl ((k65+1),(HU fst b4 ((⟨x132.From,x132.To⟩:GZ),true)))) [0,1])))))
  (.run (cs 2 [.op none (.b false),oc,bf]) (fun γ=>k2 ((VR KJ (k:=(⟨x132.From,x132.To⟩:GZ)) (GdK (⟨x132.From,x132.To⟩:GZ)) (GgI γ.2)):Ja (List.map Hn b4) (.agg [.str x132.From,.str x132.To])=none) (Gb (rfl:false=false))) <|
  .sp (x132.Min<(1:Int))
  (.run (cs 2 (oa::oc::tc::(cs 11 [bt,oc]))) (fun γ=>k2 (dT γ.2) (Gb (rfl:true=true))) <|
  .leaf (Sum.inr (Sum.inl (12,b4))) [0,1])
  (.sp (x132.Min>x132.Max)
  (.run (cs 2 (oa::oc::oF::(cs 3 (oa::(cs 2 (tc::(cs 4 [bt,oc]))))))) (fun γ=>k2 (dF γ.1.2) (k2 (dT γ.2) (Gb (rfl:true=true)))) <|
  .leaf (Sum.inr (Sum.inl (12,b4))) [0,1])
  (.run (cs 2 (oa::oc::oF::(cs 3 (oa::(cs 2 (oF::oc::oa::(cs 2 []))))))) (fun γ=>k2 (dF γ.1.2) (Gb (dF γ.2))) <|
  .sp (x132.Max>(2147483648:Int))
  (.run [bt,oc] (fun γ=>Gb (dT γ.2)) <|
  .leaf (Sum.inr (Sum.inl (12,b4))) [0,1])
  (.run (bf::(cs 3 [.tr (.mp 1 (List.map Hn (HU fst b4 ((⟨x132.From,x132.To⟩:GZ),true))))])) (fun γ=>k2 (dF γ.2) (Gb ((List.Perm.of_eq (Xl (κ:=fst) KJ b4 ((⟨x132.From,x132.To⟩:GZ),true))):List.Perm (YA (List.map Hn b4) (.agg [.str x132.From,.str x132.To]) (.bool true)) (List.map Hn (HU fst b4 ((⟨x132.From,x132.To⟩:GZ),true)))))) <|
  .gd (GP .i64 ((↑k65:Int)+1)) <| .run [ow,oc] (fun γ=>Gb γ.2) <|
  .leaf (Sum.inl ((k65+1),(HU fst b4 ((⟨x132.From,x132.To⟩:GZ),true)))) [0,1]))))))
  (.run (cs 3 ((.op none (.v [.bool q135.2]))::(cs 2 (oF::(cs 2 ((.op none (.v [.bool q139.2]))::(cs 3 (tc::(cs 6 [bt,oc]))))))))) (fun γ=>k2 ((K2 Hx (k:=x132.From) (KD x132.From) γ.1.1.1.1.2):Ja (List.map Ho o3) (.str x132.From)=some (.bool q135.2)) (k2 ((Gs γ.1.1.1.2):(!q135.2)=false) (k2 ((K2 Hx (k:=x132.To) (KD x132.To) γ.1.2):Ja (List.map Ho o3) (.str x132.To)=some (.bool q139.2)) (k2 ((Gu (eq_false_of_ne_true γ.2)):(!q139.2)=true) (Gb (rfl:true=true)))))) <|
  .leaf (Sum.inr (Sum.inl (16,b4))) [0,1]))
  (.run (cs 3 ((.op none (.v [.bool q135.2]))::(cs 2 (oF::(cs 2 ((.op none (.b false))::(cs 10 [bt,oc]))))))) (fun γ=>k2 ((K2 Hx (k:=x132.From) (KD x132.From) γ.1.1.2):Ja (List.map Ho o3) (.str x132.From)=some (.bool q135.2)) (k2 ((Gs γ.1.2):(!q135.2)=false) (k2 ((VR Hx (k:=x132.To) (KD x132.To) (GgI γ.2)):Ja (List.map Ho o3) (.str x132.To)=none) (Gb (rfl:true=true))))) <|
  .leaf (Sum.inr (Sum.inl (16,b4))) [0,1]))
  (.run (cs 3 ((.op none (.v [.bool q135.2]))::(cs 2 (tc::(cs 13 [bt,oc]))))) (fun γ=>k2 ((K2 Hx (k:=x132.From) (KD x132.From) γ.1.2):Ja (List.map Ho o3) (.str x132.From)=some (.bool q135.2)) (k2 ((Gu (eq_false_of_ne_true γ.2)):(!q135.2)=true) (Gb (rfl:true=true)))) <|
  .leaf (Sum.inr (Sum.inl (16,b4))) [0,1]))
  (.run (cs 3 ((.op none (.b false))::(cs 16 [bt,oc]))) (fun γ=>k2 ((VR Hx (k:=x132.From) (KD x132.From) (GgI γ.2)):Ja (List.map Ho o3) (.str x132.From)=none) (Gb (rfl:true=true))) <|
  .leaf (Sum.inr (Sum.inl (16,b4))) [0,1]))
  (.run [bf] (fun γ=>Gb (dF γ.2)) <|
  .leaf (Sum.inr (Sum.inr (b4))) [0,1])
def H4 (n_0:Gc) (o3:(List ((List UInt8)×Bool))):(Nat×(List (GZ×Bool)))→Option ((Nat×(List (GZ×Bool)))⊕((Int×(List (GZ×Bool)))⊕(List (GZ×Bool)))):=fun s=>(Qs n_0 o3 s).den
def GaX (n_0:Gc) (o3:(List ((List UInt8)×Bool))):(Nat×(List (GZ×Bool)))→PS:=fun s=>(117,[(3,.mapr 0),(6,.mapr 1),(63,.lst (fl G1.enc n_0.Links) n_0.Links.length),(64,jI (↑n_0.Links.length:Int)),(65,jI (↑s.1:Int))],[(bM .s (List.map Ho o3)),(bM (.g [.s,.s]) (List.map Hn s.2))])
def Gbh:((Int×(List (GZ×Bool)))⊕(List (GZ×Bool)))→Hm:=fun q=>match q with | Sum.inl o=>.ret | Sum.inr (o)=>(.exit 3)
def Gb2 (n_0:Gc) (o3:(List ((List UInt8)×Bool))):((Int×(List (GZ×Bool)))⊕(List (GZ×Bool)))→List (Nat×AV):=fun q=>match q with | Sum.inl o=>[(2,jI o.1)] | Sum.inr (o)=>[]
def Qw (n_0:Gc) (o3:(List ((List UInt8)×Bool))):((Int×(List (GZ×Bool)))⊕(List (GZ×Bool)))→List G6:=fun q=>match q with | Sum.inl o=>[(bM .s (List.map Ho o3)),(bM (.g [.s,.s]) (List.map Hn o.2))] | Sum.inr (o)=>[(bM .s (List.map Ho o3)),(bM (.g [.s,.s]) (List.map Hn o))]
theorem Yb (n_0:Gc) (o3:(List ((List UInt8)×Bool))) {s:(Nat×(List (GZ×Bool)))} {r:(Int×(List (GZ×Bool)))⊕(List (GZ×Bool))} (h:lp (H4 n_0 o3) s=some r):GI Tryz.prog GT 2 (.loop (GO Tryz.prog 164 [1,1,1,1,1,0,1,0,0])) (GaX n_0 o3 s).st (Gbh r) (PS.st (117,Gb2 n_0 o3 r,Qw n_0 o3 r)):=
 GI.lp_ht 2 400 (GaX n_0 o3) Gbh (fun q=>(117,Gb2 n_0 o3 q,Qw n_0 o3 q)) (Qs n_0 o3) (by rintro ⟨k65,b4⟩; kernel_rfl) h
def Gcj (n_0:Gc):HT Int True:=.run (cs 2 []) (fun _=>He) <|
  .sp ((↑n_0.Points.length:Int)>(64:Int))
  (.run (cs 3 (oa::oc::tc::(cs 4 [bt,oc]))) (fun γ=>k2 (dT γ.2) (Gb (rfl:true=true))) <|
  .leaf 3 [])
  (.run (cs 3 (oa::oc::oF::(cs 2 [oa,oc]))) (fun γ=>Gb (dF γ.2)) <|
  .sp ((↑n_0.Links.length:Int)>(128:Int))
  (.run [bt,oc] (fun γ=>Gb (dT γ.2)) <|
  .leaf 3 [])
  (.run (bf::(cs 6 [])) (fun γ=>Gb (dF γ.2)) <|
  .bd (lp (Jj n_0) ((0:Nat),([]:List ((List UInt8)×Bool)))) fun qq=>.cs qq (fun o3=>.run [.fcut 2 .ret [(2,jI o3.1)] (Rh n_0 (Sum.inl o3)) [0,1] [(1,.any),(3,.any),(22,.any),(23,.any),(24,jI (↑(0:Nat):Int))] [bS,bS]] (fun γ=>k2 (rfl:(jI 0:AV)=jI (↑(0:Nat):Int)) (Gb (Y2 n_0 (s:=((0:Nat),([]:List ((List UInt8)×Bool)))) (r:=Sum.inl o3) (eS γ.1.2 γ.2)))) <|
  .leaf o3.1 [])
  (fun o3=>.run ((.fcut 2 (.exit 0) [(1,.ptr 0 0),(3,.mapr 1)] (Rh n_0 (Sum.inr (o3))) [0,1] [(1,.any),(3,.any),(22,.any),(23,.any),(24,jI (↑(0:Nat):Int))] [bS,bS])::(cs 6 [])) (fun γ=>k2 (rfl:(jI 0:AV)=jI (↑(0:Nat):Int)) (Gb (Y2 n_0 (s:=((0:Nat),([]:List ((List UInt8)×Bool)))) (r:=Sum.inr (o3)) (eS γ.1.2 γ.2)))) <|
  .bd (lp (H4 n_0 o3) ((0:Nat),([]:List (GZ×Bool)))) fun qq=>.cs qq (fun o82=>.run [.fcut 2 .ret [(2,jI o82.1)] (Qw n_0 o3 (Sum.inl o82)) [1,4] [(3,.any),(6,.any),(63,.any),(64,.any),(65,jI (↑(0:Nat):Int))] [bS,bS]] (fun γ=>k2 (rfl:(jI 0:AV)=jI (↑(0:Nat):Int)) (Gb (Yb n_0 o3 (s:=((0:Nat),([]:List (GZ×Bool)))) (r:=Sum.inl o82) (eS γ.1.2 γ.2)))) <|
  .leaf o82.1 [])
  (fun o82=>.run [.fcut 2 (.exit 3) [] (Qw n_0 o3 (Sum.inr (o82))) [1,4] [(3,.any),(6,.any),(63,.any),(64,.any),(65,jI (↑(0:Nat):Int))] [bS,bS],oc] (fun γ=>k2 (rfl:(jI 0:AV)=jI (↑(0:Nat):Int)) (Gb (Yb n_0 o3 (s:=((0:Nat),([]:List (GZ×Bool)))) (r:=Sum.inr (o82)) (eS γ.1.2 γ.2)))) <|
  .leaf 0 []))))
def Ye (n_0:Gc):Option Int:=(Gcj n_0).den
theorem Gem (n_0:Gc) (r:Int) (h:Ye n_0=some r):G5 Tryz.prog GT 164 [.agg (Gc.enc n_0)] (jI r) []:=
 G5.of_ht 400 (Gcj n_0) (fun (r:Int)=>jI r) (fun (r:Int)=>[]) (by kernel_rfl) h
def M8 (l_0:(List Gq)) (n_1:Int) (name_2:(List UInt8)):Nat→HT (Nat⊕(Int⊕Unit)) True
 | k7=>.sp ((↑k7:Int)<n_1)
  (.run (cs 2 (oa::oc::tc::(cs 2 [oa,oc]))) (fun γ=>Gb (dT γ.2)) <|
  .sp ((↑k7:Int)<(↑l_0.length:Int))
  (.run [bt] (fun γ=>Gb (dT γ.2)) <|
  .bd (l_0[k7]?) fun x10=>.run (cs 2 [.op none (.i k7),oc,.op none (.v [.str x10.Name]),oc,oa]) (fun γ=>k2 (ir γ.2) (k2 (GC (f:=Gq.enc) (z:=2) (fun _=>rfl) γ.2) (Gb (GL (f:=Gq.enc) (z:=3) (j:=k7) (a:=0) (n:=1) (fun _=>rfl) γ.2 (by decide) rfl)))) <|
  .sp (x10.Name=name_2)
  (.run (bt::(cs 2 [])) (fun γ=>Gb (Gp γ.2)) <|
  .leaf (Sum.inr (Sum.inl (↑k7:Int))) [])
  (.run [bf] (fun γ=>Gb (Gw γ.2)) <|
  .gd (GP .i64 ((↑k7:Int)+1)) <| .run [oc,ow,oc] (fun γ=>Gb γ.2) <|
  .leaf (Sum.inl (k7+1)) []))
  (.run [bf] (fun γ=>Gb (dF γ.2)) <|
  .leaf (Sum.inr (Sum.inr (()))) []))
  (.run (cs 2 (oa::oc::oF::(cs 4 [bf]))) (fun γ=>k2 (dF γ.2) (Gb (rfl:false=false))) <|
  .leaf (Sum.inr (Sum.inr (()))) [])
def H8 (l_0:(List Gq)) (n_1:Int) (name_2:(List UInt8)):Nat→Option (Nat⊕(Int⊕Unit)):=fun s=>(M8 l_0 n_1 name_2 s).den
def GhR (l_0:(List Gq)) (n_1:Int) (name_2:(List UInt8)):Nat→PS:=fun s=>(27,[(0,.lst (fl Gq.enc l_0) l_0.length),(1,jI n_1),(2,.str name_2),(7,jI (↑s:Int))],[])
def Gh9:(Int⊕Unit)→Hm:=fun q=>match q with | Sum.inl o=>.ret | Sum.inr (o)=>(.exit 0)
def GhI (l_0:(List Gq)) (n_1:Int) (name_2:(List UInt8)):(Int⊕Unit)→List (Nat×AV):=fun q=>match q with | Sum.inl o=>[(6,jI o)] | Sum.inr (o)=>[]
def Gg8 (l_0:(List Gq)) (n_1:Int) (name_2:(List UInt8)):(Int⊕Unit)→List G6:=fun q=>match q with | Sum.inl o=>[] | Sum.inr (o)=>[]
theorem Gdc (l_0:(List Gq)) (n_1:Int) (name_2:(List UInt8)) {s:Nat} {r:Int⊕Unit} (h:lp (H8 l_0 n_1 name_2) s=some r):GI Tryz.prog GT 0 (.loop (GO Tryz.prog 185 [1,0,1,0,0])) (GhR l_0 n_1 name_2 s).st (Gh9 r) (PS.st (27,GhI l_0 n_1 name_2 r,Gg8 l_0 n_1 name_2 r)):=
 GI.lp_ht 0 400 (GhR l_0 n_1 name_2) Gh9 (fun q=>(27,GhI l_0 n_1 name_2 q,Gg8 l_0 n_1 name_2 q)) (M8 l_0 n_1 name_2) (by intro k7; kernel_rfl) h
def Gd4 (l_0:(List Gq)) (n_1:Int) (name_2:(List UInt8)):HT Int True:=.run (cs 2 []) (fun _=>He) <|
  .bd (lp (H8 l_0 n_1 name_2) (0:Nat)) fun qq=>.cs qq (fun o1=>.run [.fcut 0 .ret [(6,jI o1)] [] [] [(0,.any),(1,.any),(2,.any),(7,jI (↑(0:Nat):Int))] []] (fun γ=>k2 (rfl:(jI 0:AV)=jI (↑(0:Nat):Int)) (Gb (Gdc l_0 n_1 name_2 (s:=(0:Nat)) (r:=Sum.inl o1) (eS γ.1.2 γ.2)))) <|
  .leaf o1 [])
  (fun o1=>.run [.fcut 0 (.exit 0) [] [] [] [(0,.any),(1,.any),(2,.any),(7,jI (↑(0:Nat):Int))] [],oc] (fun γ=>k2 (rfl:(jI 0:AV)=jI (↑(0:Nat):Int)) (Gb (Gdc l_0 n_1 name_2 (s:=(0:Nat)) (r:=Sum.inr (o1)) (eS γ.1.2 γ.2)))) <|
  .leaf (-1) [])
def QM (l_0:(List Gq)) (n_1:Int) (name_2:(List UInt8)):Option Int:=(Gd4 l_0 n_1 name_2).den
theorem ME (l_0:(List Gq)) (n_1:Int) (name_2:(List UInt8)) (r:Int) (h:QM l_0 n_1 name_2=some r):G5 Tryz.prog GT 185 [.lst (fl Gq.enc l_0) l_0.length,jI n_1,.str name_2] (jI r) []:=
 G5.of_ht 400 (Gd4 l_0 n_1 name_2) (fun (r:Int)=>jI r) (fun (r:Int)=>[]) (by kernel_rfl) h
def Xp (n_0:Gc):Nat→HT (Nat⊕(Int⊕Unit)) True
 | k3=>.run (cs 4 [oa]) (fun _=>He) <|
  .sp ((↑k3:Int)<(↑n_0.Points.length:Int))
  (.run [bt] (fun γ=>Gb (dT γ.2)) <|
  .bd (n_0.Points[k3]?) fun x22=>.run (cs 3 ((.op none (.i k3))::(.op none (.v [.str x22.Name,jI x22.Kind,.str x22.System]))::(cs 2 []))) (fun γ=>k2 (ir γ.2) (k2 (GC (f:=Gq.enc) (z:=2) (fun _=>rfl) γ.2) (Gb (GU (f:=Gq.enc) (z:=3) (j:=k3) (fun _=>rfl) γ.2 rfl)))) <|
  .bd (MK x22.Name) fun r24=>.run (cs 2 [.ret none [.any] (.bool r24) [],oc]) (fun γ=>Gb (HW x22.Name r24 γ.2)) <|
  .sp (r24=true)
  (.run [bf] (fun γ=>Gb ((Gs γ.2):(!r24)=false)) <|
  .bd (QM n_0.Points (↑k3:Int) x22.Name) fun r27=>.run (cs 5 [.ret none [.any,.any,.any] (jI r27) [],oa]) (fun γ=>Gb (ME n_0.Points (↑k3:Int) x22.Name r27 γ.2)) <|
  .sp (r27≥(0:Int))
  (.run [bt,oc] (fun γ=>Gb (dT γ.2)) <|
  .leaf (Sum.inr (Sum.inl 9)) [0])
  (.run [bf] (fun γ=>Gb (dF γ.2)) <|
  .sp (x22.Kind<(1:Int))
  (.run (cs 2 (oa::oc::tc::(cs 3 [bt,oc]))) (fun γ=>k2 (dT γ.2) (Gb (rfl:true=true))) <|
  .leaf (Sum.inr (Sum.inl 1)) [0])
  (.run (cs 2 [oa,oc,oF,oc,oa,oc]) (fun γ=>Gb (dF γ.2)) <|
  .sp (x22.Kind>(4:Int))
  (.run [bt,oc] (fun γ=>Gb (dT γ.2)) <|
  .leaf (Sum.inr (Sum.inl 1)) [0])
  (.run [bf] (fun γ=>Gb (dF γ.2)) <|
  .sp (x22.System=[])
  (.run (cs 2 (oa::oc::oF::(cs 4 [bf]))) (fun γ=>k2 (Gs (Gp γ.2)) (Gb (rfl:false=false))) <|
  .gd (GP .i64 ((↑k3:Int)+1)) <| .run [oc,ow,oc] (fun γ=>Gb γ.2) <|
  .leaf (Sum.inl (k3+1)) [0])
  (.bd (MK x22.System) fun r34=>.run (cs 2 (oa::oc::tc::oc::(.ret none [.any] (.bool r34) [])::(cs 2 []))) (fun γ=>k2 (Gu (Gw γ.1.2)) (Gb (HW x22.System r34 γ.2))) <|
  .sp (r34=true)
  (.run [bf] (fun γ=>Gb ((Gs γ.2):(!r34)=false)) <|
  .gd (GP .i64 ((↑k3:Int)+1)) <| .run [oc,ow,oc] (fun γ=>Gb γ.2) <|
  .leaf (Sum.inl (k3+1)) [0])
  (.run [bt,oc] (fun γ=>Gb ((Gu (eq_false_of_ne_true γ.2)):(!r34)=true)) <|
  .leaf (Sum.inr (Sum.inl 6)) [0]))))))
  (.run [bt,oc] (fun γ=>Gb ((Gu (eq_false_of_ne_true γ.2)):(!r24)=true)) <|
  .leaf (Sum.inr (Sum.inl 6)) [0]))
  (.run [bf] (fun γ=>Gb (dF γ.2)) <|
  .leaf (Sum.inr (Sum.inr (()))) [0])
def Mx (n_0:Gc):Nat→Option (Nat⊕(Int⊕Unit)):=fun s=>(Xp n_0 s).den
def Ghu (n_0:Gc):Nat→PS:=fun s=>(131,[(1,.ptr 0 0),(3,jI (↑s:Int))],[(bT (Gc.enc n_0) 38)])
def GhM:(Int⊕Unit)→Hm:=fun q=>match q with | Sum.inl o=>.ret | Sum.inr (o)=>(.exit 0)
def GhD (n_0:Gc):(Int⊕Unit)→List (Nat×AV):=fun q=>match q with | Sum.inl o=>[(2,jI o)] | Sum.inr (o)=>[(1,.ptr 0 0)]
def GhA (n_0:Gc):(Int⊕Unit)→List G6:=fun q=>match q with | Sum.inl o=>[(bT (Gc.enc n_0) 38)] | Sum.inr (o)=>[(bT (Gc.enc n_0) 38)]
theorem Gc4 (n_0:Gc) {s:Nat} {r:Int⊕Unit} (h:lp (Mx n_0) s=some r):GI Tryz.prog GT 1 (.loop (GO Tryz.prog 112 [1,1,0,1,0,0])) (Ghu n_0 s).st (GhM r) (PS.st (131,GhD n_0 r,GhA n_0 r)):=
 GI.lp_ht 1 400 (Ghu n_0) GhM (fun q=>(131,GhD n_0 q,GhA n_0 q)) (Xp n_0) (by intro k3; kernel_rfl) h
def Vb (n_0:Gc) (k5:Nat) (x69:G1):Nat→HT (Nat⊕(Unit⊕Unit)) True
 | k7=>.run (cs 2 [oa]) (fun _=>He) <|
  .sp ((↑k7:Int)<(↑k5:Int))
  (.run [bt] (fun γ=>Gb (dT γ.2)) <|
  .bd (n_0.Links[k7]?) fun x87=>.sp (x87.From=x69.From)
  (.run (cs 3 ((.op none (.i k7))::oc::(.op none (.v [.str x87.From]))::(cs 2 [oa,oc,tc,tc,tc,.op (some true) (.i k7),tc,.op (some true) (.v [.str x87.To]),tc,tc,ta,.op none (.b true)]))) (fun γ=>k2 (ir γ.1.2) (k2 (GC (f:=G1.enc) (z:=3) (fun _=>rfl) γ.1.2) (k2 (GL (f:=G1.enc) (z:=4) (j:=k7) (a:=0) (n:=1) (fun _=>rfl) γ.1.2 (by decide) rfl) (k2 (Gp γ.2) (k2 (Gp γ.2) (k2 (Gp γ.2) (k2 (Gp γ.2) (k2 (ir γ.1.2) (k2 (GC (f:=G1.enc) (z:=3) (fun _=>rfl) γ.1.2) (k2 (Gp γ.2) (k2 (Gp γ.2) (k2 (GL (f:=G1.enc) (z:=4) (j:=k7) (a:=1) (n:=1) (fun _=>rfl) γ.1.2 (by decide) rfl) (k2 (Gp γ.2) (k2 (Gp γ.2) (k2 (Gp γ.2) (Gb (Gp γ.2))))))))))))))))) <|
  .sp (x87.To=x69.To)
  (.run [bt,oc] (fun γ=>Gb (Gp γ.2)) <|
  .leaf (Sum.inr (Sum.inl ())) [0,1])
  (.run [bf] (fun γ=>Gb (Gw γ.2)) <|
  .gd (GP .i64 ((↑k7:Int)+1)) <| .run [oc,ow,oc] (fun γ=>Gb γ.2) <|
  .leaf (Sum.inl (k7+1)) [0,1]))
  (.run (cs 3 ((.op none (.i k7))::oc::(.op none (.v [.str x87.From]))::(cs 2 [oa,oc,oF,oF,oF,oF,oF,oF,oF,oF,oF,.op none (.b false),bf]))) (fun γ=>k2 (ir γ.1.2) (k2 (GC (f:=G1.enc) (z:=3) (fun _=>rfl) γ.1.2) (k2 (GL (f:=G1.enc) (z:=4) (j:=k7) (a:=0) (n:=1) (fun _=>rfl) γ.1.2 (by decide) rfl) (k2 (Gw γ.2) (k2 (Gw γ.2) (k2 (Gw γ.2) (k2 (Gw γ.2) (k2 (Gw γ.2) (k2 (Gw γ.2) (k2 (Gw γ.2) (k2 (Gw γ.2) (k2 (Gw γ.2) (k2 (Gw γ.2) (Gb (rfl:false=false))))))))))))))) <|
  .gd (GP .i64 ((↑k7:Int)+1)) <| .run [oc,ow,oc] (fun γ=>Gb γ.2) <|
  .leaf (Sum.inl (k7+1)) [0,1]))
  (.run [bf] (fun γ=>Gb (dF γ.2)) <|
  .leaf (Sum.inr (Sum.inr (()))) [0,1])
def KY (n_0:Gc) (k5:Nat) (x69:G1):Nat→Option (Nat⊕(Unit⊕Unit)):=fun s=>(Vb n_0 k5 x69 s).den
def Gf0 (n_0:Gc) (k5:Nat) (x69:G1):Nat→PS:=fun s=>(131,[(1,.ptr 0 0),(5,jI (↑k5:Int)),(6,.ptr 1 0),(7,jI (↑s:Int))],[(bT (Gc.enc n_0) 38),(bT (G1.enc x69) 304)])
def Gfa:(Unit⊕Unit)→Hm:=fun q=>match q with | Sum.inl o=>.ret | Sum.inr (o)=>(.exit 4)
def Gal (n_0:Gc) (k5:Nat) (x69:G1):(Unit⊕Unit)→List (Nat×AV):=fun q=>match q with | Sum.inl o=>[(2,jI 9)] | Sum.inr (o)=>[(1,.ptr 0 0),(5,jI (↑k5:Int)),(6,.ptr 1 0)]
def Uu (n_0:Gc) (k5:Nat) (x69:G1):(Unit⊕Unit)→List G6:=fun q=>match q with | Sum.inl o=>[(bT (Gc.enc n_0) 38),(bT (G1.enc x69) 304)] | Sum.inr (o)=>[(bT (Gc.enc n_0) 38),(bT (G1.enc x69) 304)]
theorem Gbp (n_0:Gc) (k5:Nat) (x69:G1) {s:Nat} {r:Unit⊕Unit} (h:lp (KY n_0 k5 x69) s=some r):GI Tryz.prog GT 2 (.loop (GO Tryz.prog 112 [1,1,1,0,1,0,0,1,0,0,1,1,0,1,0,0])) (Gf0 n_0 k5 x69 s).st (Gfa r) (PS.st (131,Gal n_0 k5 x69 r,Uu n_0 k5 x69 r)):=
 GI.lp_ht 2 400 (Gf0 n_0 k5 x69) Gfa (fun q=>(131,Gal n_0 k5 x69 q,Uu n_0 k5 x69 q)) (Vb n_0 k5 x69) (by intro k7; kernel_rfl) h
def UA (n_0:Gc):Nat→HT (Nat⊕(Int⊕Unit)) True
 | k5=>.run (cs 4 [oa]) (fun _=>He) <|
  .sp ((↑k5:Int)<(↑n_0.Links.length:Int))
  (.run [bt] (fun γ=>Gb (dT γ.2)) <|
  .bd (n_0.Links[k5]?) fun x69=>.run (cs 3 ((.op none (.i k5))::(.op none (.v [.str x69.From,.str x69.To,jI x69.Min,jI x69.Max]))::(cs 2 []))) (fun γ=>k2 (ir γ.2) (k2 (GC (f:=G1.enc) (z:=3) (fun _=>rfl) γ.2) (Gb (GU (f:=G1.enc) (z:=4) (j:=k5) (fun _=>rfl) γ.2 rfl)))) <|
  .bd (QM n_0.Points 64 x69.From) fun r71=>.sp (r71<(0:Int))
  (.run (cs 4 ((.ret none [.any,.any,.any] (jI r71) [])::oa::oc::tc::(cs 13 [bt,oc]))) (fun γ=>k2 (ME n_0.Points 64 x69.From r71 γ.1.2) (k2 (dT γ.2) (Gb (rfl:true=true)))) <|
  .leaf (Sum.inr (Sum.inl 16)) [0])
  (.bd (QM n_0.Points 64 x69.To) fun r74=>.sp (r74<(0:Int))
  (.run (cs 4 ((.ret none [.any,.any,.any] (jI r71) [])::oa::oc::oF::(cs 3 ((.ret none [.any,.any,.any] (jI r74) [])::oa::(cs 2 (tc::(cs 5 [bt,oc]))))))) (fun γ=>k2 (ME n_0.Points 64 x69.From r71 γ.1.1.1.2) (k2 (dF γ.1.1.2) (k2 (ME n_0.Points 64 x69.To r74 γ.1.2) (k2 (dT γ.2) (Gb (rfl:true=true)))))) <|
  .leaf (Sum.inr (Sum.inl 16)) [0])
  (.run (cs 4 ((.ret none [.any,.any,.any] (jI r71) [])::oa::oc::oF::(cs 3 ((.ret none [.any,.any,.any] (jI r74) [])::oa::(cs 2 (oF::(cs 3 [oa,oc]))))))) (fun γ=>k2 (ME n_0.Points 64 x69.From r71 γ.1.1.1.2) (k2 (dF γ.1.1.2) (k2 (ME n_0.Points 64 x69.To r74 γ.1.2) (Gb (dF γ.2))))) <|
  .sp (x69.From=x69.To)
  (.run [bt,oc] (fun γ=>Gb (Gp γ.2)) <|
  .leaf (Sum.inr (Sum.inl 16)) [0])
  (.run [bf,oc] (fun γ=>Gb (Gw γ.2)) <|
  .bd (lp (KY n_0 k5 x69) (0:Nat)) fun qq=>.cs qq (fun o78=>.run [.fcut 2 .ret [(2,jI 9)] (Uu n_0 k5 x69 (Sum.inl o78)) [0,1] [(1,.any),(5,.any),(6,.any),(7,jI (↑(0:Nat):Int))] [bS,bS]] (fun γ=>k2 (rfl:(jI 0:AV)=jI (↑(0:Nat):Int)) (Gb (Gbp n_0 k5 x69 (s:=(0:Nat)) (r:=Sum.inl o78) (eS γ.1.2 γ.2)))) <|
  .leaf (Sum.inr (Sum.inl 9)) [0])
  (fun o78=>.run [.fcut 2 (.exit 4) (Gal n_0 k5 x69 (Sum.inr (o78))) (Uu n_0 k5 x69 (Sum.inr (o78))) [0,1] [(1,.any),(5,.any),(6,.any),(7,jI (↑(0:Nat):Int))] [bS,bS]] (fun γ=>k2 (rfl:(jI 0:AV)=jI (↑(0:Nat):Int)) (Gb (Gbp n_0 k5 x69 (s:=(0:Nat)) (r:=Sum.inr (o78)) (eS γ.1.2 γ.2)))) <|
  .sp (x69.Min<(1:Int))
  (.run (cs 2 (oa::oc::tc::(cs 10 [bt,oc]))) (fun γ=>k2 (dT γ.2) (Gb (rfl:true=true))) <|
  .leaf (Sum.inr (Sum.inl 12)) [0])
  (.sp (x69.Max<x69.Min)
  (.run (cs 2 (oa::oc::oF::(cs 3 (oa::(cs 2 (tc::(cs 3 [bt,oc]))))))) (fun γ=>k2 (dF γ.1.2) (k2 (dT γ.2) (Gb (rfl:true=true)))) <|
  .leaf (Sum.inr (Sum.inl 12)) [0])
  (.run (cs 2 (oa::oc::oF::(cs 3 (oa::(cs 2 [oF,oc,oa,oc]))))) (fun γ=>k2 (dF γ.1.2) (Gb (dF γ.2))) <|
  .sp (x69.Max>(2147483648:Int))
  (.run [bt,oc] (fun γ=>Gb (dT γ.2)) <|
  .leaf (Sum.inr (Sum.inl 12)) [0])
  (.run [bf] (fun γ=>Gb (dF γ.2)) <|
  .gd (GP .i64 ((↑k5:Int)+1)) <| .run [oc,ow,oc] (fun γ=>Gb γ.2) <|
  .leaf (Sum.inl (k5+1)) [0]))))))))
  (.run [bf] (fun γ=>Gb (dF γ.2)) <|
  .leaf (Sum.inr (Sum.inr (()))) [0])
def K0 (n_0:Gc):Nat→Option (Nat⊕(Int⊕Unit)):=fun s=>(UA n_0 s).den
def GgB (n_0:Gc):Nat→PS:=fun s=>(131,[(1,.ptr 0 0),(5,jI (↑s:Int))],[(bT (Gc.enc n_0) 38)])
def Gf7:(Int⊕Unit)→Hm:=fun q=>match q with | Sum.inl o=>.ret | Sum.inr (o)=>(.exit 2)
def Gga (n_0:Gc):(Int⊕Unit)→List (Nat×AV):=fun q=>match q with | Sum.inl o=>[(2,jI o)] | Sum.inr (o)=>[]
def GfI (n_0:Gc):(Int⊕Unit)→List G6:=fun q=>match q with | Sum.inl o=>[(bT (Gc.enc n_0) 38)] | Sum.inr (o)=>[(bT (Gc.enc n_0) 38)]
theorem GbI (n_0:Gc) {s:Nat} {r:Int⊕Unit} (h:lp (K0 n_0) s=some r):GI Tryz.prog GT 1 (.loop (GO Tryz.prog 112 [1,1,1,0,1,0,0])) (GgB n_0 s).st (Gf7 r) (PS.st (131,Gga n_0 r,GfI n_0 r)):=
 GI.lp_ht 1 400 (GgB n_0) Gf7 (fun q=>(131,Gga n_0 q,GfI n_0 q)) (UA n_0) (by intro k5; kernel_rfl) h
def GiR (n_0:Gc):HT Int True:=.run (cs 2 []) (fun _=>He) <|
  .sp ((↑n_0.Points.length:Int)>(64:Int))
  (.run (cs 3 (oa::oc::tc::(cs 4 [bt,oc]))) (fun γ=>k2 (dT γ.2) (Gb (rfl:true=true))) <|
  .leaf 3 [])
  (.run (cs 3 (oa::oc::oF::(cs 2 [oa,oc]))) (fun γ=>Gb (dF γ.2)) <|
  .sp ((↑n_0.Links.length:Int)>(128:Int))
  (.run [bt,oc] (fun γ=>Gb (dT γ.2)) <|
  .leaf 3 [])
  (.run [bf,oc] (fun γ=>Gb (dF γ.2)) <|
  .bd (lp (Mx n_0) (0:Nat)) fun qq=>.cs qq (fun o3=>.run [.fcut 1 .ret [(2,jI o3)] [(bT (Gc.enc n_0) 38)] [0] [(1,.any),(3,jI (↑(0:Nat):Int))] [bS]] (fun γ=>k2 (rfl:(jI 0:AV)=jI (↑(0:Nat):Int)) (Gb (Gc4 n_0 (s:=(0:Nat)) (r:=Sum.inl o3) (eS γ.1.2 γ.2)))) <|
  .leaf o3 [])
  (fun o3=>.run [.fcut 1 (.exit 0) [(1,.ptr 0 0)] [(bT (Gc.enc n_0) 38)] [0] [(1,.any),(3,jI (↑(0:Nat):Int))] [bS],oc] (fun γ=>k2 (rfl:(jI 0:AV)=jI (↑(0:Nat):Int)) (Gb (Gc4 n_0 (s:=(0:Nat)) (r:=Sum.inr (o3)) (eS γ.1.2 γ.2)))) <|
  .bd (lp (K0 n_0) (0:Nat)) fun qq=>.cs qq (fun o38=>.run [.fcut 1 .ret [(2,jI o38)] [(bT (Gc.enc n_0) 38)] [0] [(1,.any),(5,jI (↑(0:Nat):Int))] [bS]] (fun γ=>k2 (rfl:(jI 0:AV)=jI (↑(0:Nat):Int)) (Gb (GbI n_0 (s:=(0:Nat)) (r:=Sum.inl o38) (eS γ.1.2 γ.2)))) <|
  .leaf o38 [])
  (fun o38=>.run [.fcut 1 (.exit 2) [] [(bT (Gc.enc n_0) 38)] [0] [(1,.any),(5,jI (↑(0:Nat):Int))] [bS],oc] (fun γ=>k2 (rfl:(jI 0:AV)=jI (↑(0:Nat):Int)) (Gb (GbI n_0 (s:=(0:Nat)) (r:=Sum.inr (o38)) (eS γ.1.2 γ.2)))) <|
  .leaf 0 []))))
def Ggy (n_0:Gc):Option Int:=(GiR n_0).den
theorem Gkf (n_0:Gc) (r:Int) (h:Ggy n_0=some r):G5 Tryz.prog GT 112 [.agg (Gc.enc n_0)] (jI r) []:=
 G5.of_ht 400 (GiR n_0) (fun (r:Int)=>jI r) (fun (r:Int)=>[]) (by kernel_rfl) h
end
set_option maxHeartbeats 4000000
noncomputable section
theorem Gox {K V:Type} [DecidableEq K] (x:K×V) (k:K):∀ m:List (K×V),V0 fst (HU fst m x) k=if x.1=k then some x else V0 fst m k
 | []=>by simp only [HU,V0]
 | y::m=>by
  have ih:=Gox x k m
  simp only [HU,V0]
  grind [V0]
def Gaw {K:Type} [DecidableEq K] (b:List (K×Bool)) (p:K→Bool):Prop:=∀ k,V0 fst b k=if p k then some (k,true) else none
theorem Gaw.nil {K:Type} [DecidableEq K] {p:K→Bool} (h:∀ k,p k=false):Gaw ([]:List (K×Bool)) p:=fun k=>by simp [V0,h k]
theorem Gaw.put {K:Type} [DecidableEq K] {b:List (K×Bool)} {p p':K→Bool} {x:K} (h:Gaw b p) (hp:∀ k,p' k=(p k||decide (x=k))):Gaw (HU fst b (x,true)) p':=fun k=>by
 rw [Gox,h k,hp k]
 by_cases e:x=k
 ·subst e; simp
 ·simp [e]
theorem Gfp {α:Type} {l:List α} {k:Nat} {x:α} (hx:l[k]?=some x) (p:α→Bool):(l.take (k+1)).any p=((l.take k).any p||p x):=by
 rw [List.take_add_one,hx]
 simp
def Yx (l:List Gq) (name:List UInt8):Bool:=l.any fun y=>decide (y.Name=name)
def ptR (l:List Gq) (k:Nat) (x:Gq):Option Int:=
 if HE x.Name=false then some 6 else if Yx (l.take k) x.Name then some 9 else if x.Kind<1∨x.Kind>4 then some 1 else if x.System≠[]∧HE x.System=false then some 6 else none
def Gr6 (l:List G1) (a b:List UInt8):Bool:=l.any fun y=>decide (y.From=a∧y.To=b)
def lkR (n:Gc) (k:Nat) (x:G1):Option Int:=
 if Yx n.Points x.From=false∨Yx n.Points x.To=false∨x.From=x.To then some 16 else if Gr6 (n.Links.take k) x.From x.To then some 9 else if x.Min<1∨x.Max<x.Min∨x.Max>2147483648 then some 12 else none
def GeG (n:Gc):Int:=
 if n.Points.length>64∨n.Links.length>128 then 3 else ((GK (ptR n.Points) 0 n.Points).or (GK (lkR n) 0 n.Links)).getD 0
theorem Goq (n:Gc) (hl:n.Points.length≤64):
  (∀ r,GK (ptR n.Points) 0 n.Points=some r→∃ q,lp (Jj n) (0,[])=some (.inl q)∧q.1=r)∧
  (GK (ptR n.Points) 0 n.Points=none→∃ q,lp (Jj n) (0,[])=some (.inr q)∧Gaw q (Yx n.Points)):=by
 refine GjA (l:=n.Points) (mk:=fun k b=>(k,b)) fst (fun _ _ r b=>(r,b)) (fun k x b=>HU fst b (x.Name,true)) (fun _ _ _ _=>rfl) (fun k b=>Gaw b (Yx (n.Points.take k))) (fun k x b hx hb=>⟨?_,hb.put fun y=>by unfold Yx; rw [Gfp hx]⟩) (fun b hb=>?_) (Gaw.nil fun k=>rfl)
 ·have hk:=Hg hx
  have i1:GP .i64 ((k:Int)+1):=KV (by omega) (by omega)
  have hkl:(k:Int)<(n.Points.length:Int):=by omega
  simp only [Jj,Q1,d1,d2,d3,d4,d5,d6,d7,eN,eM,hx,Option.bind_some,JF,i1,if_true,hkl,hb x.Name,ptR]
  clear i1 hkl hb
  rcases Hf (Yx (n.Points.take k) x.Name) with hh | hh <;> simp only [hh,if_true,if_false,Bool.false_eq_true,Option.isSome_some,Option.isSome_none,Option.bind_some] <;> grind [GtE]
 ·rw [List.take_length] at hb
  refine ⟨b,?_,hb⟩
  simp only [Jj,Q1,d3,d6,d1]
  rw [if_neg (by omega)]
theorem Goj (n:Gc) (hl:n.Links.length≤128) (o:List (List UInt8×Bool)) (ho:Gaw o (Yx n.Points)):
  (∀ r,GK (lkR n) 0 n.Links=some r→∃ q,lp (H4 n o) (0,[])=some (.inl q)∧q.1=r)∧
  (GK (lkR n) 0 n.Links=none→∃ q,lp (H4 n o) (0,[])=some (.inr q)∧True):=by
 refine GjA (l:=n.Links) (mk:=fun k b=>(k,b)) fst (fun _ _ r b=>(r,b)) (fun k x b=>HU fst b ((⟨x.From,x.To⟩:GZ),true)) (fun _ _ _ _=>rfl) (fun k b=>Gaw b (fun e=>Gr6 (n.Links.take k) e.uf0 e.uf1)) (fun k x b hx hb=>⟨?_,hb.put fun y=>?_⟩) (fun b hb=>?_) (Gaw.nil fun k=>rfl)
 ·have hk:=Hg hx
  have i1:GP .i64 ((k:Int)+1):=KV (by omega) (by omega)
  have hkl:(k:Int)<(n.Links.length:Int):=by omega
  have hb0:=hb ⟨x.From,x.To⟩
  simp only at hb0
  simp only [H4,Qs,d1,d2,d3,d4,d5,d6,d7,eN,eM,hx,Option.bind_some,i1,if_true,hkl,ho x.From,ho x.To,hb0,lkR]
  clear i1 hkl hb hb0 ho
  rcases Hf (Yx n.Points x.From) with h1 | h1 <;> rcases Hf (Yx n.Points x.To) with h2 | h2 <;> rcases Hf (Gr6 (n.Links.take k) x.From x.To) with hh | hh <;>
   simp only [h1,h2,hh,if_true,if_false,Bool.false_eq_true,Option.isSome_some,Option.isSome_none,Option.bind_some] <;> grind [GtE]
 ·unfold Gr6
  rw [Gfp hx]
  congr 1
  exact decide_eq_decide.2 ⟨fun h=>by obtain ⟨h1,h2⟩:=h; cases y; simp_all,fun h=>by subst h; exact ⟨rfl,rfl⟩⟩
 ·refine ⟨b,?_,trivial⟩
  simp only [H4,Qs,d3,d6,d1]
  rw [if_neg (by omega)]
theorem Ggh (n:Gc):Ye n=some (GeG n):=by
 simp only [Ye,Gcj,d1,d2,d3,d4,d5,d6,d7,eN,eM]
 unfold GeG
 by_cases h1:n.Points.length>64
 ·rw [if_pos (by omega),if_pos (.inl h1)]
 by_cases h2:n.Links.length>128
 ·rw [if_neg (by omega),if_pos (by omega),if_pos (.inr h2)]
 rw [if_neg (by omega),if_neg (by omega),if_neg (by omega)]
 cases he:GK (ptR n.Points) 0 n.Points with
 | some r=>
  obtain ⟨q,h3,h4⟩:=(Goq n (by omega)).1 r he
  rw [h3]; simp only [Option.bind_some,eN,d1,Option.some_or,Option.getD_some,h4]
 | none=>
  obtain ⟨o,h3,ho⟩:=(Goq n (by omega)).2 he
  rw [h3]; simp only [Option.bind_some,eM,Option.none_or]
  cases he2:GK (lkR n) 0 n.Links with
  | some r=>
   obtain ⟨q,h5,h6⟩:=(Goj n (by omega) o ho).1 r he2
   rw [h5]; simp only [Option.bind_some,eN,d1,Option.getD_some,h6]
  | none=>
   obtain ⟨q,h5,_⟩:=(Goj n (by omega) o ho).2 he2
   rw [h5]; simp only [Option.bind_some,eM,d1,Option.getD_none]
theorem Z6 (l:List Gq) (n:Nat) (hn:n≤1000) (hl:Sm l) (name:List UInt8):∃ r,QM l n name=some r∧(0≤r↔Yx (l.take n) name=true):=by
 simp only [QM,Gd4,d1,d2,d3,d4,d5,d6,d7,eN,eM]
 have key:lp (H8 l n name) 0=some (HL (GK (fun k x=>if x.Name=name then some (k:Int) else none) 0 (l.take n))):=by
  have hlen:(l.take n).length=min n l.length:=List.length_take
  refine GQ (fun k x hx=>?_) ?_
  ·have hk:=Hg hx
   rw [hlen] at hk
   rw [List.getElem?_take,if_pos (by omega)] at hx
   have i1:GP .i64 ((k:Int)+1):=sm1 hl (by omega)
   have h1:(k:Int)<(n:Int):=by omega
   have h2:(k:Int)<(l.length:Int):=by omega
   simp only [H8,M8,d1,d2,d3,d4,d5,d6,d7,eN,eM,hx,Option.bind_some,i1,if_true,h1,h2]
   by_cases e:x.Name=name <;> simp only [e,if_true,if_false,KC]
  ·simp only [H8,M8,d3,d6,d1,d5]
   by_cases h:n≤l.length
   ·rw [if_neg (by omega)]
   ·rw [if_pos (by omega),if_neg (by omega)]
 rw [key]
 have gen:∀ (m:List Gq) (k:Nat),match GK (fun k x=>if x.Name=name then some (k:Int) else none) k m with | some r=>0≤r∧Yx m name=true | none=>Yx m name=false:=by
  intro m
  induction m with
  | nil=>intro k; rfl
  | cons x m ih=>
   intro k
   have:=ih (k+1)
   unfold GK
   by_cases e:x.Name=name
   ·simp [e,Yx]
   ·simp only [e,if_false,Yx,List.any_cons,decide_false,Bool.false_or]
    exact this
 have:=gen (l.take n) 0
 cases he:GK (fun k x=>if x.Name=name then some (k:Int) else none) 0 (l.take n) with
 | some r=>rw [he] at this; exact ⟨r,rfl,by simp only at this; grind⟩
 | none=>rw [he] at this; exact ⟨-1,rfl,by simp only at this; grind⟩
theorem Gfx (n:Gc):Ggy n=some (GeG n):=by
 simp only [Ggy,GiR,d1,d2,d3,d4,d5,d6,d7,eN,eM]
 unfold GeG
 by_cases h1:n.Points.length>64
 ·rw [if_pos (by omega),if_pos (.inl h1)]
 by_cases h2:n.Links.length>128
 ·rw [if_neg (by omega),if_pos (by omega),if_pos (.inr h2)]
 rw [if_neg (by omega),if_neg (by omega),if_neg (by omega)]
 have hsm:Sm n.Points:=by show _≤_; omega
 have hsl:Sm n.Links:=by show _≤_; omega
 have k1:lp (Mx n) 0=some (HL (GK (ptR n.Points) 0 n.Points)):=by
  refine GQ (fun k x hx=>?_) ?_
  ·have hk:=Hg hx
   have i1:GP .i64 ((k:Int)+1):=sm1 hsm hk
   have hkl:(k:Int)<(n.Points.length:Int):=by omega
   obtain ⟨r,hr,hr2⟩:=Z6 n.Points k (by omega) hsm x.Name
   simp only [Mx,Xp,d1,d2,d3,d4,d5,d6,d7,eN,eM,hx,Option.bind_some,K3,hr,i1,if_true,hkl,ptR]
   clear i1 hsm hsl
   rcases Hf (Yx (n.Points.take k) x.Name) with hh | hh <;> rw [hh] at hr2 <;> simp only [hh] <;> grind [KC]
  ·simp only [Mx,Xp,d3,d6,d1]
   rw [if_neg (by omega)]
 have k2:lp (K0 n) 0=some (HL (GK (lkR n) 0 n.Links)):=by
  refine GQ (fun k x hx=>?_) ?_
  ·have hk:=Hg hx
   have i1:GP .i64 ((k:Int)+1):=sm1 hsl hk
   have hkl:(k:Int)<(n.Links.length:Int):=by omega
   have hall:n.Points.take 64=n.Points:=List.take_of_length_le (by omega)
   obtain ⟨r,hr,hr2⟩:=Z6 n.Points 64 (by omega) hsm x.From
   obtain ⟨q,hq,hq2⟩:=Z6 n.Points 64 (by omega) hsm x.To
   rw [hall] at hr2 hq2
   have hd:lp (KY n k x) 0=some (HL (if Gr6 (n.Links.take k) x.From x.To then some () else none)):=by
    unfold Gr6
    rw [← Hj (n.Links.take k) 0]
    refine JE (l:=n.Links) (n:=k) (by omega) (fun j y hj hy=>?_) ?_
    ·have i2:GP .i64 ((j:Int)+1):=sm1 hsl (by omega)
     have hjk:(j:Int)<(k:Int):=by omega
     simp only [KY,Vb,d1,d2,d3,d4,d5,d6,d7,eN,eM,hy,Option.bind_some,i2,if_true,hjk]
     clear i2 i1 hsm hsl
     grind [KC]
    ·simp only [KY,Vb,d3,d6,d1]
     rw [if_neg (by omega)]
   have hr':QM n.Points 64 x.From=some r:=hr
   have hq':QM n.Points 64 x.To=some q:=hq
   simp only [K0,UA,d1,d2,d3,d4,d5,d6,d7,eN,eM,hx,Option.bind_some,hr',hq',hd,i1,if_true,hkl,lkR]
   clear i1 hsm hsl hd hr hq hr' hq'
   rcases Hf (Yx n.Points x.From) with h1 | h1 <;> rcases Hf (Yx n.Points x.To) with h2 | h2 <;> rcases Hf (Gr6 (n.Links.take k) x.From x.To) with hh | hh <;> rw [h1] at hr2 <;> rw [h2] at hq2 <;>
    simp only [h1,h2,hh,HL,Option.bind_some,eN,eM,d1,d3,d4,d6,if_true,if_false,Bool.false_eq_true] <;> grind [KC]
  ·simp only [K0,UA,d3,d6,d1]
   rw [if_neg (by omega)]
 rw [k1]
 cases GK (ptR n.Points) 0 n.Points with
 | some r=>rfl
 | none=>
  simp only [HL,Option.bind_some,eM,k2,Option.none_or]
  cases GK (lkR n) 0 n.Links <;> rfl
end
end Go.Proofs.YtnlaiahcemckkaaGreatDoor.Av
