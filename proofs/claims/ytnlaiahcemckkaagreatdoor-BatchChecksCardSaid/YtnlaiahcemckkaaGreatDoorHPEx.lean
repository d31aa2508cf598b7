import Derived.Test.YtnlaiahcemckkaaGreatDoorHPEf
import Derived.Test.YtnlaiahcemckkaaGreatDoorHPEu
import Derived.Test.YtnlaiahcemckkaaGreatDoorHPEr
open Prod (fst)
open Int (tdiv tmod)
set_option maxHeartbeats 4000000
set_option maxRecDepth 100000
set_option linter.unusedVariables false
set_option linter.unusedSimpArgs false
namespace Go.Proofs.YtnlaiahcemckkaaGreatDoor.Av
noncomputable section
open Go Go.Proofs
def Rq (p_0:GG):HT Int True:=.run (cs 2 []) (fun _=>He) <|
  .bd (QU p_0.Config.Top) fun r1=>.sp (r1=(0:Int))
  (.bd (UP p_0.Config.Devices p_0.Config.Top.Net) fun r4=>.sp (r4=(0:Int))
  (.bd (XT p_0.Config.Classes) fun r7=>.sp (r7=(0:Int))
  (.bd (Zg p_0.Config.Tags) fun r10=>.sp (r10=(0:Int))
  (.run (cs 11 (bt::(cs 9 ((.ret none [.any] (jI r1) [])::(cs 3 (oa::bf::(cs 3 (bt::(cs 13 ((.ret none [.any,.any] (jI r4) [])::(cs 3 (oa::bf::(cs 3 (bt::(cs 9 ((.ret none [.any] (jI r7) [])::(cs 3 (oa::bf::(cs 3 (bt::(cs 9 ((.ret none [.any] (jI r10) [])::(cs 3 (oa::bf::(cs 3 (bf::(cs 5 [bf]))))))))))))))))))))))))))) (fun γ=>k2 (rfl:true=true) (k2 (Jy p_0.Config.Top r1 γ.1.1.1.1.1.1.1.2) (k2 (Gs (Gp γ.1.1.1.1.1.1.2)) (k2 (rfl:true=true) (k2 (Q8 p_0.Config.Devices p_0.Config.Top.Net r4 γ.1.1.1.1.1.2) (k2 (Gs (Gp γ.1.1.1.1.2)) (k2 (rfl:true=true) (k2 (YD p_0.Config.Classes r7 γ.1.1.1.2) (k2 (Gs (Gp γ.1.1.2)) (k2 (rfl:true=true) (k2 (GcZ p_0.Config.Tags r10 γ.1.2) (k2 (Gs (Gp γ.2)) (k2 (rfl:false=false) (Gb (rfl:false=false))))))))))))))) <|
  .sp (p_0.Config.Gap<(0:Int))
  (.run (cs 3 (oa::oc::tc::(cs 5 [bt,oc]))) (fun γ=>k2 (dT γ.2) (Gb (rfl:true=true))) <|
  .leaf 12 [])
  (.run (cs 3 (oa::oc::oF::(cs 2 (oa::(cs 2 []))))) (fun γ=>Gb (dF γ.2)) <|
  .sp (p_0.Config.Gap>(3600:Int))
  (.run [bt,oc] (fun γ=>Gb (dT γ.2)) <|
  .leaf 12 [])
  (.run [bf] (fun γ=>Gb (dF γ.2)) <|
  .sp (p_0.Config.Weak<(0:Int))
  (.run (cs 3 (oa::oc::tc::(cs 5 [bt,oc]))) (fun γ=>k2 (dT γ.2) (Gb (rfl:true=true))) <|
  .leaf 1 [])
  (.run (cs 3 (oa::oc::oF::(cs 2 (oa::(cs 2 []))))) (fun γ=>Gb (dF γ.2)) <|
  .sp (p_0.Config.Weak>(1000:Int))
  (.run [bt,oc] (fun γ=>Gb (dT γ.2)) <|
  .leaf 1 [])
  (.run [bf,oc] (fun γ=>Gb (dF γ.2)) <|
  .leaf 0 [])))))
  (.run (cs 11 (bt::(cs 9 ((.ret none [.any] (jI r1) [])::(cs 3 (oa::bf::(cs 3 (bt::(cs 13 ((.ret none [.any,.any] (jI r4) [])::(cs 3 (oa::bf::(cs 3 (bt::(cs 9 ((.ret none [.any] (jI r7) [])::(cs 3 (oa::bf::(cs 3 (bt::(cs 9 ((.ret none [.any] (jI r10) [])::(cs 3 (oa::bt::(cs 4 (oa::oc::bt::(cs 2 []))))))))))))))))))))))))))) (fun γ=>k2 (rfl:true=true) (k2 (Jy p_0.Config.Top r1 γ.1.1.1.1.1.1.1.2) (k2 (Gs (Gp γ.1.1.1.1.1.1.2)) (k2 (rfl:true=true) (k2 (Q8 p_0.Config.Devices p_0.Config.Top.Net r4 γ.1.1.1.1.1.2) (k2 (Gs (Gp γ.1.1.1.1.2)) (k2 (rfl:true=true) (k2 (YD p_0.Config.Classes r7 γ.1.1.1.2) (k2 (Gs (Gp γ.1.1.2)) (k2 (rfl:true=true) (k2 (GcZ p_0.Config.Tags r10 γ.1.2) (k2 (Gu (Gw γ.2)) (Gb (Gu (Gw γ.2))))))))))))))) <|
  .leaf r10 []))
  (.run (cs 11 (bt::(cs 9 ((.ret none [.any] (jI r1) [])::(cs 3 (oa::bf::(cs 3 (bt::(cs 13 ((.ret none [.any,.any] (jI r4) [])::(cs 3 (oa::bf::(cs 3 (bt::(cs 9 ((.ret none [.any] (jI r7) [])::(cs 3 (oa::bt::(cs 4 (oa::oc::bt::(cs 2 []))))))))))))))))))))) (fun γ=>k2 (rfl:true=true) (k2 (Jy p_0.Config.Top r1 γ.1.1.1.1.1.2) (k2 (Gs (Gp γ.1.1.1.1.2)) (k2 (rfl:true=true) (k2 (Q8 p_0.Config.Devices p_0.Config.Top.Net r4 γ.1.1.1.2) (k2 (Gs (Gp γ.1.1.2)) (k2 (rfl:true=true) (k2 (YD p_0.Config.Classes r7 γ.1.2) (k2 (Gu (Gw γ.2)) (Gb (Gu (Gw γ.2)))))))))))) <|
  .leaf r7 []))
  (.run (cs 11 (bt::(cs 9 ((.ret none [.any] (jI r1) [])::(cs 3 (oa::bf::(cs 3 (bt::(cs 13 ((.ret none [.any,.any] (jI r4) [])::(cs 3 (oa::bt::(cs 4 (oa::oc::bt::(cs 2 []))))))))))))))) (fun γ=>k2 (rfl:true=true) (k2 (Jy p_0.Config.Top r1 γ.1.1.1.2) (k2 (Gs (Gp γ.1.1.2)) (k2 (rfl:true=true) (k2 (Q8 p_0.Config.Devices p_0.Config.Top.Net r4 γ.1.2) (k2 (Gu (Gw γ.2)) (Gb (Gu (Gw γ.2))))))))) <|
  .leaf r4 []))
  (.run (cs 11 (bt::(cs 9 ((.ret none [.any] (jI r1) [])::(cs 3 (oa::bt::(cs 4 (oa::oc::bt::(cs 2 []))))))))) (fun γ=>k2 (rfl:true=true) (k2 (Jy p_0.Config.Top r1 γ.1.2) (k2 (Gu (Gw γ.2)) (Gb (Gu (Gw γ.2)))))) <|
  .leaf r1 [])
def Qt (p_0:GG):Option Int:=(Rq p_0).den
theorem Jp (p_0:GG) (r:Int) (h:Qt p_0=some r):G5 Tryz.prog GT 43 [.agg (GG.enc p_0)] (jI r) []:=
 G5.of_ht 400 (Rq p_0) (fun (r:Int)=>jI r) (fun (r:Int)=>[]) (by kernel_rfl) h
def JD (p_0:GG):Nat→HT (Nat⊕(Int⊕Unit)) True
 | k36=>.run [oa] (fun _=>He) <|
  .sp ((↑k36:Int)<(↑p_0.Config.Caps.length:Int))
  (.run [bt] (fun γ=>Gb (dT γ.2)) <|
  .bd (p_0.Config.Caps[k36]?) fun x21=>.run ((.op none (.i k36))::(.op none (.v [.str x21.Name,.str x21.System,jI x21.Days,jI x21.Cents]))::(cs 2 [])) (fun γ=>k2 (ir γ.2) (k2 (GC (f:=Hi.enc) (z:=3) (fun _=>rfl) γ.2) (Gb (GU (f:=Hi.enc) (z:=4) (j:=k36) (fun _=>rfl) γ.2 rfl)))) <|
  .bd (GgN x21) fun r23=>.run (oc::(.ret none [.any] (jI r23) [])::(cs 2 [oa])) (fun γ=>Gb (GnY x21 r23 γ.2)) <|
  .sp (r23=(0:Int))
  (.run [bf] (fun γ=>Gb (Gs (Gp γ.2))) <|
  .gd (GP .i64 ((↑k36:Int)+1)) <| .run [ow,oc] (fun γ=>Gb γ.2) <|
  .leaf (Sum.inl (k36+1)) [])
  (.run (bt::(cs 2 [])) (fun γ=>Gb (Gu (Gw γ.2))) <|
  .leaf (Sum.inr (Sum.inl r23)) []))
  (.run [bf] (fun γ=>Gb (dF γ.2)) <|
  .leaf (Sum.inr (Sum.inr (()))) [])
def HB (p_0:GG):Nat→Option (Nat⊕(Int⊕Unit)):=fun s=>(JD p_0 s).den
def RF (p_0:GG):Nat→PS:=fun s=>(46,[(34,.lst (fl Hi.enc p_0.Config.Caps) p_0.Config.Caps.length),(35,jI (↑p_0.Config.Caps.length:Int)),(36,jI (↑s:Int))],[])
def Rv:(Int⊕Unit)→Hm:=fun q=>match q with | Sum.inl o=>.ret | Sum.inr (o)=>(.exit 0)
def RG (p_0:GG):(Int⊕Unit)→List (Nat×AV):=fun q=>match q with | Sum.inl o=>[(2,jI o)] | Sum.inr (o)=>[]
def RJ (p_0:GG):(Int⊕Unit)→List G6:=fun q=>match q with | Sum.inl o=>[] | Sum.inr (o)=>[]
theorem QC (p_0:GG) {s:Nat} {r:Int⊕Unit} (h:lp (HB p_0) s=some r):GI Tryz.prog GT 0 (.loop (GO Tryz.prog 44 [1,1,1,1,1,0,1,0,0])) (RF p_0 s).st (Rv r) (PS.st (46,RG p_0 r,RJ p_0 r)):=
 GI.lp_ht 0 400 (RF p_0) Rv (fun q=>(46,RG p_0 q,RJ p_0 q)) (JD p_0) (by intro k36; kernel_rfl) h
def QT (p_0:GG):HT Int True:=.run (cs 2 []) (fun _=>He) <|
  .bd (RT p_0.Config.Tariffs p_0.Config.Top) fun r1=>.sp (r1=(0:Int))
  (.bd (MZ p_0.Config.Scale) fun r4=>.sp (r4=(0:Int))
  (.run (cs 9 (bt::(cs 12 ((.ret none [.any,.any] (jI r1) [])::(cs 3 (oa::bf::(cs 3 (bt::(cs 9 ((.ret none [.any] (jI r4) [])::(cs 3 (oa::bf::(cs 3 (bf::(cs 4 (bf::(cs 4 [oa]))))))))))))))))) (fun γ=>k2 (rfl:true=true) (k2 (Rt p_0.Config.Tariffs p_0.Config.Top r1 γ.1.1.1.2) (k2 (Gs (Gp γ.1.1.2)) (k2 (rfl:true=true) (k2 (YO p_0.Config.Scale r4 γ.1.2) (k2 (Gs (Gp γ.2)) (k2 (rfl:false=false) (Gb (rfl:false=false))))))))) <|
  .sp ((↑p_0.Config.Discounts.length:Int)>(12:Int))
  (.run [bt,oc] (fun γ=>Gb (dT γ.2)) <|
  .leaf 3 [])
  (.run [bf] (fun γ=>Gb (dF γ.2)) <|
  .bd (Qn p_0.Config.Discounts) fun r8=>.run (cs 3 ((.ret none [.any] (jI r8) [])::(cs 2 [oa]))) (fun γ=>Gb (GeI p_0.Config.Discounts r8 γ.2)) <|
  .sp (r8=(0:Int))
  (.run (bf::(cs 4 [oa])) (fun γ=>Gb (Gs (Gp γ.2))) <|
  .sp ((↑p_0.Config.Caps.length:Int)>(12:Int))
  (.run [bt,oc] (fun γ=>Gb (dT γ.2)) <|
  .leaf 3 [])
  (.run (bf::(cs 5 [])) (fun γ=>Gb (dF γ.2)) <|
  .bd (lp (HB p_0) (0:Nat)) fun qq=>.cs qq (fun o12=>.run [.fcut 0 .ret [(2,jI o12)] [] [] [(34,.any),(35,.any),(36,jI (↑(0:Nat):Int))] []] (fun γ=>k2 (rfl:(jI 0:AV)=jI (↑(0:Nat):Int)) (Gb (QC p_0 (s:=(0:Nat)) (r:=Sum.inl o12) (eS γ.1.2 γ.2)))) <|
  .leaf o12 [])
  (fun o12=>.run [.fcut 0 (.exit 0) [] [] [] [(34,.any),(35,.any),(36,jI (↑(0:Nat):Int))] [],oc] (fun γ=>k2 (rfl:(jI 0:AV)=jI (↑(0:Nat):Int)) (Gb (QC p_0 (s:=(0:Nat)) (r:=Sum.inr (o12)) (eS γ.1.2 γ.2)))) <|
  .leaf 0 [])))
  (.run (bt::(cs 2 [])) (fun γ=>Gb (Gu (Gw γ.2))) <|
  .leaf r8 [])))
  (.run (cs 9 (bt::(cs 12 ((.ret none [.any,.any] (jI r1) [])::(cs 3 (oa::bf::(cs 3 (bt::(cs 9 ((.ret none [.any] (jI r4) [])::(cs 3 (oa::bt::(cs 4 (oa::bt::(cs 2 []))))))))))))))) (fun γ=>k2 (rfl:true=true) (k2 (Rt p_0.Config.Tariffs p_0.Config.Top r1 γ.1.1.1.2) (k2 (Gs (Gp γ.1.1.2)) (k2 (rfl:true=true) (k2 (YO p_0.Config.Scale r4 γ.1.2) (k2 (Gu (Gw γ.2)) (Gb (Gu (Gw γ.2))))))))) <|
  .leaf r4 []))
  (.run (cs 9 (bt::(cs 12 ((.ret none [.any,.any] (jI r1) [])::(cs 3 (oa::bt::(cs 4 (oa::bt::(cs 2 []))))))))) (fun γ=>k2 (rfl:true=true) (k2 (Rt p_0.Config.Tariffs p_0.Config.Top r1 γ.1.2) (k2 (Gu (Gw γ.2)) (Gb (Gu (Gw γ.2)))))) <|
  .leaf r1 [])
def MQ (p_0:GG):Option Int:=(QT p_0).den
theorem Kg (p_0:GG) (r:Int) (h:MQ p_0=some r):G5 Tryz.prog GT 44 [.agg (GG.enc p_0)] (jI r) []:=
 G5.of_ht 400 (QT p_0) (fun (r:Int)=>jI r) (fun (r:Int)=>[]) (by kernel_rfl) h
def JG (p_0:GG):Nat→HT (Nat⊕(Int⊕Unit)) True
 | k23=>.run [oa] (fun _=>He) <|
  .sp ((↑k23:Int)<(↑p_0.Config.Permits.length:Int))
  (.run [bt] (fun γ=>Gb (dT γ.2)) <|
  .bd (p_0.Config.Permits[k23]?) fun x14=>.run ((.op none (.i k23))::(.op none (.v [.str x14.Name,.str x14.Zone,.lst (fl Mm x14.Plates) x14.Plates.length,jI x14.Valid.From,jI x14.Valid.To,.lst (fl Gm.enc x14.Hours) x14.Hours.length,jI x14.Most]))::(cs 2 [])) (fun γ=>k2 (ir γ.2) (k2 (GC (f:=GH.enc) (z:=6) (fun _=>rfl) γ.2) (Gb (GU (f:=GH.enc) (z:=7) (j:=k23) (fun _=>rfl) γ.2 rfl)))) <|
  .bd (Ze x14 p_0.Config.Zones) fun r16=>.run (cs 4 ((.ret none [.any,.any] (jI r16) [])::(cs 2 [oa]))) (fun γ=>Gb (GkD x14 p_0.Config.Zones r16 γ.2)) <|
  .sp (r16=(0:Int))
  (.run [bf] (fun γ=>Gb (Gs (Gp γ.2))) <|
  .gd (GP .i64 ((↑k23:Int)+1)) <| .run [ow,oc] (fun γ=>Gb γ.2) <|
  .leaf (Sum.inl (k23+1)) [0])
  (.run (bt::(cs 2 [])) (fun γ=>Gb (Gu (Gw γ.2))) <|
  .leaf (Sum.inr (Sum.inl r16)) [0]))
  (.run [bf] (fun γ=>Gb (dF γ.2)) <|
  .leaf (Sum.inr (Sum.inr (()))) [0])
def HA (p_0:GG):Nat→Option (Nat⊕(Int⊕Unit)):=fun s=>(JG p_0 s).den
def RC (p_0:GG):Nat→PS:=fun s=>(36,[(1,.ptr 0 0),(21,.lst (fl GH.enc p_0.Config.Permits) p_0.Config.Permits.length),(22,jI (↑p_0.Config.Permits.length:Int)),(23,jI (↑s:Int))],[(bT (GG.enc p_0) 125)])
def Ry:(Int⊕Unit)→Hm:=fun q=>match q with | Sum.inl o=>.ret | Sum.inr (o)=>(.exit 0)
def Rz (p_0:GG):(Int⊕Unit)→List (Nat×AV):=fun q=>match q with | Sum.inl o=>[(2,jI o)] | Sum.inr (o)=>[]
def Rx (p_0:GG):(Int⊕Unit)→List G6:=fun q=>match q with | Sum.inl o=>[(bT (GG.enc p_0) 125)] | Sum.inr (o)=>[(bT (GG.enc p_0) 125)]
theorem Qu (p_0:GG) {s:Nat} {r:Int⊕Unit} (h:lp (HA p_0) s=some r):GI Tryz.prog GT 1 (.loop (GO Tryz.prog 45 [1,1,1,0,1,0,0])) (RC p_0 s).st (Ry r) (PS.st (36,Rz p_0 r,Rx p_0 r)):=
 GI.lp_ht 1 400 (RC p_0) Ry (fun q=>(36,Rz p_0 q,Rx p_0 q)) (JG p_0) (by intro k23; kernel_rfl) h
def Qd (p_0:GG):HT Int True:=.run (cs 2 []) (fun _=>He) <|
  .bd (Xb p_0.Config.Zones) fun r1=>.run (cs 3 ((.ret none [.any] (jI r1) [])::(cs 2 [oa]))) (fun γ=>Gb (Gjr p_0.Config.Zones r1 γ.2)) <|
  .sp (r1=(0:Int))
  (.run (bf::(cs 4 [oa])) (fun γ=>Gb (Gs (Gp γ.2))) <|
  .sp ((↑p_0.Config.Permits.length:Int)>(1024:Int))
  (.run [bt,oc] (fun γ=>Gb (dT γ.2)) <|
  .leaf 3 [])
  (.run (bf::(cs 5 [])) (fun γ=>Gb (dF γ.2)) <|
  .bd (lp (HA p_0) (0:Nat)) fun qq=>.cs qq (fun o5=>.run [.fcut 1 .ret [(2,jI o5)] [(bT (GG.enc p_0) 125)] [0] [(1,.any),(21,.any),(22,.any),(23,jI (↑(0:Nat):Int))] [bS]] (fun γ=>k2 (rfl:(jI 0:AV)=jI (↑(0:Nat):Int)) (Gb (Qu p_0 (s:=(0:Nat)) (r:=Sum.inl o5) (eS γ.1.2 γ.2)))) <|
  .leaf o5 [])
  (fun o5=>.run [.fcut 1 (.exit 0) [] [(bT (GG.enc p_0) 125)] [0] [(1,.any),(21,.any),(22,.any),(23,jI (↑(0:Nat):Int))] [bS],oc] (fun γ=>k2 (rfl:(jI 0:AV)=jI (↑(0:Nat):Int)) (Gb (Qu p_0 (s:=(0:Nat)) (r:=Sum.inr (o5)) (eS γ.1.2 γ.2)))) <|
  .leaf 0 [])))
  (.run (bt::(cs 2 [])) (fun γ=>Gb (Gu (Gw γ.2))) <|
  .leaf r1 [])
def Md (p_0:GG):Option Int:=(Qd p_0).den
theorem Mk (p_0:GG) (r:Int) (h:Md p_0=some r):G5 Tryz.prog GT 45 [.agg (GG.enc p_0)] (jI r) []:=
 G5.of_ht 400 (Qd p_0) (fun (r:Int)=>jI r) (fun (r:Int)=>[]) (by kernel_rfl) h
def Kt (p_0:GG):Nat→HT (Nat⊕(Unit⊕Unit)) True
 | k23=>.run [oa] (fun _=>He) <|
  .sp ((↑k23:Int)<(↑p_0.Config.Holidays.length:Int))
  (.run [bt] (fun γ=>Gb (dT γ.2)) <|
  .bd (p_0.Config.Holidays[k23]?) fun x21=>.run (oc::(.op none (.i k23))::(vI x21)::(cs 2 [])) (fun γ=>k2 (ir γ.2) (k2 (GC (f:=Hc) (z:=0) (fun _=>rfl) γ.2) (Gb (HK γ.2)))) <|
  .sp ((↑k23:Int)>(0:Int))
  (.gd (GP .i64 ((↑k23:Int) - 1)) <| .gd ((0:Int)≤((↑k23:Int) - 1)) <| .bd (p_0.Config.Holidays[(Int.toNat ((↑k23:Int) - 1))]?) fun x26=>.run (oc::oa::oc::tc::(cs 4 [ow,.op none (.i (Int.toNat ((↑k23:Int) - 1))),vI x26,oa,oc])) (fun γ=>k2 (dT γ.1.1.1.2) (k2 γ.1.1.2 (k2 (ix γ.1.2 γ.2) (k2 (GC (f:=Hc) (z:=0) (fun _=>rfl) γ.2) (Gb (HK γ.2)))))) <|
  .sp (x21≤x26)
  (.run [bt,oc] (fun γ=>Gb (dT γ.2)) <|
  .leaf (Sum.inr (Sum.inl ())) [0])
  (.run [bf] (fun γ=>Gb (dF γ.2)) <|
  .gd (GP .i64 ((↑k23:Int)+1)) <| .run [ow,oc] (fun γ=>Gb γ.2) <|
  .leaf (Sum.inl (k23+1)) [0]))
  (.run (oc::oa::oc::oF::(cs 9 [bf])) (fun γ=>k2 (dF γ.2) (Gb (rfl:false=false))) <|
  .gd (GP .i64 ((↑k23:Int)+1)) <| .run [ow,oc] (fun γ=>Gb γ.2) <|
  .leaf (Sum.inl (k23+1)) [0]))
  (.run [bf] (fun γ=>Gb (dF γ.2)) <|
  .leaf (Sum.inr (Sum.inr (()))) [0])
def H0 (p_0:GG):Nat→Option (Nat⊕(Unit⊕Unit)):=fun s=>(Kt p_0 s).den
def VB (p_0:GG):Nat→PS:=fun s=>(54,[(1,.ptr 0 0),(21,.lst (fl Hc p_0.Config.Holidays) p_0.Config.Holidays.length),(22,jI (↑p_0.Config.Holidays.length:Int)),(23,jI (↑s:Int))],[(bT (GG.enc p_0) 125)])
def VN:(Unit⊕Unit)→Hm:=fun q=>match q with | Sum.inl o=>.ret | Sum.inr (o)=>(.exit 0)
def VO (p_0:GG):(Unit⊕Unit)→List (Nat×AV):=fun q=>match q with | Sum.inl o=>[(2,jI 15)] | Sum.inr (o)=>[(1,.ptr 0 0)]
def Vt (p_0:GG):(Unit⊕Unit)→List G6:=fun q=>match q with | Sum.inl o=>[(bT (GG.enc p_0) 125)] | Sum.inr (o)=>[(bT (GG.enc p_0) 125)]
theorem RK (p_0:GG) {s:Nat} {r:Unit⊕Unit} (h:lp (H0 p_0) s=some r):GI Tryz.prog GT 1 (.loop (GO Tryz.prog 46 [1,1,1,0,1,0,0])) (VB p_0 s).st (VN r) (PS.st (54,VO p_0 r,Vt p_0 r)):=
 GI.lp_ht 1 400 (VB p_0) VN (fun q=>(54,VO p_0 q,Vt p_0 q)) (Kt p_0) (by intro k23; kernel_rfl) h
def R1 (p_0:GG):HT Int True:=.run (cs 2 []) (fun _=>He) <|
  .bd (Mv p_0.Config.Accounts) fun r1=>.sp (r1=(0:Int))
  (.bd (Za p_0.Config.Reliefs) fun r4=>.sp (r4=(0:Int))
  (.run (cs 9 (bt::(cs 9 ((.ret none [.any] (jI r1) [])::(cs 3 (oa::bf::(cs 3 (bt::(cs 9 ((.ret none [.any] (jI r4) [])::(cs 3 (oa::bf::(cs 3 (bf::(cs 4 (bf::(cs 4 [oa]))))))))))))))))) (fun γ=>k2 (rfl:true=true) (k2 (QR p_0.Config.Accounts r1 γ.1.1.1.2) (k2 (Gs (Gp γ.1.1.2)) (k2 (rfl:true=true) (k2 (Gdy p_0.Config.Reliefs r4 γ.1.2) (k2 (Gs (Gp γ.2)) (k2 (rfl:false=false) (Gb (rfl:false=false))))))))) <|
  .sp ((↑p_0.Config.Holidays.length:Int)>(1024:Int))
  (.run [bt,oc] (fun γ=>Gb (dT γ.2)) <|
  .leaf 3 [])
  (.run (bf::(cs 5 [])) (fun γ=>Gb (dF γ.2)) <|
  .bd (lp (H0 p_0) (0:Nat)) fun qq=>.cs qq (fun o8=>.run [.fcut 1 .ret [(2,jI 15)] [(bT (GG.enc p_0) 125)] [0] [(1,.any),(21,.any),(22,.any),(23,jI (↑(0:Nat):Int))] [bS]] (fun γ=>k2 (rfl:(jI 0:AV)=jI (↑(0:Nat):Int)) (Gb (RK p_0 (s:=(0:Nat)) (r:=Sum.inl o8) (eS γ.1.2 γ.2)))) <|
  .leaf 15 [])
  (fun o8=>.run [.fcut 1 (.exit 0) [(1,.ptr 0 0)] [(bT (GG.enc p_0) 125)] [0] [(1,.any),(21,.any),(22,.any),(23,jI (↑(0:Nat):Int))] [bS]] (fun γ=>k2 (rfl:(jI 0:AV)=jI (↑(0:Nat):Int)) (Gb (RK p_0 (s:=(0:Nat)) (r:=Sum.inr (o8)) (eS γ.1.2 γ.2)))) <|
  .bd (Zt p_0.Config.Law) fun r31=>.sp (r31=(0:Int))
  (.bd (Zj p_0.Config.Keeping) fun r34=>.sp (r34=(0:Int))
  (.run (cs 9 (bt::(cs 9 ((.ret none [.any] (jI r31) [])::(cs 3 (oa::bf::(cs 3 (bt::(cs 9 ((.ret none [.any] (jI r34) [])::(cs 3 (oa::bf::(cs 3 (bf::(cs 4 [bf]))))))))))))))) (fun γ=>k2 (rfl:true=true) (k2 (VT p_0.Config.Law r31 γ.1.1.1.2) (k2 (Gs (Gp γ.1.1.2)) (k2 (rfl:true=true) (k2 (Gc1 p_0.Config.Keeping r34 γ.1.2) (k2 (Gs (Gp γ.2)) (k2 (rfl:false=false) (Gb (rfl:false=false))))))))) <|
  .bd (HC p_0.Config.Agency) fun r37=>.run (cs 3 [.ret none [.any] (.bool r37) [],oc]) (fun γ=>Gb (Ha p_0.Config.Agency r37 γ.2)) <|
  .sp (r37=true)
  (.run [bf,oc] (fun γ=>Gb ((Gs γ.2):(!r37)=false)) <|
  .leaf 0 [])
  (.run [bt,oc] (fun γ=>Gb ((Gu (eq_false_of_ne_true γ.2)):(!r37)=true)) <|
  .leaf 6 []))
  (.run (cs 9 (bt::(cs 9 ((.ret none [.any] (jI r31) [])::(cs 3 (oa::bf::(cs 3 (bt::(cs 9 ((.ret none [.any] (jI r34) [])::(cs 3 (oa::bt::(cs 4 (oa::bt::(cs 2 []))))))))))))))) (fun γ=>k2 (rfl:true=true) (k2 (VT p_0.Config.Law r31 γ.1.1.1.2) (k2 (Gs (Gp γ.1.1.2)) (k2 (rfl:true=true) (k2 (Gc1 p_0.Config.Keeping r34 γ.1.2) (k2 (Gu (Gw γ.2)) (Gb (Gu (Gw γ.2))))))))) <|
  .leaf r34 []))
  (.run (cs 9 (bt::(cs 9 ((.ret none [.any] (jI r31) [])::(cs 3 (oa::bt::(cs 4 (oa::bt::(cs 2 []))))))))) (fun γ=>k2 (rfl:true=true) (k2 (VT p_0.Config.Law r31 γ.1.2) (k2 (Gu (Gw γ.2)) (Gb (Gu (Gw γ.2)))))) <|
  .leaf r31 []))))
  (.run (cs 9 (bt::(cs 9 ((.ret none [.any] (jI r1) [])::(cs 3 (oa::bf::(cs 3 (bt::(cs 9 ((.ret none [.any] (jI r4) [])::(cs 3 (oa::bt::(cs 4 (oa::bt::(cs 2 []))))))))))))))) (fun γ=>k2 (rfl:true=true) (k2 (QR p_0.Config.Accounts r1 γ.1.1.1.2) (k2 (Gs (Gp γ.1.1.2)) (k2 (rfl:true=true) (k2 (Gdy p_0.Config.Reliefs r4 γ.1.2) (k2 (Gu (Gw γ.2)) (Gb (Gu (Gw γ.2))))))))) <|
  .leaf r4 []))
  (.run (cs 9 (bt::(cs 9 ((.ret none [.any] (jI r1) [])::(cs 3 (oa::bt::(cs 4 (oa::bt::(cs 2 []))))))))) (fun γ=>k2 (rfl:true=true) (k2 (QR p_0.Config.Accounts r1 γ.1.2) (k2 (Gu (Gw γ.2)) (Gb (Gu (Gw γ.2)))))) <|
  .leaf r1 [])
def QY (p_0:GG):Option Int:=(R1 p_0).den
theorem XE (p_0:GG) (r:Int) (h:QY p_0=some r):G5 Tryz.prog GT 46 [.agg (GG.enc p_0)] (jI r) []:=
 G5.of_ht 400 (R1 p_0) (fun (r:Int)=>jI r) (fun (r:Int)=>[]) (by kernel_rfl) h
def GcD (c_0:GB):HT Int True:=.run (cs 6 []) (fun _=>He) <|
  .bd (Qt (⟨c_0⟩:GG)) fun r1=>.sp (r1=(0:Int))
  (.bd (MQ (⟨c_0⟩:GG)) fun r4=>.sp (r4=(0:Int))
  (.bd (Md (⟨c_0⟩:GG)) fun r7=>.sp (r7=(0:Int))
  (.bd (QY (⟨c_0⟩:GG)) fun r10=>.sp (r10=(0:Int))
  (.run (cs 15 (bt::(cs 4 ((.ret none [.any] (jI r1) [])::(cs 2 (oa::bf::(cs 3 (bt::(cs 4 ((.ret none [.any] (jI r4) [])::(cs 2 (oa::bf::(cs 3 (bt::(cs 4 ((.ret none [.any] (jI r7) [])::(cs 2 (oa::bf::(cs 3 (bt::(cs 4 ((.ret none [.any] (jI r10) [])::(cs 2 (oa::bf::(cs 3 (bf::(cs 2 []))))))))))))))))))))))))))) (fun γ=>k2 (rfl:true=true) (k2 (Jp (⟨c_0⟩:GG) r1 γ.1.1.1.1.1.1.1.2) (k2 (Gs (Gp γ.1.1.1.1.1.1.2)) (k2 (rfl:true=true) (k2 (Kg (⟨c_0⟩:GG) r4 γ.1.1.1.1.1.2) (k2 (Gs (Gp γ.1.1.1.1.2)) (k2 (rfl:true=true) (k2 (Mk (⟨c_0⟩:GG) r7 γ.1.1.1.2) (k2 (Gs (Gp γ.1.1.2)) (k2 (rfl:true=true) (k2 (XE (⟨c_0⟩:GG) r10 γ.1.2) (k2 (Gs (Gp γ.2)) (Gb (rfl:false=false)))))))))))))) <|
  .leaf 0 [])
  (.run (cs 15 (bt::(cs 4 ((.ret none [.any] (jI r1) [])::(cs 2 (oa::bf::(cs 3 (bt::(cs 4 ((.ret none [.any] (jI r4) [])::(cs 2 (oa::bf::(cs 3 (bt::(cs 4 ((.ret none [.any] (jI r7) [])::(cs 2 (oa::bf::(cs 3 (bt::(cs 4 ((.ret none [.any] (jI r10) [])::(cs 2 (oa::bt::(cs 3 []))))))))))))))))))))))))) (fun γ=>k2 (rfl:true=true) (k2 (Jp (⟨c_0⟩:GG) r1 γ.1.1.1.1.1.1.1.2) (k2 (Gs (Gp γ.1.1.1.1.1.1.2)) (k2 (rfl:true=true) (k2 (Kg (⟨c_0⟩:GG) r4 γ.1.1.1.1.1.2) (k2 (Gs (Gp γ.1.1.1.1.2)) (k2 (rfl:true=true) (k2 (Mk (⟨c_0⟩:GG) r7 γ.1.1.1.2) (k2 (Gs (Gp γ.1.1.2)) (k2 (rfl:true=true) (k2 (XE (⟨c_0⟩:GG) r10 γ.1.2) (Gb (Gu (Gw γ.2)))))))))))))) <|
  .leaf r10 []))
  (.run (cs 15 (bt::(cs 4 ((.ret none [.any] (jI r1) [])::(cs 2 (oa::bf::(cs 3 (bt::(cs 4 ((.ret none [.any] (jI r4) [])::(cs 2 (oa::bf::(cs 3 (bt::(cs 4 ((.ret none [.any] (jI r7) [])::(cs 2 (oa::bt::(cs 3 []))))))))))))))))))) (fun γ=>k2 (rfl:true=true) (k2 (Jp (⟨c_0⟩:GG) r1 γ.1.1.1.1.1.2) (k2 (Gs (Gp γ.1.1.1.1.2)) (k2 (rfl:true=true) (k2 (Kg (⟨c_0⟩:GG) r4 γ.1.1.1.2) (k2 (Gs (Gp γ.1.1.2)) (k2 (rfl:true=true) (k2 (Mk (⟨c_0⟩:GG) r7 γ.1.2) (Gb (Gu (Gw γ.2))))))))))) <|
  .leaf r7 []))
  (.run (cs 15 (bt::(cs 4 ((.ret none [.any] (jI r1) [])::(cs 2 (oa::bf::(cs 3 (bt::(cs 4 ((.ret none [.any] (jI r4) [])::(cs 2 (oa::bt::(cs 3 []))))))))))))) (fun γ=>k2 (rfl:true=true) (k2 (Jp (⟨c_0⟩:GG) r1 γ.1.1.1.2) (k2 (Gs (Gp γ.1.1.2)) (k2 (rfl:true=true) (k2 (Kg (⟨c_0⟩:GG) r4 γ.1.2) (Gb (Gu (Gw γ.2)))))))) <|
  .leaf r4 []))
  (.run (cs 15 (bt::(cs 4 ((.ret none [.any] (jI r1) [])::(cs 2 (oa::bt::(cs 3 []))))))) (fun γ=>k2 (rfl:true=true) (k2 (Jp (⟨c_0⟩:GG) r1 γ.1.2) (Gb (Gu (Gw γ.2))))) <|
  .leaf r1 [])
def GbE (c_0:GB):Option Int:=(GcD c_0).den
theorem Gew (c_0:GB) (r:Int) (h:GbE c_0=some r):G5 Tryz.prog GT 10 [.agg (GB.enc c_0)] (jI r) []:=
 G5.of_ht 400 (GcD c_0) (fun (r:Int)=>jI r) (fun (r:Int)=>[]) (by kernel_rfl) h
end
set_option maxHeartbeats 4000000
set_option maxRecDepth 100000
noncomputable section
open Go Go.Proofs
def Xi (l_0:(List Int)):Nat→HT (Nat⊕(Int⊕Unit)) True
 | k3=>.run (cs 3 [oa]) (fun _=>He) <|
  .sp ((↑k3:Int)<(↑l_0.length:Int))
  (.run [bt] (fun γ=>Gb (dT γ.2)) <|
  .bd (l_0[k3]?) fun x8=>.run (cs 2 [.op none (.i k3),vI x8,oa]) (fun γ=>k2 (ir γ.2) (k2 (GC (f:=Hc) (z:=0) (fun _=>rfl) γ.2) (Gb (HK γ.2)))) <|
  .sp (x8=(0:Int))
  (.run [bf] (fun γ=>Gb (Gs (Gp γ.2))) <|
  .gd (GP .i64 ((↑k3:Int)+1)) <| .run [oc,ow,oc] (fun γ=>Gb γ.2) <|
  .leaf (Sum.inl (k3+1)) [])
  (.run (bt::(cs 2 [.op none (.i k3),vI x8,oc])) (fun γ=>k2 (Gu (Gw γ.2)) (k2 (ir γ.1.2) (k2 (GC (f:=Hc) (z:=0) (fun _=>rfl) γ.1.2) (Gb (HK γ.1.2))))) <|
  .leaf (Sum.inr (Sum.inl x8)) []))
  (.run [bf] (fun γ=>Gb (dF γ.2)) <|
  .leaf (Sum.inr (Sum.inr (()))) [])
def Mn (l_0:(List Int)):Nat→Option (Nat⊕(Int⊕Unit)):=fun s=>(Xi l_0 s).den
def GhL (l_0:(List Int)):Nat→PS:=fun s=>(19,[(0,.lst (fl Hc l_0) l_0.length),(3,jI (↑s:Int))],[])
def Gij:(Int⊕Unit)→Hm:=fun q=>match q with | Sum.inl o=>.ret | Sum.inr (o)=>(.exit 0)
def Ghb (l_0:(List Int)):(Int⊕Unit)→List (Nat×AV):=fun q=>match q with | Sum.inl o=>[(2,jI o)] | Sum.inr (o)=>[]
def Ghw (l_0:(List Int)):(Int⊕Unit)→List G6:=fun q=>match q with | Sum.inl o=>[] | Sum.inr (o)=>[]
theorem GdJ (l_0:(List Int)) {s:Nat} {r:Int⊕Unit} (h:lp (Mn l_0) s=some r):GI Tryz.prog GT 0 (.loop (GO Tryz.prog 47 [1,0,1,0,0])) (GhL l_0 s).st (Gij r) (PS.st (19,Ghb l_0 r,Ghw l_0 r)):=
 GI.lp_ht 0 400 (GhL l_0) Gij (fun q=>(19,Ghb l_0 q,Ghw l_0 q)) (Xi l_0) (by intro k3; kernel_rfl) h
def GiK (l_0:(List Int)):HT Int True:=.run (cs 2 []) (fun _=>He) <|
  .bd (lp (Mn l_0) (0:Nat)) fun qq=>.cs qq (fun o1=>.run [.fcut 0 .ret [(2,jI o1)] [] [] [(0,.any),(3,jI (↑(0:Nat):Int))] []] (fun γ=>k2 (rfl:(jI 0:AV)=jI (↑(0:Nat):Int)) (Gb (GdJ l_0 (s:=(0:Nat)) (r:=Sum.inl o1) (eS γ.1.2 γ.2)))) <|
  .leaf o1 [])
  (fun o1=>.run [.fcut 0 (.exit 0) [] [] [] [(0,.any),(3,jI (↑(0:Nat):Int))] [],oc] (fun γ=>k2 (rfl:(jI 0:AV)=jI (↑(0:Nat):Int)) (Gb (GdJ l_0 (s:=(0:Nat)) (r:=Sum.inr (o1)) (eS γ.1.2 γ.2)))) <|
  .leaf 0 [])
def RD (l_0:(List Int)):Option Int:=(GiK l_0).den
theorem QW (l_0:(List Int)) (r:Int) (h:RD l_0=some r):G5 Tryz.prog GT 47 [.lst (fl Hc l_0) l_0.length] (jI r) []:=
 G5.of_ht 400 (GiK l_0) (fun (r:Int)=>jI r) (fun (r:Int)=>[]) (by kernel_rfl) h
def Gll (bad_0:Bool) (e_1:Int):HT Int True:=.run (cs 2 []) (fun _=>He) <|
  .sp (bad_0=true)
  (.run (bt::(cs 2 [])) (fun γ=>Gb γ.2) <|
  .leaf e_1 [])
  (.run [bf,oc] (fun γ=>Gb ((eq_false_of_ne_true γ.2):bad_0=false)) <|
  .leaf 0 [])
def Hs (bad_0:Bool) (e_1:Int):Option Int:=(Gll bad_0 e_1).den
theorem GW (bad_0:Bool) (e_1:Int) (r:Int) (h:Hs bad_0 e_1=some r):G5 Tryz.prog GT 54 [.bool bad_0,jI e_1] (jI r) []:=
 G5.of_ht 400 (Gll bad_0 e_1) (fun (r:Int)=>jI r) (fun (r:Int)=>[]) (by kernel_rfl) h
def Xn (c_0:GB):(Int×Nat)→HT ((Int×Nat)⊕Int) True
 | (v3,k4)=>.run (cs 4 [oa]) (fun _=>He) <|
  .sp ((↑k4:Int)<(↑c_0.Caps.length:Int))
  (.run [bt] (fun γ=>Gb (dT γ.2)) <|
  .bd (c_0.Caps[k4]?) fun x11=>.bd (Gkq x11) fun r13=>.bd (RD ([v3,r13]:List Int)) fun r15=>.run (cs 4 [.op none (.i k4),.op none (.v [.str x11.Name,.str x11.System,jI x11.Days,jI x11.Cents]),.ret none [.any] (jI r13) [],oc,.ret none [.lst [jI v3,jI r13] 2] (jI r15) [],oc]) (fun γ=>k2 (ir γ.1.1.2) (k2 (GC (f:=Hi.enc) (z:=3) (fun _=>rfl) γ.1.1.2) (k2 (GU (f:=Hi.enc) (z:=4) (j:=k4) (fun _=>rfl) γ.1.1.2 rfl) (k2 (Gqe x11 r13 γ.1.2) (k2 (⟨rfl,rfl,nB rfl,nB rfl⟩:sub [jI v3,jI r13] 0 2=[jI v3,jI r13]∧2=2∧0+2≤List.length ([jI v3,jI r13]:List AV)∧2≤2) (k2 (trivial:Xh []) (Gb (QW ([v3,r13]:List Int) r15 γ.2)))))))) <|
  .gd (GP .i64 ((↑k4:Int)+1)) <| .run [oc,ow,oc] (fun γ=>Gb γ.2) <|
  .leaf (Sum.inl (r15,(k4+1))) [0])
  (.run [bf] (fun γ=>Gb (dF γ.2)) <|
  .leaf (Sum.inr v3) [0])
def Kk (c_0:GB):(Int×Nat)→Option ((Int×Nat)⊕Int):=fun s=>(Xn c_0 s).den
def Ghz (c_0:GB):(Int×Nat)→PS:=fun s=>(155,[(1,.ptr 0 0),(3,jI s.1),(4,jI (↑s.2:Int))],[(bT (GB.enc c_0) 59)])
def Gg5:Int→Hm:=fun o=>(.exit 0)
def Gcy (c_0:GB):Int→List (Nat×AV):=fun o=>[(1,.ptr 0 0),(3,jI o)]
def Gh4 (c_0:GB):Int→List G6:=fun o=>[(bT (GB.enc c_0) 59)]
theorem GkW (c_0:GB) {s:(Int×Nat)} {r:Int} (h:lp (Kk c_0) s=some r):GI Tryz.prog GT 1 (.loop (GO Tryz.prog 11 [1,1,0,1,0,0])) (Ghz c_0 s).st (Gg5 r) (PS.st (155,Gcy c_0 r,Gh4 c_0 r)):=
 GI.lp_ht 1 400 (Ghz c_0) Gg5 (fun q=>(155,Gcy c_0 q,Gh4 c_0 q)) (Xn c_0) (by rintro ⟨v3,k4⟩; kernel_rfl) h
def UD (c_0:GB) (o1:Int):(Int×Nat)→HT ((Int×Nat)⊕Int) True
 | (v5,k6)=>.run (cs 4 [oa]) (fun _=>He) <|
  .sp ((↑k6:Int)<(↑c_0.Permits.length:Int))
  (.run [bt] (fun γ=>Gb (dT γ.2)) <|
  .bd (c_0.Permits[k6]?) fun x28=>.bd (Gi9 x28 c_0.Zones) fun r30=>.bd (RD ([v5,r30]:List Int)) fun r32=>.run (cs 4 ((.op none (.i k6))::(.op none (.v [.str x28.Name,.str x28.Zone,.lst (fl Mm x28.Plates) x28.Plates.length,jI x28.Valid.From,jI x28.Valid.To,.lst (fl Gm.enc x28.Hours) x28.Hours.length,jI x28.Most]))::(cs 2 [.ret none [.any,.any] (jI r30) [],oc,.ret none [.lst [jI v5,jI r30] 2] (jI r32) [],oc]))) (fun γ=>k2 (ir γ.1.1.2) (k2 (GC (f:=GH.enc) (z:=6) (fun _=>rfl) γ.1.1.2) (k2 (GU (f:=GH.enc) (z:=7) (j:=k6) (fun _=>rfl) γ.1.1.2 rfl) (k2 (Gpl x28 c_0.Zones r30 γ.1.2) (k2 (⟨rfl,rfl,nB rfl,nB rfl⟩:sub [jI v5,jI r30] 0 2=[jI v5,jI r30]∧2=2∧0+2≤List.length ([jI v5,jI r30]:List AV)∧2≤2) (k2 (trivial:Xh []) (k2 (QW ([v5,r30]:List Int) r32 γ.2) (Gb (⟨rfl,trivial⟩:(some (Ob.blk (bT [jI v5,jI r30] 3))=some (Ob.blk (bT [jI v5,jI r30] 3)))∧True))))))))) <|
  .gd (GP .i64 ((↑k6:Int)+1)) <| .run [oc,ow,oc] (fun γ=>Gb γ.2) <|
  .leaf (Sum.inl (r32,(k6+1))) [0])
  (.run [bf] (fun γ=>Gb (dF γ.2)) <|
  .leaf (Sum.inr v5) [0])
def JW (c_0:GB) (o1:Int):(Int×Nat)→Option ((Int×Nat)⊕Int):=fun s=>(UD c_0 o1 s).den
def Gfv (c_0:GB) (o1:Int):(Int×Nat)→PS:=fun s=>(155,[(1,.ptr 0 0),(3,jI o1),(5,jI s.1),(6,jI (↑s.2:Int))],[(bT (GB.enc c_0) 59)])
def GfY:Int→Hm:=fun o=>(.exit 2)
def GaB (c_0:GB) (o1:Int):Int→List (Nat×AV):=fun o=>[(1,.ptr 0 0),(3,jI o1),(5,jI o)]
def GeU (c_0:GB) (o1:Int):Int→List G6:=fun o=>[(bT (GB.enc c_0) 59)]
theorem Gkn (c_0:GB) (o1:Int) {s:(Int×Nat)} {r:Int} (h:lp (JW c_0 o1) s=some r):GI Tryz.prog GT 1 (.loop (GO Tryz.prog 11 [1,1,1,1,0,1,0,0])) (Gfv c_0 o1 s).st (GfY r) (PS.st (155,GaB c_0 o1 r,GeU c_0 o1 r)):=
 GI.lp_ht 1 400 (Gfv c_0 o1) GfY (fun q=>(155,GaB c_0 o1 q,GeU c_0 o1 q)) (UD c_0 o1) (by rintro ⟨v5,k6⟩; kernel_rfl) h
def QV (c_0:GB) (o1:Int) (o18:Int):(Bool×Nat)→HT ((Bool×Nat)⊕Bool) True
 | (v7,k8)=>.run (cs 4 [oa]) (fun _=>He) <|
  .sp ((↑k8:Int)<(↑c_0.Holidays.length:Int))
  (.run [bt] (fun γ=>Gb (dT γ.2)) <|
  .sp (v7=true)
  (.run (cs 2 [tc,tc,tc,tc,tc,tc,tc,tc,tc,tc,tc,tc,.op none (.b true),oc]) (fun γ=>k2 γ.2 (k2 γ.2 (k2 γ.2 (k2 γ.2 (k2 γ.2 (k2 γ.2 (k2 γ.2 (k2 γ.2 (k2 γ.2 (k2 γ.2 (k2 γ.2 (k2 γ.2 (Gb γ.2))))))))))))) <|
  .gd (GP .i64 ((↑k8:Int)+1)) <| .run [oc,ow,oc] (fun γ=>Gb γ.2) <|
  .leaf (Sum.inl (true,(k8+1))) [0])
  (.bd (c_0.Holidays[k8]?) fun x49=>.gd (GP .i64 ((↑k8:Int) - 1)) <| .gd ((0:Int)≤((↑k8:Int) - 1)) <| .bd (c_0.Holidays[(Int.toNat ((↑k8:Int) - 1))]?) fun x53=>.run (cs 2 [oF,oF,oF,.op (some false) (.i k8),.op (some false) (.v [jI x49]),oF,oF,oF,.op (some false) .w,.op (some false) (.i (Int.toNat ((↑k8:Int) - 1))),.op (some false) (.v [jI x53]),oG,.op none (.b false),oc]) (fun γ=>k2 ((eq_false_of_ne_true γ.1.1.1.1.2):v7=false) (k2 ((eq_false_of_ne_true γ.1.1.1.1.2):v7=false) (k2 ((eq_false_of_ne_true γ.1.1.1.1.2):v7=false) (k2 ((eq_false_of_ne_true γ.1.1.1.1.2):v7=false) (k2 (ir γ.1.1.1.2) (k2 (GC (f:=Hc) (z:=0) (fun _=>rfl) γ.1.1.1.2) (k2 ((eq_false_of_ne_true γ.1.1.1.1.2):v7=false) (k2 (HK γ.1.1.1.2) (k2 ((eq_false_of_ne_true γ.1.1.1.1.2):v7=false) (k2 ((eq_false_of_ne_true γ.1.1.1.1.2):v7=false) (k2 ((eq_false_of_ne_true γ.1.1.1.1.2):v7=false) (k2 ((eq_false_of_ne_true γ.1.1.1.1.2):v7=false) (k2 γ.1.1.2 (k2 ((eq_false_of_ne_true γ.1.1.1.1.2):v7=false) (k2 (ix γ.1.2 γ.2) (k2 (GC (f:=Hc) (z:=0) (fun _=>rfl) γ.2) (k2 ((eq_false_of_ne_true γ.1.1.1.1.2):v7=false) (k2 (HK γ.2) (k2 ((eq_false_of_ne_true γ.1.1.1.1.2):v7=false) (Gb ((eq_false_of_ne_true γ.1.1.1.1.2):v7=false))))))))))))))))))))) <|
  .gd (GP .i64 ((↑k8:Int)+1)) <| .run [oc,ow,oc] (fun γ=>Gb γ.2) <|
  .leaf (Sum.inl ((decide (x49≤x53)),(k8+1))) [0]))
  (.run [bf] (fun γ=>Gb (dF γ.2)) <|
  .leaf (Sum.inr v7) [0])
def Je (c_0:GB) (o1:Int) (o18:Int):(Bool×Nat)→Option ((Bool×Nat)⊕Bool):=fun s=>(QV c_0 o1 o18 s).den
def Ggv (c_0:GB) (o1:Int) (o18:Int):(Bool×Nat)→PS:=fun s=>(155,[(1,.ptr 0 0),(3,jI o1),(5,jI o18),(7,.bool s.1),(8,jI (↑s.2:Int))],[(bT (GB.enc c_0) 59)])
def Ggb:Bool→Hm:=fun o=>(.exit 4)
def Z8 (c_0:GB) (o1:Int) (o18:Int):Bool→List (Nat×AV):=fun o=>[(1,.ptr 0 0),(3,jI o1),(5,jI o18),(7,.bool o)]
def Ge5 (c_0:GB) (o1:Int) (o18:Int):Bool→List G6:=fun o=>[(bT (GB.enc c_0) 59)]
theorem Gj6 (c_0:GB) (o1:Int) (o18:Int) {s:(Bool×Nat)} {r:Bool} (h:lp (Je c_0 o1 o18) s=some r):GI Tryz.prog GT 1 (.loop (GO Tryz.prog 11 [1,1,1,1,1,1,0,1,0,0])) (Ggv c_0 o1 o18 s).st (Ggb r) (PS.st (155,Z8 c_0 o1 o18 r,Ge5 c_0 o1 o18 r)):=
 GI.lp_ht 1 400 (Ggv c_0 o1 o18) Ggb (fun q=>(155,Z8 c_0 o1 o18 q,Ge5 c_0 o1 o18 q)) (QV c_0 o1 o18) (by rintro ⟨v7,k8⟩; kernel_rfl) h
def Gio (c_0:GB):HT Int True:=.run (cs 4 []) (fun _=>He) <|
  .bd (lp (Kk c_0) ((0:Int),(0:Nat))) fun o1=>.run ((.fcut 1 (.exit 0) (Gcy c_0 o1) [(bT (GB.enc c_0) 59)] [0] [(1,.any),(3,jI (0:Int)),(4,jI (↑(0:Nat):Int))] [bS])::(cs 2 [])) (fun γ=>k2 (rfl:(jI 0:AV)=jI (0:Int)) (k2 (rfl:(jI 0:AV)=jI (↑(0:Nat):Int)) (Gb (GkW c_0 (s:=((0:Int),(0:Nat))) (r:=o1) γ.2)))) <|
  .bd (lp (JW c_0 o1) ((0:Int),(0:Nat))) fun o18=>.run ((.fcut 1 (.exit 2) (GaB c_0 o1 o18) [(bT (GB.enc c_0) 59)] [0] [(1,.any),(3,.any),(5,jI (0:Int)),(6,jI (↑(0:Nat):Int))] [bS])::(cs 2 [])) (fun γ=>k2 (rfl:(jI 0:AV)=jI (0:Int)) (k2 (rfl:(jI 0:AV)=jI (↑(0:Nat):Int)) (Gb (Gkn c_0 o1 (s:=((0:Int),(0:Nat))) (r:=o18) γ.2)))) <|
  .bd (lp (Je c_0 o1 o18) (false,(1:Nat))) fun o35=>.run [.fcut 1 (.exit 4) (Z8 c_0 o1 o18 o35) [(bT (GB.enc c_0) 59)] [0] [(1,.any),(3,.any),(5,.any),(7,.any),(8,jI (↑(1:Nat):Int))] [bS]] (fun γ=>k2 (rfl:(jI 1:AV)=jI (↑(1:Nat):Int)) (Gb (Gj6 c_0 o1 o18 (s:=(false,(1:Nat))) (r:=o35) γ.2))) <|
  .bd (Ge2 c_0.Top) fun r56=>.bd (GeN c_0.Devices c_0.Top.Net) fun r58=>.bd (GfP c_0.Classes) fun r60=>.bd (Ga5 c_0.Tags) fun r62=>.sp (c_0.Gap<(0:Int))
  (.bd (Hs true 12) fun r65=>.sp (c_0.Weak<(0:Int))
  (.bd (Hs true 1) fun r68=>.bd (QQ c_0.Tariffs c_0.Top) fun r70=>.bd (Z5 c_0.Scale) fun r72=>.bd (Hs (decide ((↑c_0.Discounts.length:Int)>(12:Int))) 3) fun r74=>.bd (QS c_0.Discounts) fun r76=>.bd (Hs (decide ((↑c_0.Caps.length:Int)>(12:Int))) 3) fun r78=>.bd (QJ c_0.Zones) fun r80=>.bd (Hs (decide ((↑c_0.Permits.length:Int)>(1024:Int))) 3) fun r82=>.bd (MD c_0.Accounts) fun r84=>.bd (ZS c_0.Reliefs) fun r86=>.bd (Hs (decide ((↑c_0.Holidays.length:Int)>(1024:Int))) 3) fun r88=>.bd (Hs o35 15) fun r90=>.bd (Z9 c_0.Law) fun r92=>.bd (Z3 c_0.Keeping) fun r94=>.bd (MK c_0.Agency) fun r96=>.bd (Hs (!r96) 6) fun r98=>.bd (RD ([r56,r58,r60,r62,r65,r68,r70,r72,r74,r76,r78,o1,r80,r82,o18,r84,r86,r88,r90,r92,r94,r98]:List Int)) fun r100=>.run (cs 2 ((.ret none [.any] (jI r56) [])::(cs 5 ((.ret none [.any,.any] (jI r58) [])::(cs 2 ((.ret none [.any] (jI r60) [])::(cs 2 ((.ret none [.any] (jI r62) [])::(cs 2 (oa::oc::tc::tc::tc::(.op none (.b true))::(.ret none [.any,.any] (jI r65) [])::(cs 2 (oa::oc::tc::tc::tc::(.op none (.b true))::(.ret none [.any,.any] (jI r68) [])::(cs 4 ((.ret none [.any,.any] (jI r70) [])::(cs 2 ((.ret none [.any] (jI r72) [])::(cs 3 (oa::(.ret none [.any,.any] (jI r74) [])::(cs 2 ((.ret none [.any] (jI r76) [])::(cs 3 (oa::(.ret none [.any,.any] (jI r78) [])::(cs 3 ((.ret none [.any] (jI r80) [])::(cs 3 (oa::(.ret none [.any,.any] (jI r82) [])::(cs 3 ((.ret none [.any] (jI r84) [])::(cs 2 ((.ret none [.any] (jI r86) [])::(cs 3 (oa::(.ret none [.any,.any] (jI r88) [])::oc::(.ret none [.any,.any] (jI r90) [])::(cs 2 ((.ret none [.any] (jI r92) [])::(cs 2 ((.ret none [.any] (jI r94) [])::(cs 2 [.ret none [.any] (.bool r96) [],oc,.ret none [.any,.any] (jI r98) [],oc,.ret none [.lst [jI r56,jI r58,jI r60,jI r62,jI r65,jI r68,jI r70,jI r72,jI r74,jI r76,jI r78,jI o1,jI r80,jI r82,jI o18,jI r84,jI r86,jI r88,jI r90,jI r92,jI r94,jI r98] 22] (jI r100) [],oc]))))))))))))))))))))))))))))))))))))) (fun γ=>k2 (Vd c_0.Top r56 γ.1.1.1.1.1.1.1.1.1.1.1.1.1.1.1.1.1.1.1.1.1.1.1.2) (k2 (Zs c_0.Devices c_0.Top.Net r58 γ.1.1.1.1.1.1.1.1.1.1.1.1.1.1.1.1.1.1.1.1.1.1.2) (k2 (Zu c_0.Classes r60 γ.1.1.1.1.1.1.1.1.1.1.1.1.1.1.1.1.1.1.1.1.1.2) (k2 (RM c_0.Tags r62 γ.1.1.1.1.1.1.1.1.1.1.1.1.1.1.1.1.1.1.1.1.2) (k2 (dT γ.1.1.1.1.1.1.1.1.1.1.1.1.1.1.1.1.1.1.1.2) (k2 (dT γ.1.1.1.1.1.1.1.1.1.1.1.1.1.1.1.1.1.1.1.2) (k2 (dT γ.1.1.1.1.1.1.1.1.1.1.1.1.1.1.1.1.1.1.1.2) (k2 (dT γ.1.1.1.1.1.1.1.1.1.1.1.1.1.1.1.1.1.1.1.2) (k2 (GW true 12 r65 γ.1.1.1.1.1.1.1.1.1.1.1.1.1.1.1.1.1.1.2) (k2 (dT γ.1.1.1.1.1.1.1.1.1.1.1.1.1.1.1.1.1.2) (k2 (dT γ.1.1.1.1.1.1.1.1.1.1.1.1.1.1.1.1.1.2) (k2 (dT γ.1.1.1.1.1.1.1.1.1.1.1.1.1.1.1.1.1.2) (k2 (dT γ.1.1.1.1.1.1.1.1.1.1.1.1.1.1.1.1.1.2) (k2 (GW true 1 r68 γ.1.1.1.1.1.1.1.1.1.1.1.1.1.1.1.1.2) (k2 (RS c_0.Tariffs c_0.Top r70 γ.1.1.1.1.1.1.1.1.1.1.1.1.1.1.1.2) (k2 (Zf c_0.Scale r72 γ.1.1.1.1.1.1.1.1.1.1.1.1.1.1.2) (k2 (GW (decide ((↑c_0.Discounts.length:Int)>(12:Int))) 3 r74 γ.1.1.1.1.1.1.1.1.1.1.1.1.1.2) (k2 (RU c_0.Discounts r76 γ.1.1.1.1.1.1.1.1.1.1.1.1.2) (k2 (GW (decide ((↑c_0.Caps.length:Int)>(12:Int))) 3 r78 γ.1.1.1.1.1.1.1.1.1.1.1.2) (k2 (RZ c_0.Zones r80 γ.1.1.1.1.1.1.1.1.1.1.2) (k2 (GW (decide ((↑c_0.Permits.length:Int)>(1024:Int))) 3 r82 γ.1.1.1.1.1.1.1.1.1.2) (k2 (RL c_0.Accounts r84 γ.1.1.1.1.1.1.1.1.2) (k2 (Zv c_0.Reliefs r86 γ.1.1.1.1.1.1.1.2) (k2 (GW (decide ((↑c_0.Holidays.length:Int)>(1024:Int))) 3 r88 γ.1.1.1.1.1.1.2) (k2 (GW o35 15 r90 γ.1.1.1.1.1.2) (k2 (Zw c_0.Law r92 γ.1.1.1.1.2) (k2 (Zr c_0.Keeping r94 γ.1.1.1.2) (k2 (HW c_0.Agency r96 γ.1.1.2) (k2 (GW (!r96) 6 r98 γ.1.2) (k2 (⟨rfl,rfl,nB rfl,nB rfl⟩:sub [jI r56,jI r58,jI r60,jI r62,jI r65,jI r68,jI r70,jI r72,jI r74,jI r76,jI r78,jI o1,jI r80,jI r82,jI o18,jI r84,jI r86,jI r88,jI r90,jI r92,jI r94,jI r98] 0 22=[jI r56,jI r58,jI r60,jI r62,jI r65,jI r68,jI r70,jI r72,jI r74,jI r76,jI r78,jI o1,jI r80,jI r82,jI o18,jI r84,jI r86,jI r88,jI r90,jI r92,jI r94,jI r98]∧22=22∧0+22≤List.length ([jI r56,jI r58,jI r60,jI r62,jI r65,jI r68,jI r70,jI r72,jI r74,jI r76,jI r78,jI o1,jI r80,jI r82,jI o18,jI r84,jI r86,jI r88,jI r90,jI r92,jI r94,jI r98]:List AV)∧22≤22) (k2 (trivial:Xh []) (k2 (QW ([r56,r58,r60,r62,r65,r68,r70,r72,r74,r76,r78,o1,r80,r82,o18,r84,r86,r88,r90,r92,r94,r98]:List Int) r100 γ.2) (Gb (⟨rfl,trivial⟩:(some (Ob.blk (bT [jI r56,jI r58,jI r60,jI r62,jI r65,jI r68,jI r70,jI r72,jI r74,jI r76,jI r78,jI o1,jI r80,jI r82,jI o18,jI r84,jI r86,jI r88,jI r90,jI r92,jI r94,jI r98] 3))=some (Ob.blk (bT [jI r56,jI r58,jI r60,jI r62,jI r65,jI r68,jI r70,jI r72,jI r74,jI r76,jI r78,jI o1,jI r80,jI r82,jI o18,jI r84,jI r86,jI r88,jI r90,jI r92,jI r94,jI r98] 3)))∧True)))))))))))))))))))))))))))))))))) <|
  .leaf r100 [])
  (.bd (Hs (decide (c_0.Weak>(1000:Int))) 1) fun r102=>.bd (QQ c_0.Tariffs c_0.Top) fun r104=>.bd (Z5 c_0.Scale) fun r106=>.bd (Hs (decide ((↑c_0.Discounts.length:Int)>(12:Int))) 3) fun r108=>.bd (QS c_0.Discounts) fun r110=>.bd (Hs (decide ((↑c_0.Caps.length:Int)>(12:Int))) 3) fun r112=>.bd (QJ c_0.Zones) fun r114=>.bd (Hs (decide ((↑c_0.Permits.length:Int)>(1024:Int))) 3) fun r116=>.bd (MD c_0.Accounts) fun r118=>.bd (ZS c_0.Reliefs) fun r120=>.bd (Hs (decide ((↑c_0.Holidays.length:Int)>(1024:Int))) 3) fun r122=>.bd (Hs o35 15) fun r124=>.bd (Z9 c_0.Law) fun r126=>.bd (Z3 c_0.Keeping) fun r128=>.bd (MK c_0.Agency) fun r130=>.bd (Hs (!r130) 6) fun r132=>.bd (RD ([r56,r58,r60,r62,r65,r102,r104,r106,r108,r110,r112,o1,r114,r116,o18,r118,r120,r122,r124,r126,r128,r132]:List Int)) fun r134=>.run (cs 2 ((.ret none [.any] (jI r56) [])::(cs 5 ((.ret none [.any,.any] (jI r58) [])::(cs 2 ((.ret none [.any] (jI r60) [])::(cs 2 ((.ret none [.any] (jI r62) [])::(cs 2 (oa::oc::tc::tc::tc::(.op none (.b true))::(.ret none [.any,.any] (jI r65) [])::(cs 2 (oa::oc::oF::oF::oG::(.op none (.b false))::(.ret none [.any,.any] (jI r102) [])::(cs 4 ((.ret none [.any,.any] (jI r104) [])::(cs 2 ((.ret none [.any] (jI r106) [])::(cs 3 (oa::(.ret none [.any,.any] (jI r108) [])::(cs 2 ((.ret none [.any] (jI r110) [])::(cs 3 (oa::(.ret none [.any,.any] (jI r112) [])::(cs 3 ((.ret none [.any] (jI r114) [])::(cs 3 (oa::(.ret none [.any,.any] (jI r116) [])::(cs 3 ((.ret none [.any] (jI r118) [])::(cs 2 ((.ret none [.any] (jI r120) [])::(cs 3 (oa::(.ret none [.any,.any] (jI r122) [])::oc::(.ret none [.any,.any] (jI r124) [])::(cs 2 ((.ret none [.any] (jI r126) [])::(cs 2 ((.ret none [.any] (jI r128) [])::(cs 2 [.ret none [.any] (.bool r130) [],oc,.ret none [.any,.any] (jI r132) [],oc,.ret none [.lst [jI r56,jI r58,jI r60,jI r62,jI r65,jI r102,jI r104,jI r106,jI r108,jI r110,jI r112,jI o1,jI r114,jI r116,jI o18,jI r118,jI r120,jI r122,jI r124,jI r126,jI r128,jI r132] 22] (jI r134) [],oc]))))))))))))))))))))))))))))))))))))) (fun γ=>k2 (Vd c_0.Top r56 γ.1.1.1.1.1.1.1.1.1.1.1.1.1.1.1.1.1.1.1.1.1.1.1.2) (k2 (Zs c_0.Devices c_0.Top.Net r58 γ.1.1.1.1.1.1.1.1.1.1.1.1.1.1.1.1.1.1.1.1.1.1.2) (k2 (Zu c_0.Classes r60 γ.1.1.1.1.1.1.1.1.1.1.1.1.1.1.1.1.1.1.1.1.1.2) (k2 (RM c_0.Tags r62 γ.1.1.1.1.1.1.1.1.1.1.1.1.1.1.1.1.1.1.1.1.2) (k2 (dT γ.1.1.1.1.1.1.1.1.1.1.1.1.1.1.1.1.1.1.1.2) (k2 (dT γ.1.1.1.1.1.1.1.1.1.1.1.1.1.1.1.1.1.1.1.2) (k2 (dT γ.1.1.1.1.1.1.1.1.1.1.1.1.1.1.1.1.1.1.1.2) (k2 (dT γ.1.1.1.1.1.1.1.1.1.1.1.1.1.1.1.1.1.1.1.2) (k2 (GW true 12 r65 γ.1.1.1.1.1.1.1.1.1.1.1.1.1.1.1.1.1.1.2) (k2 (dF γ.1.1.1.1.1.1.1.1.1.1.1.1.1.1.1.1.1.2) (k2 (dF γ.1.1.1.1.1.1.1.1.1.1.1.1.1.1.1.1.1.2) (k2 (dF γ.1.1.1.1.1.1.1.1.1.1.1.1.1.1.1.1.1.2) (k2 (dF γ.1.1.1.1.1.1.1.1.1.1.1.1.1.1.1.1.1.2) (k2 (GW (decide (c_0.Weak>(1000:Int))) 1 r102 γ.1.1.1.1.1.1.1.1.1.1.1.1.1.1.1.1.2) (k2 (RS c_0.Tariffs c_0.Top r104 γ.1.1.1.1.1.1.1.1.1.1.1.1.1.1.1.2) (k2 (Zf c_0.Scale r106 γ.1.1.1.1.1.1.1.1.1.1.1.1.1.1.2) (k2 (GW (decide ((↑c_0.Discounts.length:Int)>(12:Int))) 3 r108 γ.1.1.1.1.1.1.1.1.1.1.1.1.1.2) (k2 (RU c_0.Discounts r110 γ.1.1.1.1.1.1.1.1.1.1.1.1.2) (k2 (GW (decide ((↑c_0.Caps.length:Int)>(12:Int))) 3 r112 γ.1.1.1.1.1.1.1.1.1.1.1.2) (k2 (RZ c_0.Zones r114 γ.1.1.1.1.1.1.1.1.1.1.2) (k2 (GW (decide ((↑c_0.Permits.length:Int)>(1024:Int))) 3 r116 γ.1.1.1.1.1.1.1.1.1.2) (k2 (RL c_0.Accounts r118 γ.1.1.1.1.1.1.1.1.2) (k2 (Zv c_0.Reliefs r120 γ.1.1.1.1.1.1.1.2) (k2 (GW (decide ((↑c_0.Holidays.length:Int)>(1024:Int))) 3 r122 γ.1.1.1.1.1.1.2) (k2 (GW o35 15 r124 γ.1.1.1.1.1.2) (k2 (Zw c_0.Law r126 γ.1.1.1.1.2) (k2 (Zr c_0.Keeping r128 γ.1.1.1.2) (k2 (HW c_0.Agency r130 γ.1.1.2) (k2 (GW (!r130) 6 r132 γ.1.2) (k2 (⟨rfl,rfl,nB rfl,nB rfl⟩:sub [jI r56,jI r58,jI r60,jI r62,jI r65,jI r102,jI r104,jI r106,jI r108,jI r110,jI r112,jI o1,jI r114,jI r116,jI o18,jI r118,jI r120,jI r122,jI r124,jI r126,jI r128,jI r132] 0 22=[jI r56,jI r58,jI r60,jI r62,jI r65,jI r102,jI r104,jI r106,jI r108,jI r110,jI r112,jI o1,jI r114,jI r116,jI o18,jI r118,jI r120,jI r122,jI r124,jI r126,jI r128,jI r132]∧22=22∧0+22≤List.length ([jI r56,jI r58,jI r60,jI r62,jI r65,jI r102,jI r104,jI r106,jI r108,jI r110,jI r112,jI o1,jI r114,jI r116,jI o18,jI r118,jI r120,jI r122,jI r124,jI r126,jI r128,jI r132]:List AV)∧22≤22) (k2 (trivial:Xh []) (k2 (QW ([r56,r58,r60,r62,r65,r102,r104,r106,r108,r110,r112,o1,r114,r116,o18,r118,r120,r122,r124,r126,r128,r132]:List Int) r134 γ.2) (Gb (⟨rfl,trivial⟩:(some (Ob.blk (bT [jI r56,jI r58,jI r60,jI r62,jI r65,jI r102,jI r104,jI r106,jI r108,jI r110,jI r112,jI o1,jI r114,jI r116,jI o18,jI r118,jI r120,jI r122,jI r124,jI r126,jI r128,jI r132] 3))=some (Ob.blk (bT [jI r56,jI r58,jI r60,jI r62,jI r65,jI r102,jI r104,jI r106,jI r108,jI r110,jI r112,jI o1,jI r114,jI r116,jI o18,jI r118,jI r120,jI r122,jI r124,jI r126,jI r128,jI r132] 3)))∧True)))))))))))))))))))))))))))))))))) <|
  .leaf r134 []))
  (.bd (Hs (decide (c_0.Gap>(3600:Int))) 12) fun r136=>.sp (c_0.Weak<(0:Int))
  (.bd (Hs true 1) fun r139=>.bd (QQ c_0.Tariffs c_0.Top) fun r141=>.bd (Z5 c_0.Scale) fun r143=>.bd (Hs (decide ((↑c_0.Discounts.length:Int)>(12:Int))) 3) fun r145=>.bd (QS c_0.Discounts) fun r147=>.bd (Hs (decide ((↑c_0.Caps.length:Int)>(12:Int))) 3) fun r149=>.bd (QJ c_0.Zones) fun r151=>.bd (Hs (decide ((↑c_0.Permits.length:Int)>(1024:Int))) 3) fun r153=>.bd (MD c_0.Accounts) fun r155=>.bd (ZS c_0.Reliefs) fun r157=>.bd (Hs (decide ((↑c_0.Holidays.length:Int)>(1024:Int))) 3) fun r159=>.bd (Hs o35 15) fun r161=>.bd (Z9 c_0.Law) fun r163=>.bd (Z3 c_0.Keeping) fun r165=>.bd (MK c_0.Agency) fun r167=>.bd (Hs (!r167) 6) fun r169=>.bd (RD ([r56,r58,r60,r62,r136,r139,r141,r143,r145,r147,r149,o1,r151,r153,o18,r155,r157,r159,r161,r163,r165,r169]:List Int)) fun r171=>.run (cs 2 ((.ret none [.any] (jI r56) [])::(cs 5 ((.ret none [.any,.any] (jI r58) [])::(cs 2 ((.ret none [.any] (jI r60) [])::(cs 2 ((.ret none [.any] (jI r62) [])::(cs 2 (oa::oc::oF::oF::oG::(.op none (.b false))::(.ret none [.any,.any] (jI r136) [])::(cs 2 (oa::oc::tc::tc::tc::(.op none (.b true))::(.ret none [.any,.any] (jI r139) [])::(cs 4 ((.ret none [.any,.any] (jI r141) [])::(cs 2 ((.ret none [.any] (jI r143) [])::(cs 3 (oa::(.ret none [.any,.any] (jI r145) [])::(cs 2 ((.ret none [.any] (jI r147) [])::(cs 3 (oa::(.ret none [.any,.any] (jI r149) [])::(cs 3 ((.ret none [.any] (jI r151) [])::(cs 3 (oa::(.ret none [.any,.any] (jI r153) [])::(cs 3 ((.ret none [.any] (jI r155) [])::(cs 2 ((.ret none [.any] (jI r157) [])::(cs 3 (oa::(.ret none [.any,.any] (jI r159) [])::oc::(.ret none [.any,.any] (jI r161) [])::(cs 2 ((.ret none [.any] (jI r163) [])::(cs 2 ((.ret none [.any] (jI r165) [])::(cs 2 [.ret none [.any] (.bool r167) [],oc,.ret none [.any,.any] (jI r169) [],oc,.ret none [.lst [jI r56,jI r58,jI r60,jI r62,jI r136,jI r139,jI r141,jI r143,jI r145,jI r147,jI r149,jI o1,jI r151,jI r153,jI o18,jI r155,jI r157,jI r159,jI r161,jI r163,jI r165,jI r169] 22] (jI r171) [],oc]))))))))))))))))))))))))))))))))))))) (fun γ=>k2 (Vd c_0.Top r56 γ.1.1.1.1.1.1.1.1.1.1.1.1.1.1.1.1.1.1.1.1.1.1.1.2) (k2 (Zs c_0.Devices c_0.Top.Net r58 γ.1.1.1.1.1.1.1.1.1.1.1.1.1.1.1.1.1.1.1.1.1.1.2) (k2 (Zu c_0.Classes r60 γ.1.1.1.1.1.1.1.1.1.1.1.1.1.1.1.1.1.1.1.1.1.2) (k2 (RM c_0.Tags r62 γ.1.1.1.1.1.1.1.1.1.1.1.1.1.1.1.1.1.1.1.1.2) (k2 (dF γ.1.1.1.1.1.1.1.1.1.1.1.1.1.1.1.1.1.1.1.2) (k2 (dF γ.1.1.1.1.1.1.1.1.1.1.1.1.1.1.1.1.1.1.1.2) (k2 (dF γ.1.1.1.1.1.1.1.1.1.1.1.1.1.1.1.1.1.1.1.2) (k2 (dF γ.1.1.1.1.1.1.1.1.1.1.1.1.1.1.1.1.1.1.1.2) (k2 (GW (decide (c_0.Gap>(3600:Int))) 12 r136 γ.1.1.1.1.1.1.1.1.1.1.1.1.1.1.1.1.1.1.2) (k2 (dT γ.1.1.1.1.1.1.1.1.1.1.1.1.1.1.1.1.1.2) (k2 (dT γ.1.1.1.1.1.1.1.1.1.1.1.1.1.1.1.1.1.2) (k2 (dT γ.1.1.1.1.1.1.1.1.1.1.1.1.1.1.1.1.1.2) (k2 (dT γ.1.1.1.1.1.1.1.1.1.1.1.1.1.1.1.1.1.2) (k2 (GW true 1 r139 γ.1.1.1.1.1.1.1.1.1.1.1.1.1.1.1.1.2) (k2 (RS c_0.Tariffs c_0.Top r141 γ.1.1.1.1.1.1.1.1.1.1.1.1.1.1.1.2) (k2 (Zf c_0.Scale r143 γ.1.1.1.1.1.1.1.1.1.1.1.1.1.1.2) (k2 (GW (decide ((↑c_0.Discounts.length:Int)>(12:Int))) 3 r145 γ.1.1.1.1.1.1.1.1.1.1.1.1.1.2) (k2 (RU c_0.Discounts r147 γ.1.1.1.1.1.1.1.1.1.1.1.1.2) (k2 (GW (decide ((↑c_0.Caps.length:Int)>(12:Int))) 3 r149 γ.1.1.1.1.1.1.1.1.1.1.1.2) (k2 (RZ c_0.Zones r151 γ.1.1.1.1.1.1.1.1.1.1.2) (k2 (GW (decide ((↑c_0.Permits.length:Int)>(1024:Int))) 3 r153 γ.1.1.1.1.1.1.1.1.1.2) (k2 (RL c_0.Accounts r155 γ.1.1.1.1.1.1.1.1.2) (k2 (Zv c_0.Reliefs r157 γ.1.1.1.1.1.1.1.2) (k2 (GW (decide ((↑c_0.Holidays.length:Int)>(1024:Int))) 3 r159 γ.1.1.1.1.1.1.2) (k2 (GW o35 15 r161 γ.1.1.1.1.1.2) (k2 (Zw c_0.Law r163 γ.1.1.1.1.2) (k2 (Zr c_0.Keeping r165 γ.1.1.1.2) (k2 (HW c_0.Agency r167 γ.1.1.2) (k2 (GW (!r167) 6 r169 γ.1.2) (k2 (⟨rfl,rfl,nB rfl,nB rfl⟩:sub [jI r56,jI r58,jI r60,jI r62,jI r136,jI r139,jI r141,jI r143,jI r145,jI r147,jI r149,jI o1,jI r151,jI r153,jI o18,jI r155,jI r157,jI r159,jI r161,jI r163,jI r165,jI r169] 0 22=[jI r56,jI r58,jI r60,jI r62,jI r136,jI r139,jI r141,jI r143,jI r145,jI r147,jI r149,jI o1,jI r151,jI r153,jI o18,jI r155,jI r157,jI r159,jI r161,jI r163,jI r165,jI r169]∧22=22∧0+22≤List.length ([jI r56,jI r58,jI r60,jI r62,jI r136,jI r139,jI r141,jI r143,jI r145,jI r147,jI r149,jI o1,jI r151,jI r153,jI o18,jI r155,jI r157,jI r159,jI r161,jI r163,jI r165,jI r169]:List AV)∧22≤22) (k2 (trivial:Xh []) (k2 (QW ([r56,r58,r60,r62,r136,r139,r141,r143,r145,r147,r149,o1,r151,r153,o18,r155,r157,r159,r161,r163,r165,r169]:List Int) r171 γ.2) (Gb (⟨rfl,trivial⟩:(some (Ob.blk (bT [jI r56,jI r58,jI r60,jI r62,jI r136,jI r139,jI r141,jI r143,jI r145,jI r147,jI r149,jI o1,jI r151,jI r153,jI o18,jI r155,jI r157,jI r159,jI r161,jI r163,jI r165,jI r169] 3))=some (Ob.blk (bT [jI r56,jI r58,jI r60,jI r62,jI r136,jI r139,jI r141,jI r143,jI r145,jI r147,jI r149,jI o1,jI r151,jI r153,jI o18,jI r155,jI r157,jI r159,jI r161,jI r163,jI r165,jI r169] 3)))∧True)))))))))))))))))))))))))))))))))) <|
  .leaf r171 [])
  (.bd (Hs (decide (c_0.Weak>(1000:Int))) 1) fun r173=>.bd (QQ c_0.Tariffs c_0.Top) fun r175=>.bd (Z5 c_0.Scale) fun r177=>.bd (Hs (decide ((↑c_0.Discounts.length:Int)>(12:Int))) 3) fun r179=>.bd (QS c_0.Discounts) fun r181=>.bd (Hs (decide ((↑c_0.Caps.length:Int)>(12:Int))) 3) fun r183=>.bd (QJ c_0.Zones) fun r185=>.bd (Hs (decide ((↑c_0.Permits.length:Int)>(1024:Int))) 3) fun r187=>.bd (MD c_0.Accounts) fun r189=>.bd (ZS c_0.Reliefs) fun r191=>.bd (Hs (decide ((↑c_0.Holidays.length:Int)>(1024:Int))) 3) fun r193=>.bd (Hs o35 15) fun r195=>.bd (Z9 c_0.Law) fun r197=>.bd (Z3 c_0.Keeping) fun r199=>.bd (MK c_0.Agency) fun r201=>.bd (Hs (!r201) 6) fun r203=>.bd (RD ([r56,r58,r60,r62,r136,r173,r175,r177,r179,r181,r183,o1,r185,r187,o18,r189,r191,r193,r195,r197,r199,r203]:List Int)) fun r205=>.run (cs 2 ((.ret none [.any] (jI r56) [])::(cs 5 ((.ret none [.any,.any] (jI r58) [])::(cs 2 ((.ret none [.any] (jI r60) [])::(cs 2 ((.ret none [.any] (jI r62) [])::(cs 2 (oa::oc::oF::oF::oG::(.op none (.b false))::(.ret none [.any,.any] (jI r136) [])::(cs 2 (oa::oc::oF::oF::oG::(.op none (.b false))::(.ret none [.any,.any] (jI r173) [])::(cs 4 ((.ret none [.any,.any] (jI r175) [])::(cs 2 ((.ret none [.any] (jI r177) [])::(cs 3 (oa::(.ret none [.any,.any] (jI r179) [])::(cs 2 ((.ret none [.any] (jI r181) [])::(cs 3 (oa::(.ret none [.any,.any] (jI r183) [])::(cs 3 ((.ret none [.any] (jI r185) [])::(cs 3 (oa::(.ret none [.any,.any] (jI r187) [])::(cs 3 ((.ret none [.any] (jI r189) [])::(cs 2 ((.ret none [.any] (jI r191) [])::(cs 3 (oa::(.ret none [.any,.any] (jI r193) [])::oc::(.ret none [.any,.any] (jI r195) [])::(cs 2 ((.ret none [.any] (jI r197) [])::(cs 2 ((.ret none [.any] (jI r199) [])::(cs 2 [.ret none [.any] (.bool r201) [],oc,.ret none [.any,.any] (jI r203) [],oc,.ret none [.lst [jI r56,jI r58,jI r60,jI r62,jI r136,jI r173,jI r175,jI r177,jI r179,jI r181,jI r183,jI o1,jI r185,jI r187,jI o18,jI r189,jI r191,jI r193,jI r195,jI r197,jI r199,jI r203] 22] (jI r205) [],oc]))))))))))))))))))))))))))))))))))))) (fun γ=>k2 (Vd c_0.Top r56 γ.1.1.1.1.1.1.1.1.1.1.1.1.1.1.1.1.1.1.1.1.1.1.1.2) (k2 (Zs c_0.Devices c_0.Top.Net r58 γ.1.1.1.1.1.1.1.1.1.1.1.1.1.1.1.1.1.1.1.1.1.1.2) (k2 (Zu c_0.Classes r60 γ.1.1.1.1.1.1.1.1.1.1.1.1.1.1.1.1.1.1.1.1.1.2) (k2 (RM c_0.Tags r62 γ.1.1.1.1.1.1.1.1.1.1.1.1.1.1.1.1.1.1.1.1.2) (k2 (dF γ.1.1.1.1.1.1.1.1.1.1.1.1.1.1.1.1.1.1.1.2) (k2 (dF γ.1.1.1.1.1.1.1.1.1.1.1.1.1.1.1.1.1.1.1.2) (k2 (dF γ.1.1.1.1.1.1.1.1.1.1.1.1.1.1.1.1.1.1.1.2) (k2 (dF γ.1.1.1.1.1.1.1.1.1.1.1.1.1.1.1.1.1.1.1.2) (k2 (GW (decide (c_0.Gap>(3600:Int))) 12 r136 γ.1.1.1.1.1.1.1.1.1.1.1.1.1.1.1.1.1.1.2) (k2 (dF γ.1.1.1.1.1.1.1.1.1.1.1.1.1.1.1.1.1.2) (k2 (dF γ.1.1.1.1.1.1.1.1.1.1.1.1.1.1.1.1.1.2) (k2 (dF γ.1.1.1.1.1.1.1.1.1.1.1.1.1.1.1.1.1.2) (k2 (dF γ.1.1.1.1.1.1.1.1.1.1.1.1.1.1.1.1.1.2) (k2 (GW (decide (c_0.Weak>(1000:Int))) 1 r173 γ.1.1.1.1.1.1.1.1.1.1.1.1.1.1.1.1.2) (k2 (RS c_0.Tariffs c_0.Top r175 γ.1.1.1.1.1.1.1.1.1.1.1.1.1.1.1.2) (k2 (Zf c_0.Scale r177 γ.1.1.1.1.1.1.1.1.1.1.1.1.1.1.2) (k2 (GW (decide ((↑c_0.Discounts.length:Int)>(12:Int))) 3 r179 γ.1.1.1.1.1.1.1.1.1.1.1.1.1.2) (k2 (RU c_0.Discounts r181 γ.1.1.1.1.1.1.1.1.1.1.1.1.2) (k2 (GW (decide ((↑c_0.Caps.length:Int)>(12:Int))) 3 r183 γ.1.1.1.1.1.1.1.1.1.1.1.2) (k2 (RZ c_0.Zones r185 γ.1.1.1.1.1.1.1.1.1.1.2) (k2 (GW (decide ((↑c_0.Permits.length:Int)>(1024:Int))) 3 r187 γ.1.1.1.1.1.1.1.1.1.2) (k2 (RL c_0.Accounts r189 γ.1.1.1.1.1.1.1.1.2) (k2 (Zv c_0.Reliefs r191 γ.1.1.1.1.1.1.1.2) (k2 (GW (decide ((↑c_0.Holidays.length:Int)>(1024:Int))) 3 r193 γ.1.1.1.1.1.1.2) (k2 (GW o35 15 r195 γ.1.1.1.1.1.2) (k2 (Zw c_0.Law r197 γ.1.1.1.1.2) (k2 (Zr c_0.Keeping r199 γ.1.1.1.2) (k2 (HW c_0.Agency r201 γ.1.1.2) (k2 (GW (!r201) 6 r203 γ.1.2) (k2 (⟨rfl,rfl,nB rfl,nB rfl⟩:sub [jI r56,jI r58,jI r60,jI r62,jI r136,jI r173,jI r175,jI r177,jI r179,jI r181,jI r183,jI o1,jI r185,jI r187,jI o18,jI r189,jI r191,jI r193,jI r195,jI r197,jI r199,jI r203] 0 22=[jI r56,jI r58,jI r60,jI r62,jI r136,jI r173,jI r175,jI r177,jI r179,jI r181,jI r183,jI o1,jI r185,jI r187,jI o18,jI r189,jI r191,jI r193,jI r195,jI r197,jI r199,jI r203]∧22=22∧0+22≤List.length ([jI r56,jI r58,jI r60,jI r62,jI r136,jI r173,jI r175,jI r177,jI r179,jI r181,jI r183,jI o1,jI r185,jI r187,jI o18,jI r189,jI r191,jI r193,jI r195,jI r197,jI r199,jI r203]:List AV)∧22≤22) (k2 (trivial:Xh []) (k2 (QW ([r56,r58,r60,r62,r136,r173,r175,r177,r179,r181,r183,o1,r185,r187,o18,r189,r191,r193,r195,r197,r199,r203]:List Int) r205 γ.2) (Gb (⟨rfl,trivial⟩:(some (Ob.blk (bT [jI r56,jI r58,jI r60,jI r62,jI r136,jI r173,jI r175,jI r177,jI r179,jI r181,jI r183,jI o1,jI r185,jI r187,jI o18,jI r189,jI r191,jI r193,jI r195,jI r197,jI r199,jI r203] 3))=some (Ob.blk (bT [jI r56,jI r58,jI r60,jI r62,jI r136,jI r173,jI r175,jI r177,jI r179,jI r181,jI r183,jI o1,jI r185,jI r187,jI o18,jI r189,jI r191,jI r193,jI r195,jI r197,jI r199,jI r203] 3)))∧True)))))))))))))))))))))))))))))))))) <|
  .leaf r205 []))
def GjZ (c_0:GB):Option Int:=(Gio c_0).den
theorem GjJ (c_0:GB) (r:Int) (h:GjZ c_0=some r):G5 Tryz.prog GT 11 [.agg (GB.enc c_0)] (jI r) []:=
 G5.of_ht 400 (Gio c_0) (fun (r:Int)=>jI r) (fun (r:Int)=>[]) (by kernel_rfl) h
end
set_option maxHeartbeats 4000000
noncomputable section
def MT:List Int→Int
 | []=>0
 | x::l=>if x=0 then MT l else x
theorem GeT:MT []=0:=rfl
theorem Mw (x:Int) (l:List Int):MT (x::l)=if x=0 then MT l else x:=rfl
theorem GaQ (l:List Int) (hl:Sm l):RD l=some (MT l):=by
 have key:lp (Mn l) 0=some (HL (GK (fun _ x=>if x=0 then none else some x) 0 l)):=by
  refine GQ (fun k x hx=>?_) ?_
  ·obtain ⟨hk,i1,i2,hkl,h1,h2⟩:=rd hl hx
   simp only [Mn,Xi,d1,d2,d3,d4,d5,d6,d7,hx,Option.bind_some,i1,if_true,hkl]
   by_cases e:x=0 <;> simp only [e,if_true,if_false,KC]
  ·simp only [Mn,Xi,d3,d6,d1]
   rw [if_neg (by omega)]
 have gen:∀ (l:List Int) (k:Nat),(GK (fun _ x=>if x=0 then none else some x) k l).getD 0=MT l:=by
  intro l
  induction l with
  | nil=>intro k; rfl
  | cons x l ih=>
   intro k
   unfold GK MT
   by_cases e:x=0
   ·simp only [e,if_true,ih]
   ·simp only [e,if_false,Option.getD_some]
 simp only [RD,GiK,d1,d2,d3,d4,d5,d6,d7,key,Option.bind_some,← gen l 0]
 cases GK (fun _ x=>if x=0 then none else some x) 0 l <;> rfl
theorem GkN {α:Type} (g:α→Int):∀ (l:List α) (k:Nat),(GK (fun _ x=>if g x=0 then none else some (g x)) k l).getD 0=MT (l.map g)
 | [],k=>rfl
 | x::l,k=>by
  rw [List.map_cons,Mw,← GkN g l (k+1)]
  rw [GK]
  by_cases e:g x=0
  ·simp only [e,if_true]
  ·simp only [e,if_false,Option.getD_some]
theorem Gp6 {α:Type} {l:List α} {step:Int×Nat→Option ((Int×Nat)⊕Int)} {g:α→Int} (hs:∀ v k x,l[k]?=some x→step (v,k)=some (.inl (MT [v,g x],k+1))) (he:∀ v,step (v,l.length)=some (.inr v)):
  ∀ (m k:Nat) (v:Int),k+m=l.length→lp step (v,k)=some (MT (v::(l.drop k).map g))
 | 0,k,v,h=>by
  obtain rfl:k=l.length:=by omega
  rw [Gcw (he v),List.drop_length,Mw]
  by_cases e:v=0
  ·simp only [e,if_true]; rfl
  ·simp only [e,if_false]
 | m+1,k,v,h=>by
  have hlt:k<l.length:=by omega
  rw [Goz (hs v k l[k] (List.getElem?_eq_getElem hlt)),Gp6 hs he m (k+1) _ (by omega),List.drop_eq_getElem_cons hlt,List.map_cons]
  simp only [Mw,GeT]
  by_cases e:v=0 <;> by_cases f:g l[k]=0 <;> simp only [e,f,if_true,if_false]
def Gn5 (l:List Int) (k:Nat) (x:Int):Option Unit:=if 0<k∧x≤((l[k - 1]?)).getD 0 then some () else none
def GrX (l:List Int):Bool:=(GK (Gn5 l) 0 l).isSome
theorem Gls {α ρ:Type} {g:Nat→α→Option ρ}:∀ {l:List α} {j k:Nat} {x:α},l[k]?=some x→GK g j (l.take (k+1))=(GK g j (l.take k)).or (g (j+k) x)
 | [],j,k,x,h=>by simp at h
 | y::l,j,0,x,h=>by
  simp only [List.getElem?_cons_zero,sJ] at h
  subst h
  simp only [List.take_succ_cons,List.take_zero,GK,Option.none_or,Nat.add_zero]
  cases g j y <;> rfl
 | y::l,j,k+1,x,h=>by
  simp only [List.take_succ_cons,GK]
  cases g j y with
  | some r=>rfl
  | none=>
   simp only
   rw [Gls (by simpa using h),show j+1+k=j+(k+1) by omega]
theorem GqC (c:GB) (hl:Sm c.Holidays):lp (H0 ⟨c⟩) 0=some (HL (GK (Gn5 c.Holidays) 0 c.Holidays)):=by
 refine GQ (fun k x hx=>?_) ?_
 ·obtain ⟨hk,i1,i2,hkl,h1,h2⟩:=rd hl hx
  simp only [H0,Kt,d1,d2,d3,d4,d5,d6,d7,eN,eM,hx,Option.bind_some,h2,h1,i1,i2,if_true,hkl,Gn5]
  clear i1 i2 hl
  grind [KC]
 ·simp only [H0,Kt,d3,d6,d1]
  rw [if_neg (by omega)]
theorem GoV (c:GB) (o1 o18:Int) (hl:Sm c.Holidays):lp (Je c o1 o18) (false,1)=some (GrX c.Holidays):=by
 have gen:∀ (m k:Nat),k+m=c.Holidays.length→1≤k→lp (Je c o1 o18) ((GK (Gn5 c.Holidays) 0 (c.Holidays.take k)).isSome,k)=some (GrX c.Holidays):=by
  intro m
  induction m with
  | zero=>
   intro k hk h1
   obtain rfl:k=c.Holidays.length:=by omega
   rw [List.take_length]
   refine Gcw ?_
   simp only [Je,QV,d3,d6,d1]
   rw [if_neg (by omega)]; rfl
  | succ m ih=>
   intro k hk h1
   have hlt:k<c.Holidays.length:=by omega
   have hx:c.Holidays[k]?=some c.Holidays[k]:=List.getElem?_eq_getElem hlt
   obtain ⟨_,i1,i2,hkl,g1,g2⟩:=rd hl hx
   rw [← ih (k+1) (by omega) (by omega),Gls hx]
   refine Goz ?_
   have h0:(0:Int)≤(k:Int) - 1:=by omega
   have hg:Gn5 c.Holidays (0+k) c.Holidays[k]=if c.Holidays[k]≤c.Holidays[k - 1]'(by omega) then some () else none:=by
    unfold Gn5
    rw [Nat.zero_add,g1]
    by_cases e:c.Holidays[k]≤c.Holidays[k - 1]'(by omega)
    ·rw [if_pos e,if_pos ⟨by omega,e⟩]
    ·rw [if_neg e,if_neg (fun q=>e q.2)]
   simp only [Je,QV,d1,d2,d3,d4,d5,d6,d7,eN,eM,hx,Option.bind_some,g1,g2,i1,i2,if_true,hkl,h0,hg]
   clear i1 i2 ih hg
   cases GK (Gn5 c.Holidays) 0 (c.Holidays.take k) with
   | some r=>rfl
   | none=>
    simp only [Option.isSome_none,Bool.false_eq_true,if_false,Option.none_or]
    by_cases e:c.Holidays[k]≤c.Holidays[k - 1]'(by omega)
    ·rw [if_pos e,dT e]; rfl
    ·rw [if_neg e,dF e]; rfl
 by_cases h:c.Holidays.length=0
 ·have:c.Holidays=[]:=List.length_eq_zero_iff.1 h
  rw [this]
  refine Gcw ?_
  simp only [Je,QV,d3,d6,d1,this]
  rw [if_neg (by simp)]; rfl
 ·have h0:(GK (Gn5 c.Holidays) 0 (c.Holidays.take 1)).isSome=false:=by
   rw [Gls (k:=0) (List.getElem?_eq_getElem (by omega))]
   simp [GK,Gn5]
  have:=gen (c.Holidays.length - 1) 1 (by omega) (by omega)
  rw [h0] at this
  exact this
def GrZ (l:List Gl) (n:Gc):Int:=if l.length>1024 then 3 else (GK (GnW l n) 0 l).getD 0
def Gse (l:List Gj):Int:=if l.length>9 then 3 else (GK (GoY l) 0 l).getD 0
def whE (b:Bool) (e:Int):Int:=if b then e else 0
def GvY (c:GB):List Int:=
 [GiL c.Top,GrZ c.Devices c.Top.Net,Gse c.Classes,Go5 c.Tags,whE (decide (c.Gap<0∨c.Gap>3600)) 12,whE (decide (c.Weak<0∨c.Weak>1000)) 1,Gp3 c.Top c.Tariffs,Gq1 c.Scale,whE (decide (c.Discounts.length>12)) 3,GpO c.Discounts,
  whE (decide (c.Caps.length>12)) 3,MT (c.Caps.map Gdo),GnJ c.Zones,whE (decide (c.Permits.length>1024)) 3,MT (c.Permits.map fun p=>GeE p c.Zones),GmZ c.Accounts,GpJ c.Reliefs,whE (decide (c.Holidays.length>1024)) 3,whE (GrX c.Holidays) 15,
  Go3 c.Law,GpN c.Keeping,whE (!HE c.Agency) 6]
structure Gsh (c:GB):Prop where
 pts:Sm c.Top.Net.Points
 devs:∀ x ∈ c.Devices,Gua x
 classes:Sm c.Classes
 caps:Sm c.Caps
 zones:Sm c.Zones
 permits:Sm c.Permits
 plates:∀ p ∈ c.Permits,∀ x ∈ p.Plates,Ls x
 accs:∀ a ∈ c.Accounts,GpR a
 hols:Sm c.Holidays
theorem GnS (b:Bool) (e:Int):Hs b e=some (whE b e):=by
 simp only [Hs,Gll,d1,d2,d3,d4,d5,d6,d7,whE]
 cases b <;> rfl
theorem Gnl (c:GB) (h:Gsh c):GjZ c=some (MT (GvY c)):=by
 have k1:lp (Kk c) (0,0)=some (MT (c.Caps.map Gdo)):=by
  have:=Gp6 (l:=c.Caps) (step:=Kk c) (g:=Gdo) (fun v k x hx=>?_) (fun v=>?_) c.Caps.length 0 0 (by omega)
  ·rw [List.drop_zero,Mw,if_pos rfl] at this; exact this
  ·obtain ⟨hk,i1,i2,hkl,h1,h2⟩:=rd h.caps hx
   simp only [Kk,Xn,d1,d2,d3,d4,d5,d6,d7,eN,eM,hx,Option.bind_some,GmC,GaQ [v,Gdo x] (by show _≤_; simp),i1,if_true,hkl]
  ·simp only [Kk,Xn,d3,d6,d1]
   rw [if_neg (by omega)]
 have k2:lp (JW c (MT (c.Caps.map Gdo))) (0,0)=some (MT (c.Permits.map fun p=>GeE p c.Zones)):=by
  have:=Gp6 (l:=c.Permits) (step:=JW c (MT (c.Caps.map Gdo))) (g:=fun p=>GeE p c.Zones) (fun v k x hx=>?_) (fun v=>?_) c.Permits.length 0 0 (by omega)
  ·rw [List.drop_zero,Mw,if_pos rfl] at this; exact this
  ·obtain ⟨hk,i1,i2,hkl,h1,h2⟩:=rd h.permits hx
   simp only [JW,UD,d1,d2,d3,d4,d5,d6,d7,eN,eM,hx,Option.bind_some,GmI x c.Zones h.zones (h.plates x (List.mem_of_getElem? hx)),GaQ [v,GeE x c.Zones] (by show _≤_; simp),i1,if_true,hkl]
  ·simp only [JW,UD,d3,d6,d1]
   rw [if_neg (by omega)]
 have k3:=GoV c (MT (c.Caps.map Gdo)) (MT (c.Permits.map fun p=>GeE p c.Zones)) h.hols
 have e1:∀ l:List Int,l.length=22→RD l=some (MT l):=fun l hl=>GaQ l (by show _≤_; omega)
 have n1:decide (((c.Discounts.length:Nat):Int)>12)=decide (c.Discounts.length>12):=decide_eq_decide.2 (by omega)
 have n2:decide (((c.Caps.length:Nat):Int)>12)=decide (c.Caps.length>12):=decide_eq_decide.2 (by omega)
 have n3:decide (((c.Permits.length:Nat):Int)>1024)=decide (c.Permits.length>1024):=decide_eq_decide.2 (by omega)
 have n4:decide (((c.Holidays.length:Nat):Int)>1024)=decide (c.Holidays.length>1024):=decide_eq_decide.2 (by omega)
 have hdv:GeN c.Devices c.Top.Net=some (GrZ c.Devices c.Top.Net):=GmJ _ _ h.pts h.devs
 have hcl:GfP c.Classes=some (Gse c.Classes):=GmU _ h.classes
 have hac:MD c.Accounts=some (GmZ c.Accounts):=GjS _ h.accs
 simp only [GjZ,Gio,d1,d2,d3,d4,d5,d6,d7,k1,k2,k3,GeZ,hdv,hcl,hac,Gkc,Gja,GnP,Gkx,GjT,Gm8,Gnx,GnN,K3,GnS,n1,n2,n3,n4,Option.bind_some]
 unfold GvY
 by_cases g1:c.Gap<0 <;> by_cases g2:c.Weak<0
 all_goals
  simp only [g1,g2,if_true,if_false,true_or,false_or,decide_true]
  rw [e1 _ rfl]
  rfl
theorem GuV (c:GB) (h:Gsh c):Qt ⟨c⟩=some (MT [GiL c.Top,GrZ c.Devices c.Top.Net,Gse c.Classes,Go5 c.Tags,whE (decide (c.Gap<0∨c.Gap>3600)) 12,whE (decide (c.Weak<0∨c.Weak>1000)) 1]):=by
 have hdv:UP c.Devices c.Top.Net=some (GrZ c.Devices c.Top.Net):=Gl8 _ _ h.pts h.devs
 have hcl:XT c.Classes=some (Gse c.Classes):=Gni _ h.classes
 simp only [Qt,Rq,d1,d2,d3,d4,d5,d6,d7,GbY,hdv,hcl,Gmb,Option.bind_some,Mw,GeT,whE,decide_eq_true_eq]
 generalize GiL c.Top=e1
 generalize GrZ c.Devices c.Top.Net=e2
 generalize Gse c.Classes=e3
 generalize Go5 c.Tags=e4
 clear hdv hcl h
 by_cases h1:e1=0 <;> simp only [h1,if_true,if_false]
 by_cases h2:e2=0 <;> simp only [h2,if_true,if_false]
 by_cases h3:e3=0 <;> simp only [h3,if_true,if_false]
 by_cases h4:e4=0 <;> simp only [h4,if_true,if_false]
 grind
theorem Gtr (c:GB) (h:Gsh c):MQ ⟨c⟩=some (MT [Gp3 c.Top c.Tariffs,Gq1 c.Scale,whE (decide (c.Discounts.length>12)) 3,GpO c.Discounts,whE (decide (c.Caps.length>12)) 3,MT (c.Caps.map Gdo)]):=by
 have key:lp (HB ⟨c⟩) 0=some (HL (GK (fun _ x=>if Gdo x=0 then none else some (Gdo x)) 0 c.Caps)):=by
  refine GQ (fun k x hx=>?_) ?_
  ·obtain ⟨hk,i1,i2,hkl,h1,h2⟩:=rd h.caps hx
   simp only [HB,JD,d1,d2,d3,d4,d5,d6,d7,eN,eM,hx,Option.bind_some,Gp1,i1,if_true,hkl]
   by_cases e:Gdo x=0 <;> simp only [e,if_true,if_false,KC]
  ·simp only [HB,JD,d3,d6,d1]
   rw [if_neg (by omega)]
 simp only [MQ,QT,d1,d2,d3,d4,d5,d6,d7,Giq,GaH,GfT,key,Option.bind_some,Mw,GeT,whE,decide_eq_true_eq,← GkN Gdo c.Caps 0]
 generalize Gp3 c.Top c.Tariffs=e1
 generalize Gq1 c.Scale=e2
 generalize GpO c.Discounts=e3
 clear h key
 have n1:(((c.Discounts.length:Nat):Int)>12)=(c.Discounts.length>12):=propext (by omega)
 have n2:(((c.Caps.length:Nat):Int)>12)=(c.Caps.length>12):=propext (by omega)
 simp only [n1,n2]
 by_cases h1:e1=0 <;> simp only [h1,if_true,if_false]
 by_cases h2:e2=0 <;> simp only [h2,if_true,if_false]
 by_cases h3:c.Discounts.length>12
 ·simp only [h3,if_true]; rfl
 by_cases h4:e3=0 <;> simp only [h3,h4,if_true,if_false]
 by_cases h5:c.Caps.length>12
 ·simp only [h5,if_true]; rfl
 simp only [h5,if_false,if_true]
 cases GK (fun _ x=>if Gdo x=0 then none else some (Gdo x)) 0 c.Caps with
 | none=>rfl
 | some r=>simp only [HL,eN,Option.getD_some]; grind
theorem Gr1 (c:GB) (h:Gsh c):Md ⟨c⟩=some (MT [GnJ c.Zones,whE (decide (c.Permits.length>1024)) 3,MT (c.Permits.map fun p=>GeE p c.Zones)]):=by
 simp only [Md,Qd,d1,d2,d3,d4,d5,d6,d7,Glr,Option.bind_some,Mw,GeT,whE,decide_eq_true_eq,← GkN (fun p=>GeE p c.Zones) c.Permits 0]
 by_cases h1:GnJ c.Zones=0
 rotate_left
 ·simp only [h1,if_false]
 obtain ⟨_,hz⟩:=GrN h1
 have key:lp (HA ⟨c⟩) 0=some (HL (GK (fun _ x=>if GeE x c.Zones=0 then none else some (GeE x c.Zones)) 0 c.Permits)):=by
  refine GQ (fun k x hx=>?_) ?_
  ·obtain ⟨hk,i1,i2,hkl,h1,h2⟩:=rd h.permits hx
   simp only [HA,JG,d1,d2,d3,d4,d5,d6,d7,eN,eM,hx,Option.bind_some,Gl5 x c.Zones h.zones hz (h.plates x (List.mem_of_getElem? hx)),i1,if_true,hkl]
   by_cases e:GeE x c.Zones=0 <;> simp only [e,if_true,if_false,KC]
  ·simp only [HA,JG,d3,d6,d1]
   rw [if_neg (by omega)]
 have n1:(((c.Permits.length:Nat):Int)>1024)=(c.Permits.length>1024):=propext (by omega)
 simp only [h1,if_true,key,n1,Option.bind_some]
 clear h key h1 hz
 by_cases h5:c.Permits.length>1024
 ·simp only [h5,if_true]; rfl
 simp only [h5,if_false,if_true]
 cases GK (fun _ x=>if GeE x c.Zones=0 then none else some (GeE x c.Zones)) 0 c.Permits with
 | none=>rfl
 | some r=>simp only [HL,eN,Option.getD_some]; grind
theorem Gwn (c:GB) (h:Gsh c):QY ⟨c⟩=some (MT [GmZ c.Accounts,GpJ c.Reliefs,whE (decide (c.Holidays.length>1024)) 3,whE (GrX c.Holidays) 15,Go3 c.Law,GpN c.Keeping,whE (!HE c.Agency) 6]):=by
 have hac:Mv c.Accounts=some (GmZ c.Accounts):=GgZ _ h.accs
 have n1:(((c.Holidays.length:Nat):Int)>1024)=(c.Holidays.length>1024):=propext (by omega)
 simp only [QY,R1,d1,d2,d3,d4,d5,d6,d7,hac,Gl7,GqC c h.hols,Gmi,Gmh,JF,Option.bind_some,n1,Mw,GeT,whE,decide_eq_true_eq,GrX]
 generalize GmZ c.Accounts=e1
 generalize GpJ c.Reliefs=e2
 generalize Go3 c.Law=e3
 generalize GpN c.Keeping=e4
 clear hac h n1
 by_cases h1:e1=0 <;> simp only [h1,if_true,if_false]
 by_cases h2:e2=0 <;> simp only [h2,if_true,if_false]
 by_cases h3:c.Holidays.length>1024
 ·simp only [h3,if_true]; rfl
 by_cases hh:GK (Gn5 c.Holidays) 0 c.Holidays=none
 rotate_left
 ·obtain ⟨r,hr⟩:=Option.ne_none_iff_exists'.1 hh
  simp only [hr,h3,HL,eN,Option.isSome_some,if_true,if_false]; rfl
 ·simp only [hh,h3,HL,eM,Option.isSome_none,Bool.false_eq_true,if_true,if_false]
  by_cases h4:e3=0 <;> simp only [h4,if_true,if_false]
  by_cases h5:e4=0 <;> simp only [h5,if_true,if_false]
  cases HE c.Agency <;> rfl
theorem Gkm:∀ l m:List Int,MT (l++m)=if MT l=0 then MT m else MT l
 | [],m=>rfl
 | x::l,m=>by
  rw [List.cons_append,Mw,Mw,Gkm l m]
  by_cases e:x=0 <;> simp only [e,if_true,if_false]
theorem Gm9 (c:GB) (h:Gsh c):GbE c=some (MT (GvY c)):=by
 simp only [GbE,GcD,d1,d2,d3,d4,d5,d6,d7,GuV c h,Gtr c h,Gr1 c h,Gwn c h,Option.bind_some]
 have hc:GvY c=[GiL c.Top,GrZ c.Devices c.Top.Net,Gse c.Classes,Go5 c.Tags,whE (decide (c.Gap<0∨c.Gap>3600)) 12,whE (decide (c.Weak<0∨c.Weak>1000)) 1]++([Gp3 c.Top c.Tariffs,Gq1 c.Scale,whE (decide (c.Discounts.length>12)) 3,GpO c.Discounts,whE (decide (c.Caps.length>12)) 3,MT (c.Caps.map Gdo)]++([GnJ c.Zones,whE (decide (c.Permits.length>1024)) 3,MT (c.Permits.map fun p=>GeE p c.Zones)]++[GmZ c.Accounts,GpJ c.Reliefs,whE (decide (c.Holidays.length>1024)) 3,whE (GrX c.Holidays) 15,Go3 c.Law,GpN c.Keeping,whE (!HE c.Agency) 6])):=rfl
 rw [hc,Gkm,Gkm,Gkm]
 generalize MT [GiL c.Top,GrZ c.Devices c.Top.Net,Gse c.Classes,Go5 c.Tags,whE (decide (c.Gap<0∨c.Gap>3600)) 12,whE (decide (c.Weak<0∨c.Weak>1000)) 1]=e1
 generalize MT [Gp3 c.Top c.Tariffs,Gq1 c.Scale,whE (decide (c.Discounts.length>12)) 3,GpO c.Discounts,whE (decide (c.Caps.length>12)) 3,MT (c.Caps.map Gdo)]=e2
 generalize MT [GnJ c.Zones,whE (decide (c.Permits.length>1024)) 3,MT (c.Permits.map fun p=>GeE p c.Zones)]=e3
 generalize MT [GmZ c.Accounts,GpJ c.Reliefs,whE (decide (c.Holidays.length>1024)) 3,whE (GrX c.Holidays) 15,Go3 c.Law,GpN c.Keeping,whE (!HE c.Agency) 6]=e4
 by_cases h1:e1=0 <;> simp only [h1,if_true,if_false]
 by_cases h2:e2=0 <;> simp only [h2,if_true,if_false]
 by_cases h3:e3=0 <;> simp only [h3,if_true,if_false]
 by_cases h4:e4=0 <;> simp only [h4,if_true,if_false]
end
end Go.Proofs.YtnlaiahcemckkaaGreatDoor.Av
