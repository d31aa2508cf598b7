import Derived.Test.YtdifanfcaemokaaGreatDoorPEf
import Derived.Test.YtdifanfcaemokaaGreatDoorPEu
import Derived.Test.YtdifanfcaemokaaGreatDoorPEr
open Prod (fst)
open Int (tdiv tmod)
set_option maxHeartbeats 4000000
set_option maxRecDepth 100000
set_option linter.unusedVariables false
set_option linter.unusedSimpArgs false
namespace Go.Proofs.YtdifanfcaemokaaGreatDoor.Av
noncomputable section
open Go Go.Proofs
def Ue (p_0:GH):HT Int True:=.run (cs 2 []) (fun _=>Hg) <|
  .bd (Ry p_0.Config.Top) fun r1=>.sp (r1=(0:Int))
  (.bd (VI p_0.Config.Devices p_0.Config.Top.Net) fun r4=>.sp (r4=(0:Int))
  (.bd (YQ p_0.Config.Classes) fun r7=>.sp (r7=(0:Int))
  (.bd (GaB p_0.Config.Tags) fun r10=>.sp (r10=(0:Int))
  (.run (cs 11 (bt::(cs 9 ((rN [.any] (jI r1) [])::(cs 3 (oa::bf::(cs 3 (bt::(cs 13 ((rN [.any,.any] (jI r4) [])::(cs 3 (oa::bf::(cs 3 (bt::(cs 9 ((rN [.any] (jI r7) [])::(cs 3 (oa::bf::(cs 3 (bt::(cs 9 ((rN [.any] (jI r10) [])::(cs 3 (oa::bf::(cs 3 (bf::(cs 5 [bf]))))))))))))))))))))))))))) (fun γ=>k2 tT (k2 (JS p_0.Config.Top r1 (RB γ)) (k2 (Gx (Gu (yA6 γ))) (k2 tT (k2 (RG p_0.Config.Devices p_0.Config.Top.Net r4 (RA γ)) (k2 (Gx (Gu (HW γ))) (k2 tT (k2 (Zv p_0.Config.Classes r7 (G0 γ)) (k2 (Gx (Gu γ.1.1.2)) (k2 tT (k2 (Ge1 p_0.Config.Tags r10 γ.1.2) (k2 (Gx (Gu γ.2)) (k2 fF (Gb fF)))))))))))))) <|
  .sp (p_0.Config.Gap<(0:Int))
  (.run (cs 3 (oa::oc::tc::(cs 5 [bt,oc]))) (fun γ=>k2 (dT γ.2) (Gb tT)) <|
  .leaf 12 [])
  (.run (cs 3 (oa::oc::oF::(cs 2 (oa::(cs 2 []))))) (fun γ=>Gb (dF γ.2)) <|
  .sp (p_0.Config.Gap>(3600:Int))
  (.run [bt,oc] (fun γ=>Gb (dT γ.2)) <|
  .leaf 12 [])
  (.run [bf] (fun γ=>Gb (dF γ.2)) <|
  .sp (p_0.Config.Weak<(0:Int))
  (.run (cs 3 (oa::oc::tc::(cs 5 [bt,oc]))) (fun γ=>k2 (dT γ.2) (Gb tT)) <|
  .leaf 1 [])
  (.run (cs 3 (oa::oc::oF::(cs 2 (oa::(cs 2 []))))) (fun γ=>Gb (dF γ.2)) <|
  .sp (p_0.Config.Weak>(1000:Int))
  (.run [bt,oc] (fun γ=>Gb (dT γ.2)) <|
  .leaf 1 [])
  (.run [bf,oc] (fun γ=>Gb (dF γ.2)) <|
  .leaf 0 [])))))
  (.run (cs 11 (bt::(cs 9 ((rN [.any] (jI r1) [])::(cs 3 (oa::bf::(cs 3 (bt::(cs 13 ((rN [.any,.any] (jI r4) [])::(cs 3 (oa::bf::(cs 3 (bt::(cs 9 ((rN [.any] (jI r7) [])::(cs 3 (oa::bf::(cs 3 (bt::(cs 9 ((rN [.any] (jI r10) [])::(cs 3 (oa::bt::(cs 4 (oa::oc::bt::(cs 2 []))))))))))))))))))))))))))) (fun γ=>k2 tT (k2 (JS p_0.Config.Top r1 (RB γ)) (k2 (Gx (Gu (yA6 γ))) (k2 tT (k2 (RG p_0.Config.Devices p_0.Config.Top.Net r4 (RA γ)) (k2 (Gx (Gu (HW γ))) (k2 tT (k2 (Zv p_0.Config.Classes r7 (G0 γ)) (k2 (Gx (Gu γ.1.1.2)) (k2 tT (k2 (Ge1 p_0.Config.Tags r10 γ.1.2) (k2 (Gy (Gz γ.2)) (Gb (Gy (Gz γ.2))))))))))))))) <|
  .leaf r10 []))
  (.run (cs 11 (bt::(cs 9 ((rN [.any] (jI r1) [])::(cs 3 (oa::bf::(cs 3 (bt::(cs 13 ((rN [.any,.any] (jI r4) [])::(cs 3 (oa::bf::(cs 3 (bt::(cs 9 ((rN [.any] (jI r7) [])::(cs 3 (oa::bt::(cs 4 (oa::oc::bt::(cs 2 []))))))))))))))))))))) (fun γ=>k2 tT (k2 (JS p_0.Config.Top r1 (RA γ)) (k2 (Gx (Gu (HW γ))) (k2 tT (k2 (RG p_0.Config.Devices p_0.Config.Top.Net r4 (G0 γ)) (k2 (Gx (Gu γ.1.1.2)) (k2 tT (k2 (Zv p_0.Config.Classes r7 γ.1.2) (k2 (Gy (Gz γ.2)) (Gb (Gy (Gz γ.2)))))))))))) <|
  .leaf r7 []))
  (.run (cs 11 (bt::(cs 9 ((rN [.any] (jI r1) [])::(cs 3 (oa::bf::(cs 3 (bt::(cs 13 ((rN [.any,.any] (jI r4) [])::(cs 3 (oa::bt::(cs 4 (oa::oc::bt::(cs 2 []))))))))))))))) (fun γ=>k2 tT (k2 (JS p_0.Config.Top r1 (G0 γ)) (k2 (Gx (Gu γ.1.1.2)) (k2 tT (k2 (RG p_0.Config.Devices p_0.Config.Top.Net r4 γ.1.2) (k2 (Gy (Gz γ.2)) (Gb (Gy (Gz γ.2))))))))) <|
  .leaf r4 []))
  (.run (cs 11 (bt::(cs 9 ((rN [.any] (jI r1) [])::(cs 3 (oa::bt::(cs 4 (oa::oc::bt::(cs 2 []))))))))) (fun γ=>k2 tT (k2 (JS p_0.Config.Top r1 γ.1.2) (k2 (Gy (Gz γ.2)) (Gb (Gy (Gz γ.2)))))) <|
  .leaf r1 [])
def QG (p_0:GH):Option Int:=(Ue p_0).den
theorem JE (p_0:GH) (r:Int) (h:QG p_0=some r):RT 49 [.agg (GH.enc p_0)] (jI r) []:=
 HA.of_ht 400 (Ue p_0) (fun (r:Int)=>jI r) (fun (r:Int)=>[]) (by kernel_rfl) h
def JU (p_0:GH):Nat→HT (Nat⊕(Int⊕Unit)) True
 | k36=>.run [oa] (fun _=>Hg) <|
  .sp ((↑k36:Int)<(↑p_0.Config.Caps.length:Int))
  (.run [bt] (fun γ=>Gb (dT γ.2)) <|
  .bd (p_0.Config.Caps[k36]?) fun x21=>.run ((oN (.i k36))::(oN (.v [.str x21.Name,.str x21.System,jI x21.Days,jI x21.Cents]))::(cs 2 [])) (fun γ=>k2 (ir γ.2) (k2 (GD (f:=G9.enc) (z:=3) (fun _=>rfl) γ.2) (Gb (GX (f:=G9.enc) (z:=4) (j:=k36) (fun _=>rfl) γ.2 rfl)))) <|
  .bd (Gih x21) fun r23=>.run (oc::(rN [.any] (jI r23) [])::(cs 2 [oa])) (fun γ=>Gb (GpG x21 r23 γ.2)) <|
  .sp (r23=(0:Int))
  (.run [bf] (fun γ=>Gb (Gx (Gu γ.2))) <|
  .gd (GS .i64 ((↑k36:Int)+1)) <| .run [ow,oc] (fun γ=>Gb γ.2) <|
  .leaf (.inl (k36+1)) [])
  (.run (bt::(cs 2 [])) (fun γ=>Gb (Gy (Gz γ.2))) <|
  .leaf (.inr (.inl r23)) []))
  (.run [bf] (fun γ=>Gb (dF γ.2)) <|
  .leaf (.inr (.inr (()))) [])
def HK (p_0:GH):Nat→Option (Nat⊕(Int⊕Unit)):=fun s=>(JU p_0 s).den
def Uq (p_0:GH):Nat→PS:=fun s=>(46,[(34,.lst (fl G9.enc p_0.Config.Caps) p_0.Config.Caps.length),(35,jI (↑p_0.Config.Caps.length:Int)),(36,jI (↑s:Int))],[])
def Us:(Int⊕Unit)→Hm:=fun q=>match q with | Sum.inl o=>.ret | Sum.inr (o)=>(.exit 0)
def Ur (p_0:GH):(Int⊕Unit)→List (Nat×AV):=fun q=>match q with | Sum.inl o=>[(2,jI o)] | Sum.inr (o)=>[]
def Uo (p_0:GH):(Int⊕Unit)→List Hb:=fun _=>[]
theorem QF (p_0:GH) {s:Nat} {r:Int⊕Unit} (h:lp (HK p_0) s=some r):DT 0 (.loop (GK Tryz.prog 50 [1,1,1,1,1,0,1,0,0])) (Uq p_0 s).st (Us r) (PS.st (46,Ur p_0 r,Uo p_0 r)):=
 GN.lp_ht 0 400 (Uq p_0) Us (fun q=>(46,Ur p_0 q,Uo p_0 q)) (JU p_0) (by intro k36; kernel_rfl) h
def Re (p_0:GH):HT Int True:=.run (cs 2 []) (fun _=>Hg) <|
  .bd (U3 p_0.Config.Tariffs p_0.Config.Top) fun r1=>.sp (r1=(0:Int))
  (.bd (Qs p_0.Config.Scale) fun r4=>.sp (r4=(0:Int))
  (.run (cs 9 (bt::(cs 12 ((rN [.any,.any] (jI r1) [])::(cs 3 (oa::bf::(cs 3 (bt::(cs 9 ((rN [.any] (jI r4) [])::(cs 3 (oa::bf::(cs 3 (bf::(cs 4 (bf::(cs 4 [oa]))))))))))))))))) (fun γ=>k2 tT (k2 (Uh p_0.Config.Tariffs p_0.Config.Top r1 (G0 γ)) (k2 (Gx (Gu γ.1.1.2)) (k2 tT (k2 (Z5 p_0.Config.Scale r4 γ.1.2) (k2 (Gx (Gu γ.2)) (k2 fF (Gb fF)))))))) <|
  .sp ((↑p_0.Config.Discounts.length:Int)>(12:Int))
  (.run [bt,oc] (fun γ=>Gb (dT γ.2)) <|
  .leaf 3 [])
  (.run [bf] (fun γ=>Gb (dF γ.2)) <|
  .bd (QK p_0.Config.Discounts) fun r8=>.run (cs 3 ((rN [.any] (jI r8) [])::(cs 2 [oa]))) (fun γ=>Gb (Gf6 p_0.Config.Discounts r8 γ.2)) <|
  .sp (r8=(0:Int))
  (.run (bf::(cs 4 [oa])) (fun γ=>Gb (Gx (Gu γ.2))) <|
  .sp ((↑p_0.Config.Caps.length:Int)>(12:Int))
  (.run [bt,oc] (fun γ=>Gb (dT γ.2)) <|
  .leaf 3 [])
  (.run (bf::(cs 5 [])) (fun γ=>Gb (dF γ.2)) <|
  .bd (lp (HK p_0) (0:Nat)) fun qq=>.cs qq (fun o12=>.run [.fcut 0 .ret [(2,jI o12)] [] [] [(34,.any),(35,.any),(36,jI (↑(0:Nat):Int))] []] (fun γ=>k2 (rfl:(jI 0:AV)=jI (↑(0:Nat):Int)) (Gb (QF p_0 (s:=(0:Nat)) (r:=Sum.inl o12) (eS γ.1.2 γ.2)))) <|
  .leaf o12 [])
  (fun o12=>.run [.fcut 0 (.exit 0) [] [] [] [(34,.any),(35,.any),(36,jI (↑(0:Nat):Int))] [],oc] (fun γ=>k2 (rfl:(jI 0:AV)=jI (↑(0:Nat):Int)) (Gb (QF p_0 (s:=(0:Nat)) (r:=Sum.inr (o12)) (eS γ.1.2 γ.2)))) <|
  .leaf 0 [])))
  (.run (bt::(cs 2 [])) (fun γ=>Gb (Gy (Gz γ.2))) <|
  .leaf r8 [])))
  (.run (cs 9 (bt::(cs 12 ((rN [.any,.any] (jI r1) [])::(cs 3 (oa::bf::(cs 3 (bt::(cs 9 ((rN [.any] (jI r4) [])::(cs 3 (oa::bt::(cs 4 (oa::bt::(cs 2 []))))))))))))))) (fun γ=>k2 tT (k2 (Uh p_0.Config.Tariffs p_0.Config.Top r1 (G0 γ)) (k2 (Gx (Gu γ.1.1.2)) (k2 tT (k2 (Z5 p_0.Config.Scale r4 γ.1.2) (k2 (Gy (Gz γ.2)) (Gb (Gy (Gz γ.2))))))))) <|
  .leaf r4 []))
  (.run (cs 9 (bt::(cs 12 ((rN [.any,.any] (jI r1) [])::(cs 3 (oa::bt::(cs 4 (oa::bt::(cs 2 []))))))))) (fun γ=>k2 tT (k2 (Uh p_0.Config.Tariffs p_0.Config.Top r1 γ.1.2) (k2 (Gy (Gz γ.2)) (Gb (Gy (Gz γ.2)))))) <|
  .leaf r1 [])
def M6 (p_0:GH):Option Int:=(Re p_0).den
theorem KE (p_0:GH) (r:Int) (h:M6 p_0=some r):RT 50 [.agg (GH.enc p_0)] (jI r) []:=
 HA.of_ht 400 (Re p_0) (fun (r:Int)=>jI r) (fun (r:Int)=>[]) (by kernel_rfl) h
def JT (p_0:GH):Nat→HT (Nat⊕(Int⊕Unit)) True
 | k23=>.run [oa] (fun _=>Hg) <|
  .sp ((↑k23:Int)<(↑p_0.Config.Permits.length:Int))
  (.run [bt] (fun γ=>Gb (dT γ.2)) <|
  .bd (p_0.Config.Permits[k23]?) fun x14=>.run ((oN (.i k23))::(oN (.v [.str x14.Name,.str x14.Zone,.lst (fl JB x14.Plates) x14.Plates.length,jI x14.Valid.From,jI x14.Valid.To,.lst (fl Gl.enc x14.Hours) x14.Hours.length,jI x14.Most]))::(cs 2 [])) (fun γ=>k2 (ir γ.2) (k2 (GD (f:=Gw.enc) (z:=6) (fun _=>rfl) γ.2) (Gb (GX (f:=Gw.enc) (z:=7) (j:=k23) (fun _=>rfl) γ.2 rfl)))) <|
  .bd (Gax x14 p_0.Config.Zones) fun r16=>.run (cs 4 ((rN [.any,.any] (jI r16) [])::(cs 2 [oa]))) (fun γ=>Gb (GmH x14 p_0.Config.Zones r16 γ.2)) <|
  .sp (r16=(0:Int))
  (.run [bf] (fun γ=>Gb (Gx (Gu γ.2))) <|
  .gd (GS .i64 ((↑k23:Int)+1)) <| .run [ow,oc] (fun γ=>Gb γ.2) <|
  .leaf (.inl (k23+1)) [0])
  (.run (bt::(cs 2 [])) (fun γ=>Gb (Gy (Gz γ.2))) <|
  .leaf (.inr (.inl r16)) [0]))
  (.run [bf] (fun γ=>Gb (dF γ.2)) <|
  .leaf (.inr (.inr (()))) [0])
def HJ (p_0:GH):Nat→Option (Nat⊕(Int⊕Unit)):=fun s=>(JT p_0 s).den
def Ul (p_0:GH):Nat→PS:=fun s=>(36,[(1,.ptr 0 0),(21,.lst (fl Gw.enc p_0.Config.Permits) p_0.Config.Permits.length),(22,jI (↑p_0.Config.Permits.length:Int)),(23,jI (↑s:Int))],[(bT (GH.enc p_0) 156)])
def Un:(Int⊕Unit)→Hm:=fun q=>match q with | Sum.inl o=>.ret | Sum.inr (o)=>(.exit 0)
def Um (p_0:GH):(Int⊕Unit)→List (Nat×AV):=fun q=>match q with | Sum.inl o=>[(2,jI o)] | Sum.inr (o)=>[]
def Uk (p_0:GH):(Int⊕Unit)→List Hb:=fun _=>[(bT (GH.enc p_0) 156)]
theorem QE (p_0:GH) {s:Nat} {r:Int⊕Unit} (h:lp (HJ p_0) s=some r):DT 1 (.loop (GK Tryz.prog 51 [1,1,1,0,1,0,0])) (Ul p_0 s).st (Un r) (PS.st (36,Um p_0 r,Uk p_0 r)):=
 GN.lp_ht 1 400 (Ul p_0) Un (fun q=>(36,Um p_0 q,Uk p_0 q)) (JT p_0) (by intro k23; kernel_rfl) h
def QB (p_0:GH):HT Int True:=.run (cs 2 []) (fun _=>Hg) <|
  .bd (YL p_0.Config.Zones) fun r1=>.run (cs 3 ((rN [.any] (jI r1) [])::(cs 2 [oa]))) (fun γ=>Gb (Gl5 p_0.Config.Zones r1 γ.2)) <|
  .sp (r1=(0:Int))
  (.run (bf::(cs 4 [oa])) (fun γ=>Gb (Gx (Gu γ.2))) <|
  .sp ((↑p_0.Config.Permits.length:Int)>(1024:Int))
  (.run [bt,oc] (fun γ=>Gb (dT γ.2)) <|
  .leaf 3 [])
  (.run (bf::(cs 5 [])) (fun γ=>Gb (dF γ.2)) <|
  .bd (lp (HJ p_0) (0:Nat)) fun qq=>.cs qq (fun o5=>.run [.fcut 1 .ret [(2,jI o5)] [(bT (GH.enc p_0) 156)] [0] [(1,.any),(21,.any),(22,.any),(23,jI (↑(0:Nat):Int))] [bS]] (fun γ=>k2 (rfl:(jI 0:AV)=jI (↑(0:Nat):Int)) (Gb (QE p_0 (s:=(0:Nat)) (r:=Sum.inl o5) (eS γ.1.2 γ.2)))) <|
  .leaf o5 [])
  (fun o5=>.run [.fcut 1 (.exit 0) [] [(bT (GH.enc p_0) 156)] [0] [(1,.any),(21,.any),(22,.any),(23,jI (↑(0:Nat):Int))] [bS],oc] (fun γ=>k2 (rfl:(jI 0:AV)=jI (↑(0:Nat):Int)) (Gb (QE p_0 (s:=(0:Nat)) (r:=Sum.inr (o5)) (eS γ.1.2 γ.2)))) <|
  .leaf 0 [])))
  (.run (bt::(cs 2 [])) (fun γ=>Gb (Gy (Gz γ.2))) <|
  .leaf r1 [])
def Mw (p_0:GH):Option Int:=(QB p_0).den
theorem MG (p_0:GH) (r:Int) (h:Mw p_0=some r):RT 51 [.agg (GH.enc p_0)] (jI r) []:=
 HA.of_ht 400 (QB p_0) (fun (r:Int)=>jI r) (fun (r:Int)=>[]) (by kernel_rfl) h
def KT (p_0:GH):Nat→HT (Nat⊕(Unit⊕Unit)) True
 | k23=>.run [oa] (fun _=>Hg) <|
  .sp ((↑k23:Int)<(↑p_0.Config.Holidays.length:Int))
  (.run [bt] (fun γ=>Gb (dT γ.2)) <|
  .bd (p_0.Config.Holidays[k23]?) fun x21=>.run (oc::(oN (.i k23))::(vI x21)::(cs 2 [])) (fun γ=>k2 (ir γ.2) (k2 (GD (f:=GU) (z:=0) (fun _=>rfl) γ.2) (Gb (H3 γ.2)))) <|
  .sp ((↑k23:Int)>(0:Int))
  (.gd (GS .i64 ((↑k23:Int) - 1)) <| .gd ((0:Int)≤((↑k23:Int) - 1)) <| .bd (p_0.Config.Holidays[(Int.toNat ((↑k23:Int) - 1))]?) fun x26=>.run (oc::oa::oc::tc::(cs 4 [ow,oN (.i (Int.toNat ((↑k23:Int) - 1))),vI x26,oa,oc])) (fun γ=>k2 (dT (G0 γ)) (k2 γ.1.1.2 (k2 (ix γ.1.2 γ.2) (k2 (GD (f:=GU) (z:=0) (fun _=>rfl) γ.2) (Gb (H3 γ.2)))))) <|
  .sp (x21≤x26)
  (.run [bt,oc] (fun γ=>Gb (dT γ.2)) <|
  .leaf (.inr (.inl ())) [0])
  (.run [bf] (fun γ=>Gb (dF γ.2)) <|
  .gd (GS .i64 ((↑k23:Int)+1)) <| .run [ow,oc] (fun γ=>Gb γ.2) <|
  .leaf (.inl (k23+1)) [0]))
  (.run (oc::oa::oc::oF::(cs 9 [bf])) (fun γ=>k2 (dF γ.2) (Gb fF)) <|
  .gd (GS .i64 ((↑k23:Int)+1)) <| .run [ow,oc] (fun γ=>Gb γ.2) <|
  .leaf (.inl (k23+1)) [0]))
  (.run [bf] (fun γ=>Gb (dF γ.2)) <|
  .leaf (.inr (.inr (()))) [0])
def Jf (p_0:GH):Nat→Option (Nat⊕(Unit⊕Unit)):=fun s=>(KT p_0 s).den
def XG (p_0:GH):Nat→PS:=fun s=>(54,[(1,.ptr 0 0),(21,.lst (fl GU p_0.Config.Holidays) p_0.Config.Holidays.length),(22,jI (↑p_0.Config.Holidays.length:Int)),(23,jI (↑s:Int))],[(bT (GH.enc p_0) 156)])
def XI:(Unit⊕Unit)→Hm:=fun q=>match q with | Sum.inl o=>.ret | Sum.inr (o)=>(.exit 0)
def XH (p_0:GH):(Unit⊕Unit)→List (Nat×AV):=fun q=>match q with | Sum.inl o=>[(2,jI 15)] | Sum.inr (o)=>[(1,.ptr 0 0)]
def XF (p_0:GH):(Unit⊕Unit)→List Hb:=fun _=>[(bT (GH.enc p_0) 156)]
theorem Ut (p_0:GH) {s:Nat} {r:Unit⊕Unit} (h:lp (Jf p_0) s=some r):DT 1 (.loop (GK Tryz.prog 52 [1,1,1,0,1,0,0])) (XG p_0 s).st (XI r) (PS.st (54,XH p_0 r,XF p_0 r)):=
 GN.lp_ht 1 400 (XG p_0) XI (fun q=>(54,XH p_0 q,XF p_0 q)) (KT p_0) (by intro k23; kernel_rfl) h
def U8 (p_0:GH):HT Int True:=.run (cs 2 []) (fun _=>Hg) <|
  .bd (MF p_0.Config.Accounts) fun r1=>.sp (r1=(0:Int))
  (.bd (Gay p_0.Config.Reliefs) fun r4=>.sp (r4=(0:Int))
  (.run (cs 9 (bt::(cs 9 ((rN [.any] (jI r1) [])::(cs 3 (oa::bf::(cs 3 (bt::(cs 9 ((rN [.any] (jI r4) [])::(cs 3 (oa::bf::(cs 3 (bf::(cs 4 (bf::(cs 4 [oa]))))))))))))))))) (fun γ=>k2 tT (k2 (Rd p_0.Config.Accounts r1 (G0 γ)) (k2 (Gx (Gu γ.1.1.2)) (k2 tT (k2 (GeW p_0.Config.Reliefs r4 γ.1.2) (k2 (Gx (Gu γ.2)) (k2 fF (Gb fF)))))))) <|
  .sp ((↑p_0.Config.Holidays.length:Int)>(1024:Int))
  (.run [bt,oc] (fun γ=>Gb (dT γ.2)) <|
  .leaf 3 [])
  (.run (bf::(cs 5 [])) (fun γ=>Gb (dF γ.2)) <|
  .bd (lp (Jf p_0) (0:Nat)) fun qq=>.cs qq (fun o8=>.run [.fcut 1 .ret [(2,jI 15)] [(bT (GH.enc p_0) 156)] [0] [(1,.any),(21,.any),(22,.any),(23,jI (↑(0:Nat):Int))] [bS]] (fun γ=>k2 (rfl:(jI 0:AV)=jI (↑(0:Nat):Int)) (Gb (Ut p_0 (s:=(0:Nat)) (r:=Sum.inl o8) (eS γ.1.2 γ.2)))) <|
  .leaf 15 [])
  (fun o8=>.run [.fcut 1 (.exit 0) [(1,.ptr 0 0)] [(bT (GH.enc p_0) 156)] [0] [(1,.any),(21,.any),(22,.any),(23,jI (↑(0:Nat):Int))] [bS]] (fun γ=>k2 (rfl:(jI 0:AV)=jI (↑(0:Nat):Int)) (Gb (Ut p_0 (s:=(0:Nat)) (r:=Sum.inr (o8)) (eS γ.1.2 γ.2)))) <|
  .bd (Gaw p_0.Config.Law) fun r31=>.sp (r31=(0:Int))
  (.bd (Gaz p_0.Config.Keeping) fun r34=>.sp (r34=(0:Int))
  (.run (cs 9 (bt::(cs 9 ((rN [.any] (jI r31) [])::(cs 3 (oa::bf::(cs 3 (bt::(cs 9 ((rN [.any] (jI r34) [])::(cs 3 (oa::bf::(cs 3 (bf::(cs 4 [bf]))))))))))))))) (fun γ=>k2 tT (k2 (Yb p_0.Config.Law r31 (G0 γ)) (k2 (Gx (Gu γ.1.1.2)) (k2 tT (k2 (GeX p_0.Config.Keeping r34 γ.1.2) (k2 (Gx (Gu γ.2)) (k2 fF (Gb fF)))))))) <|
  .bd (HS p_0.Config.Agency) fun r37=>.run (cs 3 [rN [.any] (.bool r37) [],oc]) (fun γ=>Gb (Hh p_0.Config.Agency r37 γ.2)) <|
  .sp (r37=true)
  (.run [bf,oc] (fun γ=>Gb ((Gx γ.2):(!r37)=false)) <|
  .leaf 0 [])
  (.run [bt,oc] (fun γ=>Gb ((Gy (Ja γ.2)):(!r37)=true)) <|
  .leaf 6 []))
  (.run (cs 9 (bt::(cs 9 ((rN [.any] (jI r31) [])::(cs 3 (oa::bf::(cs 3 (bt::(cs 9 ((rN [.any] (jI r34) [])::(cs 3 (oa::bt::(cs 4 (oa::bt::(cs 2 []))))))))))))))) (fun γ=>k2 tT (k2 (Yb p_0.Config.Law r31 (G0 γ)) (k2 (Gx (Gu γ.1.1.2)) (k2 tT (k2 (GeX p_0.Config.Keeping r34 γ.1.2) (k2 (Gy (Gz γ.2)) (Gb (Gy (Gz γ.2))))))))) <|
  .leaf r34 []))
  (.run (cs 9 (bt::(cs 9 ((rN [.any] (jI r31) [])::(cs 3 (oa::bt::(cs 4 (oa::bt::(cs 2 []))))))))) (fun γ=>k2 tT (k2 (Yb p_0.Config.Law r31 γ.1.2) (k2 (Gy (Gz γ.2)) (Gb (Gy (Gz γ.2)))))) <|
  .leaf r31 []))))
  (.run (cs 9 (bt::(cs 9 ((rN [.any] (jI r1) [])::(cs 3 (oa::bf::(cs 3 (bt::(cs 9 ((rN [.any] (jI r4) [])::(cs 3 (oa::bt::(cs 4 (oa::bt::(cs 2 []))))))))))))))) (fun γ=>k2 tT (k2 (Rd p_0.Config.Accounts r1 (G0 γ)) (k2 (Gx (Gu γ.1.1.2)) (k2 tT (k2 (GeW p_0.Config.Reliefs r4 γ.1.2) (k2 (Gy (Gz γ.2)) (Gb (Gy (Gz γ.2))))))))) <|
  .leaf r4 []))
  (.run (cs 9 (bt::(cs 9 ((rN [.any] (jI r1) [])::(cs 3 (oa::bt::(cs 4 (oa::bt::(cs 2 []))))))))) (fun γ=>k2 tT (k2 (Rd p_0.Config.Accounts r1 γ.1.2) (k2 (Gy (Gz γ.2)) (Gb (Gy (Gz γ.2)))))) <|
  .leaf r1 [])
def RC (p_0:GH):Option Int:=(U8 p_0).den
theorem YP (p_0:GH) (r:Int) (h:RC p_0=some r):RT 52 [.agg (GH.enc p_0)] (jI r) []:=
 HA.of_ht 400 (U8 p_0) (fun (r:Int)=>jI r) (fun (r:Int)=>[]) (by kernel_rfl) h
def GdB (c_0:Gh):HT Int True:=.run (cs 6 []) (fun _=>Hg) <|
  .bd (QG (⟨c_0⟩:GH)) fun r1=>.sp (r1=(0:Int))
  (.bd (M6 (⟨c_0⟩:GH)) fun r4=>.sp (r4=(0:Int))
  (.bd (Mw (⟨c_0⟩:GH)) fun r7=>.sp (r7=(0:Int))
  (.bd (RC (⟨c_0⟩:GH)) fun r10=>.sp (r10=(0:Int))
  (.run (cs 15 (bt::(cs 4 ((rN [.any] (jI r1) [])::(cs 2 (oa::bf::(cs 3 (bt::(cs 4 ((rN [.any] (jI r4) [])::(cs 2 (oa::bf::(cs 3 (bt::(cs 4 ((rN [.any] (jI r7) [])::(cs 2 (oa::bf::(cs 3 (bt::(cs 4 ((rN [.any] (jI r10) [])::(cs 2 (oa::bf::(cs 3 (bf::(cs 2 []))))))))))))))))))))))))))) (fun γ=>k2 tT (k2 (JE (⟨c_0⟩:GH) r1 (RB γ)) (k2 (Gx (Gu (yA6 γ))) (k2 tT (k2 (KE (⟨c_0⟩:GH) r4 (RA γ)) (k2 (Gx (Gu (HW γ))) (k2 tT (k2 (MG (⟨c_0⟩:GH) r7 (G0 γ)) (k2 (Gx (Gu γ.1.1.2)) (k2 tT (k2 (YP (⟨c_0⟩:GH) r10 γ.1.2) (k2 (Gx (Gu γ.2)) (Gb fF))))))))))))) <|
  .leaf 0 [])
  (.run (cs 15 (bt::(cs 4 ((rN [.any] (jI r1) [])::(cs 2 (oa::bf::(cs 3 (bt::(cs 4 ((rN [.any] (jI r4) [])::(cs 2 (oa::bf::(cs 3 (bt::(cs 4 ((rN [.any] (jI r7) [])::(cs 2 (oa::bf::(cs 3 (bt::(cs 4 ((rN [.any] (jI r10) [])::(cs 2 (oa::bt::(cs 3 []))))))))))))))))))))))))) (fun γ=>k2 tT (k2 (JE (⟨c_0⟩:GH) r1 (RB γ)) (k2 (Gx (Gu (yA6 γ))) (k2 tT (k2 (KE (⟨c_0⟩:GH) r4 (RA γ)) (k2 (Gx (Gu (HW γ))) (k2 tT (k2 (MG (⟨c_0⟩:GH) r7 (G0 γ)) (k2 (Gx (Gu γ.1.1.2)) (k2 tT (k2 (YP (⟨c_0⟩:GH) r10 γ.1.2) (Gb (Gy (Gz γ.2)))))))))))))) <|
  .leaf r10 []))
  (.run (cs 15 (bt::(cs 4 ((rN [.any] (jI r1) [])::(cs 2 (oa::bf::(cs 3 (bt::(cs 4 ((rN [.any] (jI r4) [])::(cs 2 (oa::bf::(cs 3 (bt::(cs 4 ((rN [.any] (jI r7) [])::(cs 2 (oa::bt::(cs 3 []))))))))))))))))))) (fun γ=>k2 tT (k2 (JE (⟨c_0⟩:GH) r1 (RA γ)) (k2 (Gx (Gu (HW γ))) (k2 tT (k2 (KE (⟨c_0⟩:GH) r4 (G0 γ)) (k2 (Gx (Gu γ.1.1.2)) (k2 tT (k2 (MG (⟨c_0⟩:GH) r7 γ.1.2) (Gb (Gy (Gz γ.2))))))))))) <|
  .leaf r7 []))
  (.run (cs 15 (bt::(cs 4 ((rN [.any] (jI r1) [])::(cs 2 (oa::bf::(cs 3 (bt::(cs 4 ((rN [.any] (jI r4) [])::(cs 2 (oa::bt::(cs 3 []))))))))))))) (fun γ=>k2 tT (k2 (JE (⟨c_0⟩:GH) r1 (G0 γ)) (k2 (Gx (Gu γ.1.1.2)) (k2 tT (k2 (KE (⟨c_0⟩:GH) r4 γ.1.2) (Gb (Gy (Gz γ.2)))))))) <|
  .leaf r4 []))
  (.run (cs 15 (bt::(cs 4 ((rN [.any] (jI r1) [])::(cs 2 (oa::bt::(cs 3 []))))))) (fun γ=>k2 tT (k2 (JE (⟨c_0⟩:GH) r1 γ.1.2) (Gb (Gy (Gz γ.2))))) <|
  .leaf r1 [])
def Gcj (c_0:Gh):Option Int:=(GdB c_0).den
theorem GnD (c_0:Gh) (r:Int) (h:Gcj c_0=some r):RT 17 [.agg (Gh.enc c_0)] (jI r) []:=
 HA.of_ht 400 (GdB c_0) (fun (r:Int)=>jI r) (fun (r:Int)=>[]) (by kernel_rfl) h
end
set_option maxHeartbeats 4000000
set_option maxRecDepth 100000
noncomputable section
open Go Go.Proofs
def YF (l_0:(List Int)):Nat→HT (Nat⊕(Int⊕Unit)) True
 | k3=>.run (cs 3 [oa]) (fun _=>Hg) <|
  .sp ((↑k3:Int)<(↑l_0.length:Int))
  (.run [bt] (fun γ=>Gb (dT γ.2)) <|
  .bd (l_0[k3]?) fun x8=>.run (cs 2 [oN (.i k3),vI x8,oa]) (fun γ=>k2 (ir γ.2) (k2 (GD (f:=GU) (z:=0) (fun _=>rfl) γ.2) (Gb (H3 γ.2)))) <|
  .sp (x8=(0:Int))
  (.run [bf] (fun γ=>Gb (Gx (Gu γ.2))) <|
  .gd (GS .i64 ((↑k3:Int)+1)) <| .run [oc,ow,oc] (fun γ=>Gb γ.2) <|
  .leaf (.inl (k3+1)) [])
  (.run (bt::(cs 2 [oN (.i k3),vI x8,oc])) (fun γ=>k2 (Gy (Gz γ.2)) (k2 (ir γ.1.2) (k2 (GD (f:=GU) (z:=0) (fun _=>rfl) γ.1.2) (Gb (H3 γ.1.2))))) <|
  .leaf (.inr (.inl x8)) []))
  (.run [bf] (fun γ=>Gb (dF γ.2)) <|
  .leaf (.inr (.inr (()))) [])
def M0 (l_0:(List Int)):Nat→Option (Nat⊕(Int⊕Unit)):=fun s=>(YF l_0 s).den
def GjH (l_0:(List Int)):Nat→PS:=fun s=>(19,[(0,.lst (fl GU l_0) l_0.length),(3,jI (↑s:Int))],[])
def GjJ:(Int⊕Unit)→Hm:=fun q=>match q with | Sum.inl o=>.ret | Sum.inr (o)=>(.exit 0)
def GjI (l_0:(List Int)):(Int⊕Unit)→List (Nat×AV):=fun q=>match q with | Sum.inl o=>[(2,jI o)] | Sum.inr (o)=>[]
def GjG (l_0:(List Int)):(Int⊕Unit)→List Hb:=fun _=>[]
theorem GeO (l_0:(List Int)) {s:Nat} {r:Int⊕Unit} (h:lp (M0 l_0) s=some r):DT 0 (.loop (GK Tryz.prog 26 [1,0,1,0,0])) (GjH l_0 s).st (GjJ r) (PS.st (19,GjI l_0 r,GjG l_0 r)):=
 GN.lp_ht 0 400 (GjH l_0) GjJ (fun q=>(19,GjI l_0 q,GjG l_0 q)) (YF l_0) (by intro k3; kernel_rfl) h
def Gkt (l_0:(List Int)):HT Int True:=.run (cs 2 []) (fun _=>Hg) <|
  .bd (lp (M0 l_0) (0:Nat)) fun qq=>.cs qq (fun o1=>.run [.fcut 0 .ret [(2,jI o1)] [] [] [(0,.any),(3,jI (↑(0:Nat):Int))] []] (fun γ=>k2 (rfl:(jI 0:AV)=jI (↑(0:Nat):Int)) (Gb (GeO l_0 (s:=(0:Nat)) (r:=Sum.inl o1) (eS γ.1.2 γ.2)))) <|
  .leaf o1 [])
  (fun o1=>.run [.fcut 0 (.exit 0) [] [] [] [(0,.any),(3,jI (↑(0:Nat):Int))] [],oc] (fun γ=>k2 (rfl:(jI 0:AV)=jI (↑(0:Nat):Int)) (Gb (GeO l_0 (s:=(0:Nat)) (r:=Sum.inr (o1)) (eS γ.1.2 γ.2)))) <|
  .leaf 0 [])
def Uu (l_0:(List Int)):Option Int:=(Gkt l_0).den
theorem RR (l_0:(List Int)) (r:Int) (h:Uu l_0=some r):RT 26 [.lst (fl GU l_0) l_0.length] (jI r) []:=
 HA.of_ht 400 (Gkt l_0) (fun (r:Int)=>jI r) (fun (r:Int)=>[]) (by kernel_rfl) h
def Gmz (bad_0:Bool) (e_1:Int):HT Int True:=.run (cs 2 []) (fun _=>Hg) <|
  .sp (bad_0=true)
  (.run (bt::(cs 2 [])) (fun γ=>Gb γ.2) <|
  .leaf e_1 [])
  (.run [bf,oc] (fun γ=>Gb ((Ja γ.2):bad_0=false)) <|
  .leaf 0 [])
def Hw (bad_0:Bool) (e_1:Int):Option Int:=(Gmz bad_0 e_1).den
theorem G3 (bad_0:Bool) (e_1:Int) (r:Int) (h:Hw bad_0 e_1=some r):RT 33 [.bool bad_0,jI e_1] (jI r) []:=
 HA.of_ht 400 (Gmz bad_0 e_1) (fun (r:Int)=>jI r) (fun (r:Int)=>[]) (by kernel_rfl) h
def YE (c_0:Gh):(Int×Nat)→HT ((Int×Nat)⊕Int) True
 | (v3,k4)=>.run (cs 4 [oa]) (fun _=>Hg) <|
  .sp ((↑k4:Int)<(↑c_0.Caps.length:Int))
  (.run [bt] (fun γ=>Gb (dT γ.2)) <|
  .bd (c_0.Caps[k4]?) fun x11=>.bd (Gln x11) fun r13=>.bd (Uu ([v3,r13]:List Int)) fun r15=>.run (cs 4 [oN (.i k4),oN (.v [.str x11.Name,.str x11.System,jI x11.Days,jI x11.Cents]),rN [.any] (jI r13) [],oc,rN [.lst [jI v3,jI r13] 2] (jI r15) [],oc]) (fun γ=>k2 (ir γ.1.1.2) (k2 (GD (f:=G9.enc) (z:=3) (fun _=>rfl) γ.1.1.2) (k2 (GX (f:=G9.enc) (z:=4) (j:=k4) (fun _=>rfl) γ.1.1.2 rfl) (k2 (GrC x11 r13 γ.1.2) (k2 (⟨rfl,rfl,nB rfl,nB rfl⟩:sub [jI v3,jI r13] 0 2=[jI v3,jI r13]∧2=2∧0+2≤List.length ([jI v3,jI r13]:List AV)∧2≤2) (k2 (trivial:Yk []) (Gb (RR ([v3,r13]:List Int) r15 γ.2)))))))) <|
  .gd (GS .i64 ((↑k4:Int)+1)) <| .run [oc,ow,oc] (fun γ=>Gb γ.2) <|
  .leaf (.inl (r15,(k4+1))) [0])
  (.run [bf] (fun γ=>Gb (dF γ.2)) <|
  .leaf (.inr v3) [0])
def KI (c_0:Gh):(Int×Nat)→Option ((Int×Nat)⊕Int):=fun s=>(YE c_0 s).den
def GjE (c_0:Gh):(Int×Nat)→PS:=fun s=>(155,[(1,.ptr 0 0),(3,jI s.1),(4,jI (↑s.2:Int))],[(bT (Gh.enc c_0) 46)])
def GjF:Int→Hm:=fun o=>(.exit 0)
def GdP (c_0:Gh):Int→List (Nat×AV):=fun o=>[(1,.ptr 0 0),(3,jI o)]
def GjD (c_0:Gh):Int→List Hb:=fun o=>[(bT (Gh.enc c_0) 46)]
theorem Gmy (c_0:Gh) {s:(Int×Nat)} {r:Int} (h:lp (KI c_0) s=some r):DT 1 (.loop (GK Tryz.prog 9 [1,1,0,1,0,0])) (GjE c_0 s).st (GjF r) (PS.st (155,GdP c_0 r,GjD c_0 r)):=
 GN.lp_ht 1 400 (GjE c_0) GjF (fun q=>(155,GdP c_0 q,GjD c_0 q)) (YE c_0) (by rintro ⟨v3,k4⟩; kernel_rfl) h
def Xh (c_0:Gh) (o1:Int):(Int×Nat)→HT ((Int×Nat)⊕Int) True
 | (v5,k6)=>.run (cs 4 [oa]) (fun _=>Hg) <|
  .sp ((↑k6:Int)<(↑c_0.Permits.length:Int))
  (.run [bt] (fun γ=>Gb (dT γ.2)) <|
  .bd (c_0.Permits[k6]?) fun x28=>.bd (Gls x28 c_0.Zones) fun r30=>.bd (Uu ([v5,r30]:List Int)) fun r32=>.run (cs 4 ((oN (.i k6))::(oN (.v [.str x28.Name,.str x28.Zone,.lst (fl JB x28.Plates) x28.Plates.length,jI x28.Valid.From,jI x28.Valid.To,.lst (fl Gl.enc x28.Hours) x28.Hours.length,jI x28.Most]))::(cs 2 [rN [.any,.any] (jI r30) [],oc,rN [.lst [jI v5,jI r30] 2] (jI r32) [],oc]))) (fun γ=>k2 (ir γ.1.1.2) (k2 (GD (f:=Gw.enc) (z:=6) (fun _=>rfl) γ.1.1.2) (k2 (GX (f:=Gw.enc) (z:=7) (j:=k6) (fun _=>rfl) γ.1.1.2 rfl) (k2 (GrE x28 c_0.Zones r30 γ.1.2) (k2 (⟨rfl,rfl,nB rfl,nB rfl⟩:sub [jI v5,jI r30] 0 2=[jI v5,jI r30]∧2=2∧0+2≤List.length ([jI v5,jI r30]:List AV)∧2≤2) (k2 (trivial:Yk []) (k2 (RR ([v5,r30]:List Int) r32 γ.2) (Gb (⟨rfl,trivial⟩:(some (Ob.blk (bT [jI v5,jI r30] 3))=some (Ob.blk (bT [jI v5,jI r30] 3)))∧True))))))))) <|
  .gd (GS .i64 ((↑k6:Int)+1)) <| .run [oc,ow,oc] (fun γ=>Gb γ.2) <|
  .leaf (.inl (r32,(k6+1))) [0])
  (.run [bf] (fun γ=>Gb (dF γ.2)) <|
  .leaf (.inr v5) [0])
def Kj (c_0:Gh) (o1:Int):(Int×Nat)→Option ((Int×Nat)⊕Int):=fun s=>(Xh c_0 o1 s).den
def GhC (c_0:Gh) (o1:Int):(Int×Nat)→PS:=fun s=>(155,[(1,.ptr 0 0),(3,jI o1),(5,jI s.1),(6,jI (↑s.2:Int))],[(bT (Gh.enc c_0) 46)])
def GhD:Int→Hm:=fun o=>(.exit 2)
def Gbf (c_0:Gh) (o1:Int):Int→List (Nat×AV):=fun o=>[(1,.ptr 0 0),(3,jI o1),(5,jI o)]
def GhB (c_0:Gh) (o1:Int):Int→List Hb:=fun o=>[(bT (Gh.enc c_0) 46)]
theorem Glv (c_0:Gh) (o1:Int) {s:(Int×Nat)} {r:Int} (h:lp (Kj c_0 o1) s=some r):DT 1 (.loop (GK Tryz.prog 9 [1,1,1,1,0,1,0,0])) (GhC c_0 o1 s).st (GhD r) (PS.st (155,Gbf c_0 o1 r,GhB c_0 o1 r)):=
 GN.lp_ht 1 400 (GhC c_0 o1) GhD (fun q=>(155,Gbf c_0 o1 q,GhB c_0 o1 q)) (Xh c_0 o1) (by rintro ⟨v5,k6⟩; kernel_rfl) h
def Rr (c_0:Gh) (o1:Int) (o18:Int):(Bool×Nat)→HT ((Bool×Nat)⊕Bool) True
 | (v7,k8)=>.run (cs 4 [oa]) (fun _=>Hg) <|
  .sp ((↑k8:Int)<(↑c_0.Holidays.length:Int))
  (.run [bt] (fun γ=>Gb (dT γ.2)) <|
  .sp (v7=true)
  (.run (cs 2 [tc,tc,tc,tc,tc,tc,tc,tc,tc,tc,tc,tc,oN (.b true),oc]) (fun γ=>k2 γ.2 (k2 γ.2 (k2 γ.2 (k2 γ.2 (k2 γ.2 (k2 γ.2 (k2 γ.2 (k2 γ.2 (k2 γ.2 (k2 γ.2 (k2 γ.2 (k2 γ.2 (Gb γ.2))))))))))))) <|
  .gd (GS .i64 ((↑k8:Int)+1)) <| .run [oc,ow,oc] (fun γ=>Gb γ.2) <|
  .leaf (.inl (true,(k8+1))) [0])
  (.bd (c_0.Holidays[k8]?) fun x49=>.gd (GS .i64 ((↑k8:Int) - 1)) <| .gd ((0:Int)≤((↑k8:Int) - 1)) <| .bd (c_0.Holidays[(Int.toNat ((↑k8:Int) - 1))]?) fun x53=>.run (cs 2 [oF,oF,oF,.op (some false) (.i k8),.op (some false) (.v [jI x49]),oF,oF,oF,.op (some false) .w,.op (some false) (.i (Int.toNat ((↑k8:Int) - 1))),.op (some false) (.v [jI x53]),oG,oN (.b false),oc]) (fun γ=>k2 ((Ja (HW γ)):v7=false) (k2 ((Ja (HW γ)):v7=false) (k2 ((Ja (HW γ)):v7=false) (k2 ((Ja (HW γ)):v7=false) (k2 (ir (G0 γ)) (k2 (GD (f:=GU) (z:=0) (fun _=>rfl) (G0 γ)) (k2 ((Ja (HW γ)):v7=false) (k2 (H3 (G0 γ)) (k2 ((Ja (HW γ)):v7=false) (k2 ((Ja (HW γ)):v7=false) (k2 ((Ja (HW γ)):v7=false) (k2 ((Ja (HW γ)):v7=false) (k2 γ.1.1.2 (k2 ((Ja (HW γ)):v7=false) (k2 (ix γ.1.2 γ.2) (k2 (GD (f:=GU) (z:=0) (fun _=>rfl) γ.2) (k2 ((Ja (HW γ)):v7=false) (k2 (H3 γ.2) (k2 ((Ja (HW γ)):v7=false) (Gb ((Ja (HW γ)):v7=false))))))))))))))))))))) <|
  .gd (GS .i64 ((↑k8:Int)+1)) <| .run [oc,ow,oc] (fun γ=>Gb γ.2) <|
  .leaf (.inl ((decide (x49≤x53)),(k8+1))) [0]))
  (.run [bf] (fun γ=>Gb (dF γ.2)) <|
  .leaf (.inr v7) [0])
def Jt (c_0:Gh) (o1:Int) (o18:Int):(Bool×Nat)→Option ((Bool×Nat)⊕Bool):=fun s=>(Rr c_0 o1 o18 s).den
def GhF (c_0:Gh) (o1:Int) (o18:Int):(Bool×Nat)→PS:=fun s=>(155,[(1,.ptr 0 0),(3,jI o1),(5,jI o18),(7,.bool s.1),(8,jI (↑s.2:Int))],[(bT (Gh.enc c_0) 46)])
def GhG:Bool→Hm:=fun o=>(.exit 4)
def Gbg (c_0:Gh) (o1:Int) (o18:Int):Bool→List (Nat×AV):=fun o=>[(1,.ptr 0 0),(3,jI o1),(5,jI o18),(7,.bool o)]
def GhE (c_0:Gh) (o1:Int) (o18:Int):Bool→List Hb:=fun o=>[(bT (Gh.enc c_0) 46)]
theorem Glw (c_0:Gh) (o1:Int) (o18:Int) {s:(Bool×Nat)} {r:Bool} (h:lp (Jt c_0 o1 o18) s=some r):DT 1 (.loop (GK Tryz.prog 9 [1,1,1,1,1,1,0,1,0,0])) (GhF c_0 o1 o18 s).st (GhG r) (PS.st (155,Gbg c_0 o1 o18 r,GhE c_0 o1 o18 r)):=
 GN.lp_ht 1 400 (GhF c_0 o1 o18) GhG (fun q=>(155,Gbg c_0 o1 o18 q,GhE c_0 o1 o18 q)) (Rr c_0 o1 o18) (by rintro ⟨v7,k8⟩; kernel_rfl) h
def Gks (c_0:Gh):HT Int True:=.run (cs 4 []) (fun _=>Hg) <|
  .bd (lp (KI c_0) ((0:Int),(0:Nat))) fun o1=>.run ((.fcut 1 (.exit 0) (GdP c_0 o1) [(bT (Gh.enc c_0) 46)] [0] [(1,.any),(3,jI (0:Int)),(4,jI (↑(0:Nat):Int))] [bS])::(cs 2 [])) (fun γ=>k2 (rfl:(jI 0:AV)=jI (0:Int)) (k2 (rfl:(jI 0:AV)=jI (↑(0:Nat):Int)) (Gb (Gmy c_0 (s:=((0:Int),(0:Nat))) (r:=o1) γ.2)))) <|
  .bd (lp (Kj c_0 o1) ((0:Int),(0:Nat))) fun o18=>.run ((.fcut 1 (.exit 2) (Gbf c_0 o1 o18) [(bT (Gh.enc c_0) 46)] [0] [(1,.any),(3,.any),(5,jI (0:Int)),(6,jI (↑(0:Nat):Int))] [bS])::(cs 2 [])) (fun γ=>k2 (rfl:(jI 0:AV)=jI (0:Int)) (k2 (rfl:(jI 0:AV)=jI (↑(0:Nat):Int)) (Gb (Glv c_0 o1 (s:=((0:Int),(0:Nat))) (r:=o18) γ.2)))) <|
  .bd (lp (Jt c_0 o1 o18) (false,(1:Nat))) fun o35=>.run [.fcut 1 (.exit 4) (Gbg c_0 o1 o18 o35) [(bT (Gh.enc c_0) 46)] [0] [(1,.any),(3,.any),(5,.any),(7,.any),(8,jI (↑(1:Nat):Int))] [bS]] (fun γ=>k2 (rfl:(jI 1:AV)=jI (↑(1:Nat):Int)) (Gb (Glw c_0 o1 o18 (s:=(false,(1:Nat))) (r:=o35) γ.2))) <|
  .bd (GgW c_0.Top) fun r56=>.bd (Ggy c_0.Devices c_0.Top.Net) fun r58=>.bd (GgS c_0.Classes) fun r60=>.bd (Gcv c_0.Tags) fun r62=>.sp (c_0.Gap<(0:Int))
  (.bd (Hw true 12) fun r65=>.sp (c_0.Weak<(0:Int))
  (.bd (Hw true 1) fun r68=>.bd (Ro c_0.Tariffs c_0.Top) fun r70=>.bd (Ga3 c_0.Scale) fun r72=>.bd (Hw (decide ((↑c_0.Discounts.length:Int)>(12:Int))) 3) fun r74=>.bd (Rp c_0.Discounts) fun r76=>.bd (Hw (decide ((↑c_0.Caps.length:Int)>(12:Int))) 3) fun r78=>.bd (Rq c_0.Zones) fun r80=>.bd (Hw (decide ((↑c_0.Permits.length:Int)>(1024:Int))) 3) fun r82=>.bd (M2 c_0.Accounts) fun r84=>.bd (Gbc c_0.Reliefs) fun r86=>.bd (Hw (decide ((↑c_0.Holidays.length:Int)>(1024:Int))) 3) fun r88=>.bd (Hw o35 15) fun r90=>.bd (Ga9 c_0.Law) fun r92=>.bd (Gba c_0.Keeping) fun r94=>.bd (M8 c_0.Agency) fun r96=>.bd (Hw (!r96) 6) fun r98=>.bd (Uu ([r56,r58,r60,r62,r65,r68,r70,r72,r74,r76,r78,o1,r80,r82,o18,r84,r86,r88,r90,r92,r94,r98]:List Int)) fun r100=>.run (cs 2 ((rN [.any] (jI r56) [])::(cs 5 ((rN [.any,.any] (jI r58) [])::(cs 2 ((rN [.any] (jI r60) [])::(cs 2 ((rN [.any] (jI r62) [])::(cs 2 (oa::oc::tc::tc::tc::(oN (.b true))::(rN [.any,.any] (jI r65) [])::(cs 2 (oa::oc::tc::tc::tc::(oN (.b true))::(rN [.any,.any] (jI r68) [])::(cs 4 ((rN [.any,.any] (jI r70) [])::(cs 2 ((rN [.any] (jI r72) [])::(cs 3 (oa::(rN [.any,.any] (jI r74) [])::(cs 2 ((rN [.any] (jI r76) [])::(cs 3 (oa::(rN [.any,.any] (jI r78) [])::(cs 3 ((rN [.any] (jI r80) [])::(cs 3 (oa::(rN [.any,.any] (jI r82) [])::(cs 3 ((rN [.any] (jI r84) [])::(cs 2 ((rN [.any] (jI r86) [])::(cs 3 (oa::(rN [.any,.any] (jI r88) [])::oc::(rN [.any,.any] (jI r90) [])::(cs 2 ((rN [.any] (jI r92) [])::(cs 2 ((rN [.any] (jI r94) [])::(cs 2 [rN [.any] (.bool r96) [],oc,rN [.any,.any] (jI r98) [],oc,rN [.lst [jI r56,jI r58,jI r60,jI r62,jI r65,jI r68,jI r70,jI r72,jI r74,jI r76,jI r78,jI o1,jI r80,jI r82,jI o18,jI r84,jI r86,jI r88,jI r90,jI r92,jI r94,jI r98] 22] (jI r100) [],oc]))))))))))))))))))))))))))))))))))))) (fun γ=>k2 (V3 c_0.Top r56 (GzD γ)) (k2 (Gaj c_0.Devices c_0.Top.Net r58 (GzC γ)) (k2 (Gal c_0.Classes r60 (GzB γ)) (k2 (UU c_0.Tags r62 (GzA γ)) (k2 (dT (Giy γ)) (k2 (dT (Giy γ)) (k2 (dT (Giy γ)) (k2 (dT (Giy γ)) (k2 (G3 true 12 r65 (Gzz γ)) (k2 (dT (Gix γ)) (k2 (dT (Gix γ)) (k2 (dT (Gix γ)) (k2 (dT (Gix γ)) (k2 (G3 true 1 r68 (Gzy γ)) (k2 (UV c_0.Tariffs c_0.Top r70 (Gzx γ)) (k2 (Gan c_0.Scale r72 (Gzw γ)) (k2 (G3 (decide ((↑c_0.Discounts.length:Int)>(12:Int))) 3 r74 (GyD γ)) (k2 (UW c_0.Discounts r76 (Gvp γ)) (k2 (G3 (decide ((↑c_0.Caps.length:Int)>(12:Int))) 3 r78 (Gxb γ)) (k2 (UX c_0.Zones r80 (Gm1 γ)) (k2 (G3 (decide ((↑c_0.Permits.length:Int)>(1024:Int))) 3 r82 (yA9 γ)) (k2 (UY c_0.Accounts r84 (yA8 γ)) (k2 (Gat c_0.Reliefs r86 (RB γ)) (k2 (G3 (decide ((↑c_0.Holidays.length:Int)>(1024:Int))) 3 r88 (yA6 γ)) (k2 (G3 o35 15 r90 (RA γ)) (k2 (Gar c_0.Law r92 (HW γ)) (k2 (Gas c_0.Keeping r94 (G0 γ)) (k2 (Jc c_0.Agency r96 γ.1.1.2) (k2 (G3 (!r96) 6 r98 γ.1.2) (k2 (⟨rfl,rfl,nB rfl,nB rfl⟩:sub [jI r56,jI r58,jI r60,jI r62,jI r65,jI r68,jI r70,jI r72,jI r74,jI r76,jI r78,jI o1,jI r80,jI r82,jI o18,jI r84,jI r86,jI r88,jI r90,jI r92,jI r94,jI r98] 0 22=[jI r56,jI r58,jI r60,jI r62,jI r65,jI r68,jI r70,jI r72,jI r74,jI r76,jI r78,jI o1,jI r80,jI r82,jI o18,jI r84,jI r86,jI r88,jI r90,jI r92,jI r94,jI r98]∧22=22∧0+22≤List.length ([jI r56,jI r58,jI r60,jI r62,jI r65,jI r68,jI r70,jI r72,jI r74,jI r76,jI r78,jI o1,jI r80,jI r82,jI o18,jI r84,jI r86,jI r88,jI r90,jI r92,jI r94,jI r98]:List AV)∧22≤22) (k2 (trivial:Yk []) (k2 (RR ([r56,r58,r60,r62,r65,r68,r70,r72,r74,r76,r78,o1,r80,r82,o18,r84,r86,r88,r90,r92,r94,r98]:List Int) r100 γ.2) (Gb (⟨rfl,trivial⟩:(some (Ob.blk (bT [jI r56,jI r58,jI r60,jI r62,jI r65,jI r68,jI r70,jI r72,jI r74,jI r76,jI r78,jI o1,jI r80,jI r82,jI o18,jI r84,jI r86,jI r88,jI r90,jI r92,jI r94,jI r98] 3))=some (Ob.blk (bT [jI r56,jI r58,jI r60,jI r62,jI r65,jI r68,jI r70,jI r72,jI r74,jI r76,jI r78,jI o1,jI r80,jI r82,jI o18,jI r84,jI r86,jI r88,jI r90,jI r92,jI r94,jI r98] 3)))∧True)))))))))))))))))))))))))))))))))) <|
  .leaf r100 [])
  (.bd (Hw (decide (c_0.Weak>(1000:Int))) 1) fun r102=>.bd (Ro c_0.Tariffs c_0.Top) fun r104=>.bd (Ga3 c_0.Scale) fun r106=>.bd (Hw (decide ((↑c_0.Discounts.length:Int)>(12:Int))) 3) fun r108=>.bd (Rp c_0.Discounts) fun r110=>.bd (Hw (decide ((↑c_0.Caps.length:Int)>(12:Int))) 3) fun r112=>.bd (Rq c_0.Zones) fun r114=>.bd (Hw (decide ((↑c_0.Permits.length:Int)>(1024:Int))) 3) fun r116=>.bd (M2 c_0.Accounts) fun r118=>.bd (Gbc c_0.Reliefs) fun r120=>.bd (Hw (decide ((↑c_0.Holidays.length:Int)>(1024:Int))) 3) fun r122=>.bd (Hw o35 15) fun r124=>.bd (Ga9 c_0.Law) fun r126=>.bd (Gba c_0.Keeping) fun r128=>.bd (M8 c_0.Agency) fun r130=>.bd (Hw (!r130) 6) fun r132=>.bd (Uu ([r56,r58,r60,r62,r65,r102,r104,r106,r108,r110,r112,o1,r114,r116,o18,r118,r120,r122,r124,r126,r128,r132]:List Int)) fun r134=>.run (cs 2 ((rN [.any] (jI r56) [])::(cs 5 ((rN [.any,.any] (jI r58) [])::(cs 2 ((rN [.any] (jI r60) [])::(cs 2 ((rN [.any] (jI r62) [])::(cs 2 (oa::oc::tc::tc::tc::(oN (.b true))::(rN [.any,.any] (jI r65) [])::(cs 2 (oa::oc::oF::oF::oG::(oN (.b false))::(rN [.any,.any] (jI r102) [])::(cs 4 ((rN [.any,.any] (jI r104) [])::(cs 2 ((rN [.any] (jI r106) [])::(cs 3 (oa::(rN [.any,.any] (jI r108) [])::(cs 2 ((rN [.any] (jI r110) [])::(cs 3 (oa::(rN [.any,.any] (jI r112) [])::(cs 3 ((rN [.any] (jI r114) [])::(cs 3 (oa::(rN [.any,.any] (jI r116) [])::(cs 3 ((rN [.any] (jI r118) [])::(cs 2 ((rN [.any] (jI r120) [])::(cs 3 (oa::(rN [.any,.any] (jI r122) [])::oc::(rN [.any,.any] (jI r124) [])::(cs 2 ((rN [.any] (jI r126) [])::(cs 2 ((rN [.any] (jI r128) [])::(cs 2 [rN [.any] (.bool r130) [],oc,rN [.any,.any] (jI r132) [],oc,rN [.lst [jI r56,jI r58,jI r60,jI r62,jI r65,jI r102,jI r104,jI r106,jI r108,jI r110,jI r112,jI o1,jI r114,jI r116,jI o18,jI r118,jI r120,jI r122,jI r124,jI r126,jI r128,jI r132] 22] (jI r134) [],oc]))))))))))))))))))))))))))))))))))))) (fun γ=>k2 (V3 c_0.Top r56 (GzD γ)) (k2 (Gaj c_0.Devices c_0.Top.Net r58 (GzC γ)) (k2 (Gal c_0.Classes r60 (GzB γ)) (k2 (UU c_0.Tags r62 (GzA γ)) (k2 (dT (Giy γ)) (k2 (dT (Giy γ)) (k2 (dT (Giy γ)) (k2 (dT (Giy γ)) (k2 (G3 true 12 r65 (Gzz γ)) (k2 (dF (Gix γ)) (k2 (dF (Gix γ)) (k2 (dF (Gix γ)) (k2 (dF (Gix γ)) (k2 (G3 (decide (c_0.Weak>(1000:Int))) 1 r102 (Gzy γ)) (k2 (UV c_0.Tariffs c_0.Top r104 (Gzx γ)) (k2 (Gan c_0.Scale r106 (Gzw γ)) (k2 (G3 (decide ((↑c_0.Discounts.length:Int)>(12:Int))) 3 r108 (GyD γ)) (k2 (UW c_0.Discounts r110 (Gvp γ)) (k2 (G3 (decide ((↑c_0.Caps.length:Int)>(12:Int))) 3 r112 (Gxb γ)) (k2 (UX c_0.Zones r114 (Gm1 γ)) (k2 (G3 (decide ((↑c_0.Permits.length:Int)>(1024:Int))) 3 r116 (yA9 γ)) (k2 (UY c_0.Accounts r118 (yA8 γ)) (k2 (Gat c_0.Reliefs r120 (RB γ)) (k2 (G3 (decide ((↑c_0.Holidays.length:Int)>(1024:Int))) 3 r122 (yA6 γ)) (k2 (G3 o35 15 r124 (RA γ)) (k2 (Gar c_0.Law r126 (HW γ)) (k2 (Gas c_0.Keeping r128 (G0 γ)) (k2 (Jc c_0.Agency r130 γ.1.1.2) (k2 (G3 (!r130) 6 r132 γ.1.2) (k2 (⟨rfl,rfl,nB rfl,nB rfl⟩:sub [jI r56,jI r58,jI r60,jI r62,jI r65,jI r102,jI r104,jI r106,jI r108,jI r110,jI r112,jI o1,jI r114,jI r116,jI o18,jI r118,jI r120,jI r122,jI r124,jI r126,jI r128,jI r132] 0 22=[jI r56,jI r58,jI r60,jI r62,jI r65,jI r102,jI r104,jI r106,jI r108,jI r110,jI r112,jI o1,jI r114,jI r116,jI o18,jI r118,jI r120,jI r122,jI r124,jI r126,jI r128,jI r132]∧22=22∧0+22≤List.length ([jI r56,jI r58,jI r60,jI r62,jI r65,jI r102,jI r104,jI r106,jI r108,jI r110,jI r112,jI o1,jI r114,jI r116,jI o18,jI r118,jI r120,jI r122,jI r124,jI r126,jI r128,jI r132]:List AV)∧22≤22) (k2 (trivial:Yk []) (k2 (RR ([r56,r58,r60,r62,r65,r102,r104,r106,r108,r110,r112,o1,r114,r116,o18,r118,r120,r122,r124,r126,r128,r132]:List Int) r134 γ.2) (Gb (⟨rfl,trivial⟩:(some (Ob.blk (bT [jI r56,jI r58,jI r60,jI r62,jI r65,jI r102,jI r104,jI r106,jI r108,jI r110,jI r112,jI o1,jI r114,jI r116,jI o18,jI r118,jI r120,jI r122,jI r124,jI r126,jI r128,jI r132] 3))=some (Ob.blk (bT [jI r56,jI r58,jI r60,jI r62,jI r65,jI r102,jI r104,jI r106,jI r108,jI r110,jI r112,jI o1,jI r114,jI r116,jI o18,jI r118,jI r120,jI r122,jI r124,jI r126,jI r128,jI r132] 3)))∧True)))))))))))))))))))))))))))))))))) <|
  .leaf r134 []))
  (.bd (Hw (decide (c_0.Gap>(3600:Int))) 12) fun r136=>.sp (c_0.Weak<(0:Int))
  (.bd (Hw true 1) fun r139=>.bd (Ro c_0.Tariffs c_0.Top) fun r141=>.bd (Ga3 c_0.Scale) fun r143=>.bd (Hw (decide ((↑c_0.Discounts.length:Int)>(12:Int))) 3) fun r145=>.bd (Rp c_0.Discounts) fun r147=>.bd (Hw (decide ((↑c_0.Caps.length:Int)>(12:Int))) 3) fun r149=>.bd (Rq c_0.Zones) fun r151=>.bd (Hw (decide ((↑c_0.Permits.length:Int)>(1024:Int))) 3) fun r153=>.bd (M2 c_0.Accounts) fun r155=>.bd (Gbc c_0.Reliefs) fun r157=>.bd (Hw (decide ((↑c_0.Holidays.length:Int)>(1024:Int))) 3) fun r159=>.bd (Hw o35 15) fun r161=>.bd (Ga9 c_0.Law) fun r163=>.bd (Gba c_0.Keeping) fun r165=>.bd (M8 c_0.Agency) fun r167=>.bd (Hw (!r167) 6) fun r169=>.bd (Uu ([r56,r58,r60,r62,r136,r139,r141,r143,r145,r147,r149,o1,r151,r153,o18,r155,r157,r159,r161,r163,r165,r169]:List Int)) fun r171=>.run (cs 2 ((rN [.any] (jI r56) [])::(cs 5 ((rN [.any,.any] (jI r58) [])::(cs 2 ((rN [.any] (jI r60) [])::(cs 2 ((rN [.any] (jI r62) [])::(cs 2 (oa::oc::oF::oF::oG::(oN (.b false))::(rN [.any,.any] (jI r136) [])::(cs 2 (oa::oc::tc::tc::tc::(oN (.b true))::(rN [.any,.any] (jI r139) [])::(cs 4 ((rN [.any,.any] (jI r141) [])::(cs 2 ((rN [.any] (jI r143) [])::(cs 3 (oa::(rN [.any,.any] (jI r145) [])::(cs 2 ((rN [.any] (jI r147) [])::(cs 3 (oa::(rN [.any,.any] (jI r149) [])::(cs 3 ((rN [.any] (jI r151) [])::(cs 3 (oa::(rN [.any,.any] (jI r153) [])::(cs 3 ((rN [.any] (jI r155) [])::(cs 2 ((rN [.any] (jI r157) [])::(cs 3 (oa::(rN [.any,.any] (jI r159) [])::oc::(rN [.any,.any] (jI r161) [])::(cs 2 ((rN [.any] (jI r163) [])::(cs 2 ((rN [.any] (jI r165) [])::(cs 2 [rN [.any] (.bool r167) [],oc,rN [.any,.any] (jI r169) [],oc,rN [.lst [jI r56,jI r58,jI r60,jI r62,jI r136,jI r139,jI r141,jI r143,jI r145,jI r147,jI r149,jI o1,jI r151,jI r153,jI o18,jI r155,jI r157,jI r159,jI r161,jI r163,jI r165,jI r169] 22] (jI r171) [],oc]))))))))))))))))))))))))))))))))))))) (fun γ=>k2 (V3 c_0.Top r56 (GzD γ)) (k2 (Gaj c_0.Devices c_0.Top.Net r58 (GzC γ)) (k2 (Gal c_0.Classes r60 (GzB γ)) (k2 (UU c_0.Tags r62 (GzA γ)) (k2 (dF (Giy γ)) (k2 (dF (Giy γ)) (k2 (dF (Giy γ)) (k2 (dF (Giy γ)) (k2 (G3 (decide (c_0.Gap>(3600:Int))) 12 r136 (Gzz γ)) (k2 (dT (Gix γ)) (k2 (dT (Gix γ)) (k2 (dT (Gix γ)) (k2 (dT (Gix γ)) (k2 (G3 true 1 r139 (Gzy γ)) (k2 (UV c_0.Tariffs c_0.Top r141 (Gzx γ)) (k2 (Gan c_0.Scale r143 (Gzw γ)) (k2 (G3 (decide ((↑c_0.Discounts.length:Int)>(12:Int))) 3 r145 (GyD γ)) (k2 (UW c_0.Discounts r147 (Gvp γ)) (k2 (G3 (decide ((↑c_0.Caps.length:Int)>(12:Int))) 3 r149 (Gxb γ)) (k2 (UX c_0.Zones r151 (Gm1 γ)) (k2 (G3 (decide ((↑c_0.Permits.length:Int)>(1024:Int))) 3 r153 (yA9 γ)) (k2 (UY c_0.Accounts r155 (yA8 γ)) (k2 (Gat c_0.Reliefs r157 (RB γ)) (k2 (G3 (decide ((↑c_0.Holidays.length:Int)>(1024:Int))) 3 r159 (yA6 γ)) (k2 (G3 o35 15 r161 (RA γ)) (k2 (Gar c_0.Law r163 (HW γ)) (k2 (Gas c_0.Keeping r165 (G0 γ)) (k2 (Jc c_0.Agency r167 γ.1.1.2) (k2 (G3 (!r167) 6 r169 γ.1.2) (k2 (⟨rfl,rfl,nB rfl,nB rfl⟩:sub [jI r56,jI r58,jI r60,jI r62,jI r136,jI r139,jI r141,jI r143,jI r145,jI r147,jI r149,jI o1,jI r151,jI r153,jI o18,jI r155,jI r157,jI r159,jI r161,jI r163,jI r165,jI r169] 0 22=[jI r56,jI r58,jI r60,jI r62,jI r136,jI r139,jI r141,jI r143,jI r145,jI r147,jI r149,jI o1,jI r151,jI r153,jI o18,jI r155,jI r157,jI r159,jI r161,jI r163,jI r165,jI r169]∧22=22∧0+22≤List.length ([jI r56,jI r58,jI r60,jI r62,jI r136,jI r139,jI r141,jI r143,jI r145,jI r147,jI r149,jI o1,jI r151,jI r153,jI o18,jI r155,jI r157,jI r159,jI r161,jI r163,jI r165,jI r169]:List AV)∧22≤22) (k2 (trivial:Yk []) (k2 (RR ([r56,r58,r60,r62,r136,r139,r141,r143,r145,r147,r149,o1,r151,r153,o18,r155,r157,r159,r161,r163,r165,r169]:List Int) r171 γ.2) (Gb (⟨rfl,trivial⟩:(some (Ob.blk (bT [jI r56,jI r58,jI r60,jI r62,jI r136,jI r139,jI r141,jI r143,jI r145,jI r147,jI r149,jI o1,jI r151,jI r153,jI o18,jI r155,jI r157,jI r159,jI r161,jI r163,jI r165,jI r169] 3))=some (Ob.blk (bT [jI r56,jI r58,jI r60,jI r62,jI r136,jI r139,jI r141,jI r143,jI r145,jI r147,jI r149,jI o1,jI r151,jI r153,jI o18,jI r155,jI r157,jI r159,jI r161,jI r163,jI r165,jI r169] 3)))∧True)))))))))))))))))))))))))))))))))) <|
  .leaf r171 [])
  (.bd (Hw (decide (c_0.Weak>(1000:Int))) 1) fun r173=>.bd (Ro c_0.Tariffs c_0.Top) fun r175=>.bd (Ga3 c_0.Scale) fun r177=>.bd (Hw (decide ((↑c_0.Discounts.length:Int)>(12:Int))) 3) fun r179=>.bd (Rp c_0.Discounts) fun r181=>.bd (Hw (decide ((↑c_0.Caps.length:Int)>(12:Int))) 3) fun r183=>.bd (Rq c_0.Zones) fun r185=>.bd (Hw (decide ((↑c_0.Permits.length:Int)>(1024:Int))) 3) fun r187=>.bd (M2 c_0.Accounts) fun r189=>.bd (Gbc c_0.Reliefs) fun r191=>.bd (Hw (decide ((↑c_0.Holidays.length:Int)>(1024:Int))) 3) fun r193=>.bd (Hw o35 15) fun r195=>.bd (Ga9 c_0.Law) fun r197=>.bd (Gba c_0.Keeping) fun r199=>.bd (M8 c_0.Agency) fun r201=>.bd (Hw (!r201) 6) fun r203=>.bd (Uu ([r56,r58,r60,r62,r136,r173,r175,r177,r179,r181,r183,o1,r185,r187,o18,r189,r191,r193,r195,r197,r199,r203]:List Int)) fun r205=>.run (cs 2 ((rN [.any] (jI r56) [])::(cs 5 ((rN [.any,.any] (jI r58) [])::(cs 2 ((rN [.any] (jI r60) [])::(cs 2 ((rN [.any] (jI r62) [])::(cs 2 (oa::oc::oF::oF::oG::(oN (.b false))::(rN [.any,.any] (jI r136) [])::(cs 2 (oa::oc::oF::oF::oG::(oN (.b false))::(rN [.any,.any] (jI r173) [])::(cs 4 ((rN [.any,.any] (jI r175) [])::(cs 2 ((rN [.any] (jI r177) [])::(cs 3 (oa::(rN [.any,.any] (jI r179) [])::(cs 2 ((rN [.any] (jI r181) [])::(cs 3 (oa::(rN [.any,.any] (jI r183) [])::(cs 3 ((rN [.any] (jI r185) [])::(cs 3 (oa::(rN [.any,.any] (jI r187) [])::(cs 3 ((rN [.any] (jI r189) [])::(cs 2 ((rN [.any] (jI r191) [])::(cs 3 (oa::(rN [.any,.any] (jI r193) [])::oc::(rN [.any,.any] (jI r195) [])::(cs 2 ((rN [.any] (jI r197) [])::(cs 2 ((rN [.any] (jI r199) [])::(cs 2 [rN [.any] (.bool r201) [],oc,rN [.any,.any] (jI r203) [],oc,rN [.lst [jI r56,jI r58,jI r60,jI r62,jI r136,jI r173,jI r175,jI r177,jI r179,jI r181,jI r183,jI o1,jI r185,jI r187,jI o18,jI r189,jI r191,jI r193,jI r195,jI r197,jI r199,jI r203] 22] (jI r205) [],oc]))))))))))))))))))))))))))))))))))))) (fun γ=>k2 (V3 c_0.Top r56 (GzD γ)) (k2 (Gaj c_0.Devices c_0.Top.Net r58 (GzC γ)) (k2 (Gal c_0.Classes r60 (GzB γ)) (k2 (UU c_0.Tags r62 (GzA γ)) (k2 (dF (Giy γ)) (k2 (dF (Giy γ)) (k2 (dF (Giy γ)) (k2 (dF (Giy γ)) (k2 (G3 (decide (c_0.Gap>(3600:Int))) 12 r136 (Gzz γ)) (k2 (dF (Gix γ)) (k2 (dF (Gix γ)) (k2 (dF (Gix γ)) (k2 (dF (Gix γ)) (k2 (G3 (decide (c_0.Weak>(1000:Int))) 1 r173 (Gzy γ)) (k2 (UV c_0.Tariffs c_0.Top r175 (Gzx γ)) (k2 (Gan c_0.Scale r177 (Gzw γ)) (k2 (G3 (decide ((↑c_0.Discounts.length:Int)>(12:Int))) 3 r179 (GyD γ)) (k2 (UW c_0.Discounts r181 (Gvp γ)) (k2 (G3 (decide ((↑c_0.Caps.length:Int)>(12:Int))) 3 r183 (Gxb γ)) (k2 (UX c_0.Zones r185 (Gm1 γ)) (k2 (G3 (decide ((↑c_0.Permits.length:Int)>(1024:Int))) 3 r187 (yA9 γ)) (k2 (UY c_0.Accounts r189 (yA8 γ)) (k2 (Gat c_0.Reliefs r191 (RB γ)) (k2 (G3 (decide ((↑c_0.Holidays.length:Int)>(1024:Int))) 3 r193 (yA6 γ)) (k2 (G3 o35 15 r195 (RA γ)) (k2 (Gar c_0.Law r197 (HW γ)) (k2 (Gas c_0.Keeping r199 (G0 γ)) (k2 (Jc c_0.Agency r201 γ.1.1.2) (k2 (G3 (!r201) 6 r203 γ.1.2) (k2 (⟨rfl,rfl,nB rfl,nB rfl⟩:sub [jI r56,jI r58,jI r60,jI r62,jI r136,jI r173,jI r175,jI r177,jI r179,jI r181,jI r183,jI o1,jI r185,jI r187,jI o18,jI r189,jI r191,jI r193,jI r195,jI r197,jI r199,jI r203] 0 22=[jI r56,jI r58,jI r60,jI r62,jI r136,jI r173,jI r175,jI r177,jI r179,jI r181,jI r183,jI o1,jI r185,jI r187,jI o18,jI r189,jI r191,jI r193,jI r195,jI r197,jI r199,jI r203]∧22=22∧0+22≤List.length ([jI r56,jI r58,jI r60,jI r62,jI r136,jI r173,jI r175,jI r177,jI r179,jI r181,jI r183,jI o1,jI r185,jI r187,jI o18,jI r189,jI r191,jI r193,jI r195,jI r197,jI r199,jI r203]:List AV)∧22≤22) (k2 (trivial:Yk []) (k2 (RR ([r56,r58,r60,r62,r136,r173,r175,r177,r179,r181,r183,o1,r185,r187,o18,r189,r191,r193,r195,r197,r199,r203]:List Int) r205 γ.2) (Gb (⟨rfl,trivial⟩:(some (Ob.blk (bT [jI r56,jI r58,jI r60,jI r62,jI r136,jI r173,jI r175,jI r177,jI r179,jI r181,jI r183,jI o1,jI r185,jI r187,jI o18,jI r189,jI r191,jI r193,jI r195,jI r197,jI r199,jI r203] 3))=some (Ob.blk (bT [jI r56,jI r58,jI r60,jI r62,jI r136,jI r173,jI r175,jI r177,jI r179,jI r181,jI r183,jI o1,jI r185,jI r187,jI o18,jI r189,jI r191,jI r193,jI r195,jI r197,jI r199,jI r203] 3)))∧True)))))))))))))))))))))))))))))))))) <|
  .leaf r205 []))
def Gbe (c_0:Gh):Option Int:=(Gks c_0).den
theorem Gau (c_0:Gh) (r:Int) (h:Gbe c_0=some r):RT 9 [.agg (Gh.enc c_0)] (jI r) []:=
 HA.of_ht 400 (Gks c_0) (fun (r:Int)=>jI r) (fun (r:Int)=>[]) (by kernel_rfl) h
end
set_option maxHeartbeats 4000000
noncomputable section
def Mv:List Int→Int
 | []=>0
 | x::l=>if x=0 then Mv l else x
theorem GhI:Mv []=0:=rfl
theorem K2 (x:Int) (l:List Int):Mv (x::l)=if x=0 then Mv l else x:=rfl
theorem GbJ (l:List Int) (hl:Sm l):Uu l=some (Mv l):=by
 have key:lp (M0 l) 0=some (HQ (GJ (fun _ x=>if x=0 then none else some x) 0 l)):=by
  refine GP (fun k x hx=>?_) ?_
  ·obtain ⟨hk,i1,i2,hkl,h1,h2⟩:=rd hl hx
   simp only [M0,YF,dA,hx,Hd,i1,if_true,hkl]
   by_cases e:x=0 <;> simp only [e,if_true,if_false,K0]
  ·simp only [M0,YF,d3,d6,d1]
   rw [if_neg (by omega)]
 have gen:∀ (l:List Int) (k:Nat),(GJ (fun _ x=>if x=0 then none else some x) k l).getD 0=Mv l:=by
  intro l
  induction l with
  | nil=>intro k; rfl
  | cons x l ih=>
   intro k
   unfold GJ Mv
   by_cases e:x=0
   ·simp only [e,if_true,ih]
   ·simp only [e,if_false,Option.getD_some]
 simp only [Uu,Gkt,dA,key,Hd,← gen l 0]
 cases GJ (fun _ x=>if x=0 then none else some x) 0 l <;> rfl
theorem Gmm {α:Type} (g:α→Int):∀ (l:List α) (k:Nat),(GJ (fun _ x=>if g x=0 then none else some (g x)) k l).getD 0=Mv (l.map g)
 | [],k=>rfl
 | x::l,k=>by
  rw [List.map_cons,K2,← Gmm g l (k+1)]
  rw [GJ]
  by_cases e:g x=0
  ·simp only [e,if_true]
  ·simp only [e,if_false,Option.getD_some]
theorem GrR {α:Type} {l:List α} {step:Int×Nat→Option ((Int×Nat)⊕Int)} {g:α→Int} (hs:∀ v k x,l[k]?=some x→step (v,k)=some (.inl (Mv [v,g x],k+1))) (he:∀ v,step (v,l.length)=some (.inr v)):
  ∀ (m k:Nat) (v:Int),k+m=l.length→lp step (v,k)=some (Mv (v::(l.drop k).map g))
 | 0,k,v,h=>by
  obtain rfl:k=l.length:=by omega
  rw [Gbl (he v),List.drop_length,K2]
  by_cases e:v=0
  ·simp only [e,if_true]; rfl
  ·simp only [e,if_false]
 | m+1,k,v,h=>by
  have hlt:k<l.length:=by omega
  rw [GoW (hs v k l[k] (List.getElem?_eq_getElem hlt)),GrR hs he m (k+1) _ (by omega),List.drop_eq_getElem_cons hlt,List.map_cons]
  simp only [K2,GhI]
  by_cases e:v=0 <;> by_cases f:g l[k]=0 <;> simp only [e,f,if_true,if_false]
def GpN (l:List Int) (k:Nat) (x:Int):Option Unit:=if 0<k∧x≤((l[k - 1]?)).getD 0 then some () else none
def Guy (l:List Int):Bool:=(GJ (GpN l) 0 l).isSome
theorem Gmn {α ρ:Type} {g:Nat→α→Option ρ}:∀ {l:List α} {j k:Nat} {x:α},l[k]?=some x→GJ g j (l.take (k+1))=(GJ g j (l.take k)).or (g (j+k) x)
 | [],j,k,x,h=>by simp at h
 | y::l,j,0,x,h=>by
  simp only [List.getElem?_cons_zero,sJ] at h
  subst h
  simp only [List.take_succ_cons,List.take_zero,GJ,Option.none_or,Nat.add_zero]
  cases g j y <;> rfl
 | y::l,j,k+1,x,h=>by
  simp only [List.take_succ_cons,GJ]
  cases g j y with
  | some r=>rfl
  | none=>
   simp only
   rw [Gmn (by simpa using h),show j+1+k=j+(k+1) by omega]
theorem Gti (c:Gh) (hl:Sm c.Holidays):lp (Jf ⟨c⟩) 0=some (HQ (GJ (GpN c.Holidays) 0 c.Holidays)):=by
 refine GP (fun k x hx=>?_) ?_
 ·obtain ⟨hk,i1,i2,hkl,h1,h2⟩:=rd hl hx
  simp only [Jf,KT,dA,eN,eM,hx,Hd,h2,h1,i1,i2,if_true,hkl,GpN]
  clear i1 i2 hl
  grind [K0]
 ·simp only [Jf,KT,d3,d6,d1]
  rw [if_neg (by omega)]
theorem GrZ (c:Gh) (o1 o18:Int) (hl:Sm c.Holidays):lp (Jt c o1 o18) (false,1)=some (Guy c.Holidays):=by
 have gen:∀ (m k:Nat),k+m=c.Holidays.length→1≤k→lp (Jt c o1 o18) ((GJ (GpN c.Holidays) 0 (c.Holidays.take k)).isSome,k)=some (Guy c.Holidays):=by
  intro m
  induction m with
  | zero=>
   intro k hk h1
   obtain rfl:k=c.Holidays.length:=by omega
   rw [List.take_length]
   refine Gbl ?_
   simp only [Jt,Rr,d3,d6,d1]
   rw [if_neg (by omega)]; rfl
  | succ m ih=>
   intro k hk h1
   have hlt:k<c.Holidays.length:=by omega
   have hx:c.Holidays[k]?=some c.Holidays[k]:=List.getElem?_eq_getElem hlt
   obtain ⟨_,i1,i2,hkl,g1,g2⟩:=rd hl hx
   rw [← ih (k+1) (by omega) (by omega),Gmn hx]
   refine GoW ?_
   have h0:(0:Int)≤(k:Int) - 1:=by omega
   have hg:GpN c.Holidays (0+k) c.Holidays[k]=if c.Holidays[k]≤c.Holidays[k - 1]'(by omega) then some () else none:=by
    unfold GpN
    rw [Nat.zero_add,g1]
    by_cases e:c.Holidays[k]≤c.Holidays[k - 1]'(by omega)
    ·rw [if_pos e,if_pos ⟨by omega,e⟩]
    ·rw [if_neg e,if_neg (fun q=>e q.2)]
   simp only [Jt,Rr,dA,eN,eM,hx,Hd,g1,g2,i1,i2,if_true,hkl,h0,hg]
   clear i1 i2 ih hg
   cases GJ (GpN c.Holidays) 0 (c.Holidays.take k) with
   | some r=>rfl
   | none=>
    simp only [Option.isSome_none,Bool.false_eq_true,if_false,Option.none_or]
    by_cases e:c.Holidays[k]≤c.Holidays[k - 1]'(by omega)
    ·rw [if_pos e,dT e]; rfl
    ·rw [if_neg e,dF e]; rfl
 by_cases h:c.Holidays.length=0
 ·have:c.Holidays=[]:=List.length_eq_zero_iff.1 h
  rw [this]
  refine Gbl ?_
  simp only [Jt,Rr,d3,d6,d1,this]
  rw [if_neg (by simp)]; rfl
 ·have h0:(GJ (GpN c.Holidays) 0 (c.Holidays.take 1)).isSome=false:=by
   rw [Gmn (k:=0) (List.getElem?_eq_getElem (by omega))]
   simp [GJ,GpN]
  have:=gen (c.Holidays.length - 1) 1 (by omega) (by omega)
  rw [h0] at this
  exact this
def Gug (l:List Gj) (n:Gf):Int:=if l.length>1024 then 3 else (GJ (GpJ l n) 0 l).getD 0
def Guc (l:List Gk):Int:=if l.length>9 then 3 else (GJ (Grf l) 0 l).getD 0
def whE (b:Bool) (e:Int):Int:=if b then e else 0
def GpH (c:Gh):List Int:=
 [GkB c.Top,Gug c.Devices c.Top.Net,Guc c.Classes,Gr6 c.Tags,whE (decide (c.Gap<0∨c.Gap>3600)) 12,whE (decide (c.Weak<0∨c.Weak>1000)) 1,Gr8 c.Top c.Tariffs,GpU c.Scale,whE (decide (c.Discounts.length>12)) 3,Grh c.Discounts,
  whE (decide (c.Caps.length>12)) 3,Mv (c.Caps.map Gd3),Gpy c.Zones,whE (decide (c.Permits.length>1024)) 3,Mv (c.Permits.map fun p=>Gga p c.Zones),Gom c.Accounts,Gr1 c.Reliefs,whE (decide (c.Holidays.length>1024)) 3,whE (Guy c.Holidays) 15,
  GoS c.Law,GrP c.Keeping,whE (!HR c.Agency) 6]
structure Gsa (c:Gh):Prop where
 pts:Sm c.Top.Net.Points
 devs:∀ x ∈ c.Devices,Guh x
 classes:Sm c.Classes
 caps:Sm c.Caps
 zones:Sm c.Zones
 permits:Sm c.Permits
 plates:∀ p ∈ c.Permits,∀ x ∈ p.Plates,Ls x
 accs:∀ a ∈ c.Accounts,GpF a
 hols:Sm c.Holidays
theorem GpT (b:Bool) (e:Int):Hw b e=some (whE b e):=by
 simp only [Hw,Gmz,dA,whE]
 cases b <;> rfl
theorem GbI (c:Gh) (h:Gsa c):Gbe c=some (Mv (GpH c)):=by
 have k1:lp (KI c) (0,0)=some (Mv (c.Caps.map Gd3)):=by
  have:=GrR (l:=c.Caps) (step:=KI c) (g:=Gd3) (fun v k x hx=>?_) (fun v=>?_) c.Caps.length 0 0 (by omega)
  ·rw [List.drop_zero,K2,if_pos rfl] at this; exact this
  ·obtain ⟨hk,i1,i2,hkl,h1,h2⟩:=rd h.caps hx
   simp only [KI,YE,dA,eN,eM,hx,Hd,Gpj,GbJ [v,Gd3 x] (by show _≤_; simp),i1,if_true,hkl]
  ·simp only [KI,YE,d3,d6,d1]
   rw [if_neg (by omega)]
 have k2:lp (Kj c (Mv (c.Caps.map Gd3))) (0,0)=some (Mv (c.Permits.map fun p=>Gga p c.Zones)):=by
  have:=GrR (l:=c.Permits) (step:=Kj c (Mv (c.Caps.map Gd3))) (g:=fun p=>Gga p c.Zones) (fun v k x hx=>?_) (fun v=>?_) c.Permits.length 0 0 (by omega)
  ·rw [List.drop_zero,K2,if_pos rfl] at this; exact this
  ·obtain ⟨hk,i1,i2,hkl,h1,h2⟩:=rd h.permits hx
   simp only [Kj,Xh,dA,eN,eM,hx,Hd,Gpl x c.Zones h.zones (h.plates x (List.mem_of_getElem? hx)),GbJ [v,Gga x c.Zones] (by show _≤_; simp),i1,if_true,hkl]
  ·simp only [Kj,Xh,d3,d6,d1]
   rw [if_neg (by omega)]
 have k3:=GrZ c (Mv (c.Caps.map Gd3)) (Mv (c.Permits.map fun p=>Gga p c.Zones)) h.hols
 have e1:∀ l:List Int,l.length=22→Uu l=some (Mv l):=fun l hl=>GbJ l (by show _≤_; omega)
 have n1:decide (((c.Discounts.length:Nat):Int)>12)=decide (c.Discounts.length>12):=decide_eq_decide.2 (by omega)
 have n2:decide (((c.Caps.length:Nat):Int)>12)=decide (c.Caps.length>12):=decide_eq_decide.2 (by omega)
 have n3:decide (((c.Permits.length:Nat):Int)>1024)=decide (c.Permits.length>1024):=decide_eq_decide.2 (by omega)
 have n4:decide (((c.Holidays.length:Nat):Int)>1024)=decide (c.Holidays.length>1024):=decide_eq_decide.2 (by omega)
 have hdv:Ggy c.Devices c.Top.Net=some (Gug c.Devices c.Top.Net):=Go9 _ _ h.pts h.devs
 have hcl:GgS c.Classes=some (Guc c.Classes):=Gpa _ h.classes
 have hac:M2 c.Accounts=some (Gom c.Accounts):=GlT _ h.accs
 simp only [Gbe,Gks,dA,k1,k2,k3,GhR,hdv,hcl,hac,GlP,GlQ,Gpg,GlR,GlS,Gpr,Gpp,Gpq,Ms,GpT,n1,n2,n3,n4,Hd]
 unfold GpH
 by_cases g1:c.Gap<0 <;> by_cases g2:c.Weak<0
 all_goals
  simp only [g1,g2,if_true,if_false,true_or,false_or,decide_true]
  rw [e1 _ rfl]
  rfl
theorem Gyo (c:Gh) (h:Gsa c):QG ⟨c⟩=some (Mv [GkB c.Top,Gug c.Devices c.Top.Net,Guc c.Classes,Gr6 c.Tags,whE (decide (c.Gap<0∨c.Gap>3600)) 12,whE (decide (c.Weak<0∨c.Weak>1000)) 1]):=by
 have hdv:VI c.Devices c.Top.Net=some (Gug c.Devices c.Top.Net):=GnE _ _ h.pts h.devs
 have hcl:YQ c.Classes=some (Guc c.Classes):=Got _ h.classes
 simp only [QG,Ue,dA,Gdy,hdv,hcl,GnU,Hd,K2,GhI,whE,decide_eq_true_eq]
 generalize GkB c.Top=e1
 generalize Gug c.Devices c.Top.Net=e2
 generalize Guc c.Classes=e3
 generalize Gr6 c.Tags=e4
 clear hdv hcl h
 by_cases h1:e1=0 <;> simp only [h1,if_true,if_false]
 by_cases h2:e2=0 <;> simp only [h2,if_true,if_false]
 by_cases h3:e3=0 <;> simp only [h3,if_true,if_false]
 by_cases h4:e4=0 <;> simp only [h4,if_true,if_false]
 grind
theorem GwF (c:Gh) (h:Gsa c):M6 ⟨c⟩=some (Mv [Gr8 c.Top c.Tariffs,GpU c.Scale,whE (decide (c.Discounts.length>12)) 3,Grh c.Discounts,whE (decide (c.Caps.length>12)) 3,Mv (c.Caps.map Gd3)]):=by
 have key:lp (HK ⟨c⟩) 0=some (HQ (GJ (fun _ x=>if Gd3 x=0 then none else some (Gd3 x)) 0 c.Caps)):=by
  refine GP (fun k x hx=>?_) ?_
  ·obtain ⟨hk,i1,i2,hkl,h1,h2⟩:=rd h.caps hx
   simp only [HK,JU,dA,eN,eM,hx,Hd,Grc,i1,if_true,hkl]
   by_cases e:Gd3 x=0 <;> simp only [e,if_true,if_false,K0]
  ·simp only [HK,JU,d3,d6,d1]
   rw [if_neg (by omega)]
 simp only [M6,Re,dA,GkA,Gbs,Ggo,key,Hd,K2,GhI,whE,decide_eq_true_eq,← Gmm Gd3 c.Caps 0]
 generalize Gr8 c.Top c.Tariffs=e1
 generalize GpU c.Scale=e2
 generalize Grh c.Discounts=e3
 clear h key
 have n1:(((c.Discounts.length:Nat):Int)>12)=(c.Discounts.length>12):=propext (by omega)
 have n2:(((c.Caps.length:Nat):Int)>12)=(c.Caps.length>12):=propext (by omega)
 simp only [n1,n2]
 by_cases h1:e1=0 <;> simp only [h1,if_true,if_false]
 by_cases h2:e2=0 <;> simp only [h2,if_true,if_false]
 by_cases h3:c.Discounts.length>12
 ·simp only [h3,if_true]; rfl
 by_cases h4:e3=0 <;> simp only [h3,h4,if_true,if_false]
 by_cases h5:c.Caps.length>12
 ·simp only [h5,if_true]; rfl
 simp only [h5,if_false,if_true]
 cases GJ (fun _ x=>if Gd3 x=0 then none else some (Gd3 x)) 0 c.Caps with
 | none=>rfl
 | some r=>simp only [HQ,eN,Option.getD_some]; grind
theorem Gu1 (c:Gh) (h:Gsa c):Mw ⟨c⟩=some (Mv [Gpy c.Zones,whE (decide (c.Permits.length>1024)) 3,Mv (c.Permits.map fun p=>Gga p c.Zones)]):=by
 simp only [Mw,QB,dA,Gm2,Hd,K2,GhI,whE,decide_eq_true_eq,← Gmm (fun p=>Gga p c.Zones) c.Permits 0]
 by_cases h1:Gpy c.Zones=0
 rotate_left
 ·simp only [h1,if_false]
 obtain ⟨_,hz⟩:=Gvr h1
 have key:lp (HJ ⟨c⟩) 0=some (HQ (GJ (fun _ x=>if Gga x c.Zones=0 then none else some (Gga x c.Zones)) 0 c.Permits)):=by
  refine GP (fun k x hx=>?_) ?_
  ·obtain ⟨hk,i1,i2,hkl,h1,h2⟩:=rd h.permits hx
   simp only [HJ,JT,dA,eN,eM,hx,Hd,GnK x c.Zones h.zones hz (h.plates x (List.mem_of_getElem? hx)),i1,if_true,hkl]
   by_cases e:Gga x c.Zones=0 <;> simp only [e,if_true,if_false,K0]
  ·simp only [HJ,JT,d3,d6,d1]
   rw [if_neg (by omega)]
 have n1:(((c.Permits.length:Nat):Int)>1024)=(c.Permits.length>1024):=propext (by omega)
 simp only [h1,if_true,key,n1,Hd]
 clear h key h1 hz
 by_cases h5:c.Permits.length>1024
 ·simp only [h5,if_true]; rfl
 simp only [h5,if_false,if_true]
 cases GJ (fun _ x=>if Gga x c.Zones=0 then none else some (Gga x c.Zones)) 0 c.Permits with
 | none=>rfl
 | some r=>simp only [HQ,eN,Option.getD_some]; grind
theorem Gzo (c:Gh) (h:Gsa c):RC ⟨c⟩=some (Mv [Gom c.Accounts,Gr1 c.Reliefs,whE (decide (c.Holidays.length>1024)) 3,whE (Guy c.Holidays) 15,GoS c.Law,GrP c.Keeping,whE (!HR c.Agency) 6]):=by
 have hac:MF c.Accounts=some (Gom c.Accounts):=Git _ h.accs
 have n1:(((c.Holidays.length:Nat):Int)>1024)=(c.Holidays.length>1024):=propext (by omega)
 simp only [RC,U8,dA,hac,GnQ,Gti c h.hols,GnJ,GnR,JX,Hd,n1,K2,GhI,whE,decide_eq_true_eq,Guy]
 generalize Gom c.Accounts=e1
 generalize Gr1 c.Reliefs=e2
 generalize GoS c.Law=e3
 generalize GrP c.Keeping=e4
 clear hac h n1
 by_cases h1:e1=0 <;> simp only [h1,if_true,if_false]
 by_cases h2:e2=0 <;> simp only [h2,if_true,if_false]
 by_cases h3:c.Holidays.length>1024
 ·simp only [h3,if_true]; rfl
 by_cases hh:GJ (GpN c.Holidays) 0 c.Holidays=none
 rotate_left
 ·obtain ⟨r,hr⟩:=Option.ne_none_iff_exists'.1 hh
  simp only [hr,h3,HQ,eN,Option.isSome_some,if_true,if_false]; rfl
 ·simp only [hh,h3,HQ,eM,Option.isSome_none,Bool.false_eq_true,if_true,if_false]
  by_cases h4:e3=0 <;> simp only [h4,if_true,if_false]
  by_cases h5:e4=0 <;> simp only [h5,if_true,if_false]
  cases HR c.Agency <;> rfl
theorem GlB:∀ l m:List Int,Mv (l++m)=if Mv l=0 then Mv m else Mv l
 | [],m=>rfl
 | x::l,m=>by
  rw [List.cons_append,K2,K2,GlB l m]
  by_cases e:x=0 <;> simp only [e,if_true,if_false]
theorem Gor (c:Gh) (h:Gsa c):Gcj c=some (Mv (GpH c)):=by
 simp only [Gcj,GdB,dA,Gyo c h,GwF c h,Gu1 c h,Gzo c h,Hd]
 have hc:GpH c=[GkB c.Top,Gug c.Devices c.Top.Net,Guc c.Classes,Gr6 c.Tags,whE (decide (c.Gap<0∨c.Gap>3600)) 12,whE (decide (c.Weak<0∨c.Weak>1000)) 1]++([Gr8 c.Top c.Tariffs,GpU c.Scale,whE (decide (c.Discounts.length>12)) 3,Grh c.Discounts,whE (decide (c.Caps.length>12)) 3,Mv (c.Caps.map Gd3)]++([Gpy c.Zones,whE (decide (c.Permits.length>1024)) 3,Mv (c.Permits.map fun p=>Gga p c.Zones)]++[Gom c.Accounts,Gr1 c.Reliefs,whE (decide (c.Holidays.length>1024)) 3,whE (Guy c.Holidays) 15,GoS c.Law,GrP c.Keeping,whE (!HR c.Agency) 6])):=rfl
 rw [hc,GlB,GlB,GlB]
 generalize Mv [GkB c.Top,Gug c.Devices c.Top.Net,Guc c.Classes,Gr6 c.Tags,whE (decide (c.Gap<0∨c.Gap>3600)) 12,whE (decide (c.Weak<0∨c.Weak>1000)) 1]=e1
 generalize Mv [Gr8 c.Top c.Tariffs,GpU c.Scale,whE (decide (c.Discounts.length>12)) 3,Grh c.Discounts,whE (decide (c.Caps.length>12)) 3,Mv (c.Caps.map Gd3)]=e2
 generalize Mv [Gpy c.Zones,whE (decide (c.Permits.length>1024)) 3,Mv (c.Permits.map fun p=>Gga p c.Zones)]=e3
 generalize Mv [Gom c.Accounts,Gr1 c.Reliefs,whE (decide (c.Holidays.length>1024)) 3,whE (Guy c.Holidays) 15,GoS c.Law,GrP c.Keeping,whE (!HR c.Agency) 6]=e4
 by_cases h1:e1=0 <;> simp only [h1,if_true,if_false]
 by_cases h2:e2=0 <;> simp only [h2,if_true,if_false]
 by_cases h3:e3=0 <;> simp only [h3,if_true,if_false]
 by_cases h4:e4=0 <;> simp only [h4,if_true,if_false]
end
end Go.Proofs.YtdifanfcaemokaaGreatDoor.Av
