import Derived.Test.YtdifanfcaemokaaGreatDoorPEi
open Prod (fst)
open Int (tdiv tmod)
set_option maxHeartbeats 4000000
set_option maxRecDepth 100000
set_option linter.unusedVariables false
set_option linter.unusedSimpArgs false
namespace Go.Proofs.YtdifanfcaemokaaGreatDoor.Av
noncomputable section
open Go Go.Proofs
def Yi (t_0:Ga):HT Ga True:=.run (cs 2 []) (fun _=>Hg) <|
  .bd (Ry t_0) fun r1=>.run [oc,rN [.any] (jI r1) [],oa] (fun γ=>Gb (JS t_0 r1 γ.2)) <|
  .sp (r1=(0:Int))
  (.run (bf::(cs 2 [])) (fun γ=>Gb (Gx (Gu γ.2))) <|
  .leaf t_0 [])
  (.run (bt::(cs 2 [])) (fun γ=>Gb (Gy (Gz γ.2))) <|
  .leaf (⟨(⟨[],[]⟩:Gf),[]⟩:Ga) [])
def Rz (t_0:Ga):Option Ga:=(Yi t_0).den
theorem GbY (t_0:Ga) (r:Ga) (h:Rz t_0=some r):RT 522 [.agg (Ga.enc t_0)] (.agg (Ga.enc r)) []:=
 HA.of_ht 400 (Yi t_0) (fun (r:Ga)=>.agg (Ga.enc r)) (fun (r:Ga)=>[]) (by kernel_rfl) h
def UZ (n_0:Gf) (name_1:(List UInt8)):Nat→HT (Nat⊕(((List UInt8)×Int×(List UInt8))⊕Unit)) True
 | k15=>.run [oa] (fun _=>Hg) <|
  .sp ((↑k15:Int)<(↑n_0.Points.length:Int))
  (.run [bt] (fun γ=>Gb (dT γ.2)) <|
  .bd (n_0.Points[k15]?) fun x11=>.run ((oN (.i k15))::(oN (.v [.str x11.Name,jI x11.Kind,.str x11.System]))::(cs 5 [oa])) (fun γ=>k2 (ir γ.2) (k2 (GD (f:=Gr.enc) (z:=2) (fun _=>rfl) γ.2) (Gb (GX (f:=Gr.enc) (z:=3) (j:=k15) (fun _=>rfl) γ.2 rfl)))) <|
  .sp (x11.Name=name_1)
  (.run (bt::(cs 3 [])) (fun γ=>Gb (Gu γ.2)) <|
  .leaf (.inr (.inl (x11.Name,x11.Kind,x11.System))) [0])
  (.run [bf] (fun γ=>Gb (Gz γ.2)) <|
  .gd (GS .i64 ((↑k15:Int)+1)) <| .run [ow,oc] (fun γ=>Gb γ.2) <|
  .leaf (.inl (k15+1)) [0]))
  (.run [bf] (fun γ=>Gb (dF γ.2)) <|
  .leaf (.inr (.inr (()))) [0])
def KN (n_0:Gf) (name_1:(List UInt8)):Nat→Option (Nat⊕(((List UInt8)×Int×(List UInt8))⊕Unit)):=fun s=>(UZ n_0 name_1 s).den
def GfO (n_0:Gf) (name_1:(List UInt8)):Nat→PS:=fun s=>(26,[(1,.str name_1),(4,.ptr 0 0),(13,.lst (fl Gr.enc n_0.Points) n_0.Points.length),(14,jI (↑n_0.Points.length:Int)),(15,jI (↑s:Int))],[(bT [.str [],jI 0,.str []] 144)])
def GfQ:(((List UInt8)×Int×(List UInt8))⊕Unit)→Hm:=fun q=>match q with | Sum.inl o=>.ret | Sum.inr (o)=>(.exit 0)
def GfP (n_0:Gf) (name_1:(List UInt8)):(((List UInt8)×Int×(List UInt8))⊕Unit)→List (Nat×AV):=fun q=>match q with | Sum.inl o=>[(4,.ptr 0 0),(5,.bool true)] | Sum.inr (o)=>[(4,.ptr 0 0)]
def Zx (n_0:Gf) (name_1:(List UInt8)):(((List UInt8)×Int×(List UInt8))⊕Unit)→List Hb:=fun q=>match q with | Sum.inl o=>[(bT [.str o.1,jI o.2.1,.str o.2.2] 144)] | Sum.inr (o)=>[(bT [.str [],jI 0,.str []] 144)]
theorem Gbi (n_0:Gf) (name_1:(List UInt8)) {s:Nat} {r:((List UInt8)×Int×(List UInt8))⊕Unit} (h:lp (KN n_0 name_1) s=some r):DT 1 (.loop (GK Tryz.prog 521 [1,1,0,1,0,0])) (GfO n_0 name_1 s).st (GfQ r) (PS.st (26,GfP n_0 name_1 r,Zx n_0 name_1 r)):=
 GN.lp_ht 1 400 (GfO n_0 name_1) GfQ (fun q=>(26,GfP n_0 name_1 q,Zx n_0 name_1 q)) (UZ n_0 name_1) (by intro k15; kernel_rfl) h
def Gfo (n_0:Gf) (name_1:(List UInt8)):HT (Gr×Bool) True:=.run (cs 3 []) (fun _=>Hg) <|
  .bd (Y1 n_0) fun r1=>.run [oc,rN [.any] (jI r1) [],oa] (fun γ=>Gb (GfN n_0 r1 γ.2)) <|
  .sp (r1=(0:Int))
  (.run (bf::(cs 4 [])) (fun γ=>Gb (Gx (Gu γ.2))) <|
  .bd (lp (KN n_0 name_1) (0:Nat)) fun qq=>.cs qq (fun o4=>.run [.fcut 1 .ret [(4,.ptr 0 0),(5,.bool true)] (Zx n_0 name_1 (Sum.inl o4)) [1] [(1,.any),(4,.any),(13,.any),(14,.any),(15,jI (↑(0:Nat):Int))] [bS]] (fun γ=>k2 (rfl:(jI 0:AV)=jI (↑(0:Nat):Int)) (Gb (Gbi n_0 name_1 (s:=(0:Nat)) (r:=Sum.inl o4) (eS γ.1.2 γ.2)))) <|
  .leaf ((⟨o4.1,o4.2.1,o4.2.2⟩:Gr),true) [])
  (fun o4=>.run ((.fcut 1 (.exit 0) [(4,.ptr 0 0)] [(bT [.str [],jI 0,.str []] 144)] [1] [(1,.any),(4,.any),(13,.any),(14,.any),(15,jI (↑(0:Nat):Int))] [bS])::(cs 3 [])) (fun γ=>k2 (rfl:(jI 0:AV)=jI (↑(0:Nat):Int)) (Gb (Gbi n_0 name_1 (s:=(0:Nat)) (r:=Sum.inr (o4)) (eS γ.1.2 γ.2)))) <|
  .leaf ((⟨([]:List UInt8),0,([]:List UInt8)⟩:Gr),false) []))
  (.run (bt::(cs 3 [])) (fun γ=>Gb (Gy (Gz γ.2))) <|
  .leaf ((⟨([]:List UInt8),0,([]:List UInt8)⟩:Gr),false) [])
def Gbh (n_0:Gf) (name_1:(List UInt8)):Option (Gr×Bool):=(Gfo n_0 name_1).den
theorem GhK (n_0:Gf) (name_1:(List UInt8)) (r:(Gr×Bool)) (h:Gbh n_0 name_1=some r):RT 521 [.agg (Gf.enc n_0),.str name_1] (.tup [.agg (Gr.enc r.1),.bool r.2]) []:=
 HA.of_ht 400 (Gfo n_0 name_1) (fun (r:(Gr×Bool))=>.tup [.agg (Gr.enc r.1),.bool r.2]) (fun (r:(Gr×Bool))=>[]) (by kernel_rfl) h
def ZH (t_0:Ga) (point_1:(List UInt8)):HT Int True:=.run (cs 2 []) (fun _=>Hg) <|
  .bd (Rz t_0) fun r1=>.bd (Gbh r1.Net point_1) fun r3=>.run (oc::(rN [.any] (.agg (Ga.enc r1)) [])::(cs 2 ((rN [.any,.any] (.tup [.agg (Gr.enc r3.1),.bool r3.2]) [])::(cs 9 [])))) (fun γ=>k2 (GbY t_0 r1 γ.1.2) (Gb (GhK r1.Net point_1 r3 γ.2))) <|
  .leaf r3.1.Kind []
def Qz (t_0:Ga) (point_1:(List UInt8)):Option Int:=(ZH t_0 point_1).den
theorem Kk (t_0:Ga) (point_1:(List UInt8)) (r:Int) (h:Qz t_0 point_1=some r):RT 438 [.agg (Ga.enc t_0),.str point_1] (jI r) []:=
 HA.of_ht 400 (ZH t_0 point_1) (fun (r:Int)=>jI r) (fun (r:Int)=>[]) (by kernel_rfl) h
def Xs (t_0:Ga) (point_1:(List UInt8)):HT (Gm×Bool) True:=.run (cs 3 []) (fun _=>Hg) <|
  .bd (Rz t_0) fun r1=>.run [oc,rN [.any] (.agg (Ga.enc r1)) [],oc] (fun γ=>Gb (GbY t_0 r1 γ.2)) <|
  .bd (Gbh r1.Net point_1) fun r3=>.run (cs 3 ((rN [.any,.any] (.tup [.agg (Gr.enc r3.1),.bool r3.2]) [])::(cs 6 []))) (fun γ=>Gb (GhK r1.Net point_1 r3 γ.2)) <|
  .sp (r3.2=true)
  (.run (cs 3 [oF,oc,oa,oc]) (fun γ=>Gb ((Gx γ.2):(!r3.2)=false)) <|
  .sp (r3.1.System=[])
  (.run (bt::(cs 3 [])) (fun γ=>Gb (Gu γ.2)) <|
  .leaf ((⟨([]:List UInt8),false,0⟩:Gm),false) [])
  (.run [bf] (fun γ=>Gb (Gz γ.2)) <|
  .bd (QA r1.Systems r3.1.System) fun r7=>.run (cs 4 ((rN [.any,.any] (.tup [.agg (Gm.enc r7.1),.bool r7.2]) [])::(cs 4 []))) (fun γ=>Gb (Xt r1.Systems r3.1.System r7 γ.2)) <|
  .leaf (r7.1,r7.2) []))
  (.run (cs 3 (tc::(cs 3 (bt::(cs 3 []))))) (fun γ=>k2 ((Gy (Ja γ.2)):(!r3.2)=true) (Gb tT)) <|
  .leaf ((⟨([]:List UInt8),false,0⟩:Gm),false) [])
def Qu (t_0:Ga) (point_1:(List UInt8)):Option (Gm×Bool):=(Xs t_0 point_1).den
theorem Gae (t_0:Ga) (point_1:(List UInt8)) (r:(Gm×Bool)) (h:Qu t_0 point_1=some r):RT 476 [.agg (Ga.enc t_0),.str point_1] (.tup [.agg (Gm.enc r.1),.bool r.2]) []:=
 HA.of_ht 400 (Xs t_0 point_1) (fun (r:(Gm×Bool))=>.tup [.agg (Gm.enc r.1),.bool r.2]) (fun (r:(Gm×Bool))=>[]) (by kernel_rfl) h
def GbT (r_0:GC) (t_1:Ga):HT Bool True:=.run (cs 5 [oa]) (fun _=>Hg) <|
  .sp (r_0.To=[])
  (.run [bt] (fun γ=>Gb (Gu γ.2)) <|
  .bd (Qz t_1 r_0.From) fun r2=>.run (cs 3 [rN [.any,.any] (jI r2) [],oa,oc]) (fun γ=>Gb (Kk t_1 r_0.From r2 γ.2)) <|
  .leaf (r2==(1:Int)) [])
  (.run [bf] (fun γ=>Gb (Gz γ.2)) <|
  .bd (Qu t_1 r_0.From) fun r4=>.run (cs 3 ((rN [.any,.any] (.tup [.agg (Gm.enc r4.1),.bool r4.2]) [])::(cs 6 []))) (fun γ=>Gb (Gae t_1 r_0.From r4 γ.2)) <|
  .bd (Qu t_1 r_0.To) fun r6=>.run (cs 3 ((rN [.any,.any] (.tup [.agg (Gm.enc r6.1),.bool r6.2]) [])::(cs 6 []))) (fun γ=>Gb (Gae t_1 r_0.To r6 γ.2)) <|
  .bd (Qz t_1 r_0.From) fun r8=>.sp (r8=(2:Int))
  (.bd (Qz t_1 r_0.To) fun r11=>.sp (r11=(3:Int))
  (.run (cs 3 ((rN [.any,.any] (jI r8) [])::oa::oc::tc::(cs 2 ((rN [.any,.any] (jI r11) [])::oa::(cs 2 (tc::(cs 4 []))))))) (fun γ=>k2 (Kk t_1 r_0.From r8 (G0 γ)) (k2 (Gu γ.1.1.2) (k2 (Kk t_1 r_0.To r11 γ.1.2) (Gb (Gu γ.2))))) <|
  .leaf ((r4.1.Name==r6.1.Name)&&((r4.1.Closed==r6.1.Closed)&&((r4.1.Most==r6.1.Most)&&true))) [])
  (.run (cs 3 ((rN [.any,.any] (jI r8) [])::oa::oc::tc::(cs 2 ((rN [.any,.any] (jI r11) [])::oa::(cs 2 (oF::(cs 4 []))))))) (fun γ=>k2 (Kk t_1 r_0.From r8 (G0 γ)) (k2 (Gu γ.1.1.2) (k2 (Kk t_1 r_0.To r11 γ.1.2) (Gb (Gz γ.2))))) <|
  .leaf false []))
  (.run (cs 3 ((rN [.any,.any] (jI r8) [])::oa::oc::oF::(cs 11 []))) (fun γ=>k2 (Kk t_1 r_0.From r8 γ.1.2) (Gb (Gz γ.2))) <|
  .leaf false []))
def GaD (r_0:GC) (t_1:Ga):Option Bool:=(GbT r_0 t_1).den
theorem GmV (r_0:GC) (t_1:Ga) (r:Bool) (h:GaD r_0 t_1=some r):RT 366 [.agg (GC.enc r_0),.agg (Ga.enc t_1)] (.bool r) []:=
 HA.of_ht 400 (GbT r_0 t_1) (fun (r:Bool)=>.bool r) (fun (r:Bool)=>[]) (by kernel_rfl) h
def R4 (r_0:GC) (before_1:(List GC)):Nat→HT (Nat⊕(Int⊕Unit)) True
 | k8=>.run [oa] (fun _=>Hg) <|
  .sp ((↑k8:Int)<(↑before_1.length:Int))
  (.run (bt::(cs 2 [])) (fun γ=>Gb (dT γ.2)) <|
  .bd (before_1[k8]?) fun x16=>.run (cs 3 ((oN (.i k8))::(oN (.v [.str x16.From,.str x16.To,jI x16.Class,.str x16.Band,jI x16.Cents]))::(cs 11 []))) (fun γ=>k2 (ir γ.2) (k2 (GD (f:=GC.enc) (z:=4) (fun _=>rfl) γ.2) (Gb (GX (f:=GC.enc) (z:=5) (j:=k8) (fun _=>rfl) γ.2 rfl)))) <|
  .sp (((x16.From==r_0.From)&&((x16.To==r_0.To)&&((x16.Class==r_0.Class)&&((x16.Band==r_0.Band)&&((r_0.Cents==r_0.Cents)&&true)))))=true)
  (.run (bt::(cs 2 [])) (fun γ=>Gb γ.2) <|
  .leaf (.inr (.inl (↑k8:Int))) [0])
  (.run [bf] (fun γ=>Gb ((Ja γ.2):((x16.From==r_0.From)&&((x16.To==r_0.To)&&((x16.Class==r_0.Class)&&((x16.Band==r_0.Band)&&((r_0.Cents==r_0.Cents)&&true)))))=false)) <|
  .gd (GS .i64 ((↑k8:Int)+1)) <| .run [ow,oc] (fun γ=>Gb γ.2) <|
  .leaf (.inl (k8+1)) [0]))
  (.run [bf] (fun γ=>Gb (dF γ.2)) <|
  .leaf (.inr (.inr (()))) [0])
def Jz (r_0:GC) (before_1:(List GC)):Nat→Option (Nat⊕(Int⊕Unit)):=fun s=>(R4 r_0 before_1 s).den
def Ge3 (r_0:GC) (before_1:(List GC)):Nat→PS:=fun s=>(19,[(0,.lst (fl GC.enc before_1) before_1.length),(1,.fn (.func 365) [] [.ptr 0 0]),(7,jI (↑before_1.length:Int)),(8,jI (↑s:Int))],[(bT (GC.enc r_0) 148)])
def Ge5:(Int⊕Unit)→Hm:=fun q=>match q with | Sum.inl o=>.ret | Sum.inr (o)=>(.exit 0)
def Ge4 (r_0:GC) (before_1:(List GC)):(Int⊕Unit)→List (Nat×AV):=fun q=>match q with | Sum.inl o=>[(4,jI o)] | Sum.inr (o)=>[]
def Ge2 (r_0:GC) (before_1:(List GC)):(Int⊕Unit)→List Hb:=fun _=>[(bT (GC.enc r_0) 148)]
theorem MC (r_0:GC) (before_1:(List GC)) {s:Nat} {r:Int⊕Unit} (h:lp (Jz r_0 before_1) s=some r):DT 1 (.loop (GK Tryz.prog 478 [1,0,1,0,0])) (Ge3 r_0 before_1 s).st (Ge5 r) (PS.st (19,Ge4 r_0 before_1 r,Ge2 r_0 before_1 r)):=
 GN.lp_ht 1 400 (Ge3 r_0 before_1) Ge5 (fun q=>(19,Ge4 r_0 before_1 q,Ge2 r_0 before_1 q)) (R4 r_0 before_1) (by intro k8; kernel_rfl) h
def Q3 (r_0:GC) (x_2:Gd):Nat→HT (Nat⊕(Int⊕Unit)) True
 | k8=>.run [oa] (fun _=>Hg) <|
  .sp ((↑k8:Int)<(↑x_2.Bands.length:Int))
  (.run (bt::(cs 2 [])) (fun γ=>Gb (dT γ.2)) <|
  .bd (x_2.Bands[k8]?) fun x28=>.run (cs 3 ((oN (.i k8))::(oN (.v [.str x28.Name,jI x28.Window.Days,jI x28.Window.From,jI x28.Window.To]))::(cs 7 [oa,oc]))) (fun γ=>k2 (ir γ.2) (k2 (GD (f:=GR.enc) (z:=3) (fun _=>rfl) γ.2) (Gb (GX (f:=GR.enc) (z:=4) (j:=k8) (fun _=>rfl) γ.2 rfl)))) <|
  .sp (x28.Name=r_0.Band)
  (.run (bt::(cs 2 [])) (fun γ=>Gb (Gu γ.2)) <|
  .leaf (.inr (.inl (↑k8:Int))) [0])
  (.run [bf] (fun γ=>Gb (Gz γ.2)) <|
  .gd (GS .i64 ((↑k8:Int)+1)) <| .run [ow,oc] (fun γ=>Gb γ.2) <|
  .leaf (.inl (k8+1)) [0]))
  (.run [bf] (fun γ=>Gb (dF γ.2)) <|
  .leaf (.inr (.inr (()))) [0])
def Kd (r_0:GC) (x_2:Gd):Nat→Option (Nat⊕(Int⊕Unit)):=fun s=>(Q3 r_0 x_2 s).den
def Gdu (r_0:GC) (x_2:Gd):Nat→PS:=fun s=>(19,[(0,.lst (fl GR.enc x_2.Bands) x_2.Bands.length),(1,.fn (.func 364) [] [.ptr 0 0]),(7,jI (↑x_2.Bands.length:Int)),(8,jI (↑s:Int))],[(bT (GC.enc r_0) 148)])
def Gdw:(Int⊕Unit)→Hm:=fun q=>match q with | Sum.inl o=>.ret | Sum.inr (o)=>(.exit 0)
def Gdv (r_0:GC) (x_2:Gd):(Int⊕Unit)→List (Nat×AV):=fun q=>match q with | Sum.inl o=>[(4,jI o)] | Sum.inr (o)=>[]
def Gdt (r_0:GC) (x_2:Gd):(Int⊕Unit)→List Hb:=fun _=>[(bT (GC.enc r_0) 148)]
theorem Zl (r_0:GC) (x_2:Gd) {s:Nat} {r:Int⊕Unit} (h:lp (Kd r_0 x_2) s=some r):DT 1 (.loop (GK Tryz.prog 477 [1,0,1,0,0])) (Gdu r_0 x_2 s).st (Gdw r) (PS.st (19,Gdv r_0 x_2 r,Gdt r_0 x_2 r)):=
 GN.lp_ht 1 400 (Gdu r_0 x_2) Gdw (fun q=>(19,Gdv r_0 x_2 q,Gdt r_0 x_2 q)) (Q3 r_0 x_2) (by intro k8; kernel_rfl) h
def GdW (r_0:GC) (before_1:(List GC)) (x_2:Gd) (t_3:Ga):HT Int True:=.run (cs 8 []) (fun _=>Hg) <|
  .bd (GaD r_0 t_3) fun r1=>.run (cs 2 ((rN [.any,.any] (.bool r1) [])::(cs 2 []))) (fun γ=>Gb (GmV r_0 t_3 r1 γ.2)) <|
  .sp (r1=true)
  (.run [bf] (fun γ=>Gb ((Gx γ.2):(!r1)=false)) <|
  .sp (r_0.Class<(1:Int))
  (.run (cs 2 (oa::oc::tc::(cs 4 [bt,oc]))) (fun γ=>k2 (dT γ.2) (Gb tT)) <|
  .leaf 20 [])
  (.run (cs 2 (oa::oc::oF::oc::oa::(cs 2 []))) (fun γ=>Gb (dF γ.2)) <|
  .sp (r_0.Class>(9:Int))
  (.run [bt,oc] (fun γ=>Gb (dT γ.2)) <|
  .leaf 20 [])
  (.run [bf] (fun γ=>Gb (dF γ.2)) <|
  .sp (r_0.Band=[])
  (.run (cs 2 (oa::oc::oF::(cs 6 [bf]))) (fun γ=>k2 (Gx (Gu γ.2)) (Gb fF)) <|
  .sp (r_0.Cents<(0:Int))
  (.run (cs 2 (oa::oc::tc::(cs 4 [bt,oc]))) (fun γ=>k2 (dT γ.2) (Gb tT)) <|
  .leaf 13 [])
  (.run (cs 2 (oa::oc::oF::oc::oa::(cs 2 []))) (fun γ=>Gb (dF γ.2)) <|
  .sp (r_0.Cents>(1125899906842624:Int))
  (.run [bt,oc] (fun γ=>Gb (dT γ.2)) <|
  .leaf 13 [])
  (.run [bf] (fun γ=>Gb (dF γ.2)) <|
  .bd (lp (Jz r_0 before_1) (0:Nat)) fun qq=>.cs qq (fun o9=>.run (cs 11 ((.fcut 1 .ret [(4,jI o9)] [(bT (GC.enc r_0) 148)] [0] [(0,.any),(1,.any),(7,.any),(8,jI (↑(0:Nat):Int))] [bS])::oa::(cs 2 []))) (fun γ=>k2 (rfl:(jI 0:AV)=jI (↑(0:Nat):Int)) (Gb (MC r_0 before_1 (s:=(0:Nat)) (r:=Sum.inl o9) (eS γ.1.2 γ.2)))) <|
  .sp (o9≥(0:Int))
  (.run [bt,oc] (fun γ=>Gb (dT γ.2)) <|
  .leaf 9 [])
  (.run [bf,oc] (fun γ=>Gb (dF γ.2)) <|
  .leaf 0 []))
  (fun o9=>.run (cs 11 ((.fcut 1 (.exit 0) [] [(bT (GC.enc r_0) 148)] [0] [(0,.any),(1,.any),(7,.any),(8,jI (↑(0:Nat):Int))] [bS])::(cs 4 [bf,oc]))) (fun γ=>k2 (rfl:(jI 0:AV)=jI (↑(0:Nat):Int)) (k2 (MC r_0 before_1 (s:=(0:Nat)) (r:=Sum.inr (o9)) (eS γ.1.2 γ.2)) (Gb fF))) <|
  .leaf 0 []))))
  (.bd (lp (Kd r_0 x_2) (0:Nat)) fun qq=>.cs qq (fun o21=>.run (cs 2 (oa::oc::tc::(cs 11 ((.fcut 1 .ret [(4,jI o21)] [(bT (GC.enc r_0) 148)] [0] [(0,.any),(1,.any),(7,.any),(8,jI (↑(0:Nat):Int))] [bS])::oa::(cs 4 []))))) (fun γ=>k2 (Gy (Gz γ.1.1.2)) (k2 (rfl:(jI 0:AV)=jI (↑(0:Nat):Int)) (Gb (Zl r_0 x_2 (s:=(0:Nat)) (r:=Sum.inl o21) (eS γ.1.2 γ.2))))) <|
  .sp (o21≥(0:Int))
  (.run [bf] (fun γ=>Gb (Gx (dT γ.2))) <|
  .sp (r_0.Cents<(0:Int))
  (.run (cs 2 (oa::oc::tc::(cs 4 [bt,oc]))) (fun γ=>k2 (dT γ.2) (Gb tT)) <|
  .leaf 13 [])
  (.run (cs 2 (oa::oc::oF::oc::oa::(cs 2 []))) (fun γ=>Gb (dF γ.2)) <|
  .sp (r_0.Cents>(1125899906842624:Int))
  (.run [bt,oc] (fun γ=>Gb (dT γ.2)) <|
  .leaf 13 [])
  (.run [bf] (fun γ=>Gb (dF γ.2)) <|
  .bd (lp (Jz r_0 before_1) (0:Nat)) fun qq=>.cs qq (fun o35=>.run (cs 11 ((.fcut 1 .ret [(4,jI o35)] [(bT (GC.enc r_0) 148)] [0] [(0,.any),(1,.any),(7,.any),(8,jI (↑(0:Nat):Int))] [bS])::oa::(cs 2 []))) (fun γ=>k2 (rfl:(jI 0:AV)=jI (↑(0:Nat):Int)) (Gb (MC r_0 before_1 (s:=(0:Nat)) (r:=Sum.inl o35) (eS γ.1.2 γ.2)))) <|
  .sp (o35≥(0:Int))
  (.run [bt,oc] (fun γ=>Gb (dT γ.2)) <|
  .leaf 9 [])
  (.run [bf,oc] (fun γ=>Gb (dF γ.2)) <|
  .leaf 0 []))
  (fun o35=>.run (cs 11 ((.fcut 1 (.exit 0) [] [(bT (GC.enc r_0) 148)] [0] [(0,.any),(1,.any),(7,.any),(8,jI (↑(0:Nat):Int))] [bS])::(cs 4 [bf,oc]))) (fun γ=>k2 (rfl:(jI 0:AV)=jI (↑(0:Nat):Int)) (k2 (MC r_0 before_1 (s:=(0:Nat)) (r:=Sum.inr (o35)) (eS γ.1.2 γ.2)) (Gb fF))) <|
  .leaf 0 []))))
  (.run [bt,oc] (fun γ=>Gb (Gy (dF γ.2))) <|
  .leaf 10 []))
  (fun o21=>.run (cs 2 (oa::oc::tc::(cs 11 ((.fcut 1 (.exit 0) [] [(bT (GC.enc r_0) 148)] [0] [(0,.any),(1,.any),(7,.any),(8,jI (↑(0:Nat):Int))] [bS])::(cs 6 [bt,oc]))))) (fun γ=>k2 (Gy (Gz γ.1.1.2)) (k2 (rfl:(jI 0:AV)=jI (↑(0:Nat):Int)) (k2 (Zl r_0 x_2 (s:=(0:Nat)) (r:=Sum.inr (o21)) (eS γ.1.2 γ.2)) (Gb tT)))) <|
  .leaf 10 [])))))
  (.run [bt,oc] (fun γ=>Gb ((Gy (Ja γ.2)):(!r1)=true)) <|
  .leaf 16 [])
def Gds (r_0:GC) (before_1:(List GC)) (x_2:Gd) (t_3:Ga):Option Int:=(GdW r_0 before_1 x_2 t_3).den
theorem GnX (r_0:GC) (before_1:(List GC)) (x_2:Gd) (t_3:Ga) (r:Int) (h:Gds r_0 before_1 x_2 t_3=some r):RT 282 [.agg (GC.enc r_0),.lst (fl GC.enc before_1) before_1.length,.agg (Gd.enc x_2),.agg (Ga.enc t_3)] (jI r) []:=
 HA.of_ht 400 (GdW r_0 before_1 x_2 t_3) (fun (r:Int)=>jI r) (fun (r:Int)=>[]) (by kernel_rfl) h
def Q2 (x_0:Gd) (t_1:Ga):Nat→HT (Nat⊕(Int⊕Unit)) True
 | k30=>.run [oa] (fun _=>Hg) <|
  .sp ((↑k30:Int)<(↑x_0.Bands.length:Int))
  (.run [bt] (fun γ=>Gb (dT γ.2)) <|
  .bd (x_0.Bands[k30]?) fun x20=>.run ((oN (.i k30))::(oN (.v [.str x20.Name,jI x20.Window.Days,jI x20.Window.From,jI x20.Window.To]))::(cs 6 [])) (fun γ=>k2 (ir γ.2) (k2 (GD (f:=GR.enc) (z:=3) (fun _=>rfl) γ.2) (Gb (GX (f:=GR.enc) (z:=4) (j:=k30) (fun _=>rfl) γ.2 rfl)))) <|
  .bd (HS x20.Name) fun r22=>.run (cs 2 ((rN [.any] (.bool r22) [])::(cs 2 []))) (fun γ=>Gb (Hh x20.Name r22 γ.2)) <|
  .sp (r22=true)
  (.run [bf] (fun γ=>Gb ((Gx γ.2):(!r22)=false)) <|
  .sp (x20.Window.Days<(1:Int))
  (.run (cs 2 (oa::oc::tc::(cs 21 [bt,oc]))) (fun γ=>k2 (dT γ.2) (Gb tT)) <|
  .leaf (.inr (.inl 1)) [0,1])
  (.sp (x20.Window.Days>(127:Int))
  (.run (cs 2 (oa::oc::oF::oc::oa::(cs 2 (tc::(cs 16 [bt,oc]))))) (fun γ=>k2 (dF γ.1.2) (k2 (dT γ.2) (Gb tT))) <|
  .leaf (.inr (.inl 1)) [0,1])
  (.sp (x20.Window.From<(0:Int))
  (.run (cs 2 (oa::oc::oF::oc::oa::(cs 2 (oF::oc::oa::(cs 2 (tc::(cs 11 [bt,oc]))))))) (fun γ=>k2 (dF γ.1.1.2) (k2 (dF γ.1.2) (k2 (dT γ.2) (Gb tT)))) <|
  .leaf (.inr (.inl 1)) [0,1])
  (.sp (x20.Window.From≥x20.Window.To)
  (.run (cs 2 (oa::oc::oF::oc::oa::(cs 2 (oF::oc::oa::(cs 2 (oF::(cs 3 (oa::(cs 2 (tc::(cs 4 [bt,oc]))))))))))) (fun γ=>k2 (dF (G0 γ)) (k2 (dF γ.1.1.2) (k2 (dF γ.1.2) (k2 (dT γ.2) (Gb tT))))) <|
  .leaf (.inr (.inl 1)) [0,1])
  (.run (cs 2 (oa::oc::oF::oc::oa::(cs 2 (oF::oc::oa::(cs 2 (oF::(cs 3 (oa::(cs 2 (oF::oc::oa::(cs 2 []))))))))))) (fun γ=>k2 (dF (G0 γ)) (k2 (dF γ.1.1.2) (k2 (dF γ.1.2) (Gb (dF γ.2))))) <|
  .sp (x20.Window.To>(1440:Int))
  (.run [bt,oc] (fun γ=>Gb (dT γ.2)) <|
  .leaf (.inr (.inl 1)) [0,1])
  (.run [bf] (fun γ=>Gb (dF γ.2)) <|
  .gd (GS .i64 ((↑k30:Int)+1)) <| .run [ow,oc] (fun γ=>Gb γ.2) <|
  .leaf (.inl (k30+1)) [0,1]))))))
  (.run [bt,oc] (fun γ=>Gb ((Gy (Ja γ.2)):(!r22)=true)) <|
  .leaf (.inr (.inl 6)) [0,1]))
  (.run [bf] (fun γ=>Gb (dF γ.2)) <|
  .leaf (.inr (.inr (()))) [0,1])
def Kc (x_0:Gd) (t_1:Ga):Nat→Option (Nat⊕(Int⊕Unit)):=fun s=>(Q2 x_0 t_1 s).den
def Gdp (x_0:Gd) (t_1:Ga):Nat→PS:=fun s=>(88,[(2,.ptr 0 0),(3,.ptr 1 0),(28,.lst (fl GR.enc x_0.Bands) x_0.Bands.length),(29,jI (↑x_0.Bands.length:Int)),(30,jI (↑s:Int))],[(bT (Gd.enc x_0) 83),(bT (Ga.enc t_1) 28)])
def Gdr:(Int⊕Unit)→Hm:=fun q=>match q with | Sum.inl o=>.ret | Sum.inr (o)=>(.exit 1)
def Gdq (x_0:Gd) (t_1:Ga):(Int⊕Unit)→List (Nat×AV):=fun q=>match q with | Sum.inl o=>[(4,jI o)] | Sum.inr (o)=>[(2,.ptr 0 0),(3,.ptr 1 0)]
def Q1 (x_0:Gd) (t_1:Ga):(Int⊕Unit)→List Hb:=fun _=>[(bT (Gd.enc x_0) 83),(bT (Ga.enc t_1) 28)]
theorem Zk (x_0:Gd) (t_1:Ga) {s:Nat} {r:Int⊕Unit} (h:lp (Kc x_0 t_1) s=some r):DT 2 (.loop (GK Tryz.prog 213 [1,1,0,1,0,0])) (Gdp x_0 t_1 s).st (Gdr r) (PS.st (88,Gdq x_0 t_1 r,Q1 x_0 t_1 r)):=
 GN.lp_ht 2 400 (Gdp x_0 t_1) Gdr (fun q=>(88,Gdq x_0 t_1 q,Q1 x_0 t_1 q)) (Q2 x_0 t_1) (by intro k30; kernel_rfl) h
def Qi (x_0:Gd) (t_1:Ga):Nat→HT (Nat⊕(Int⊕Unit)) True
 | k71=>.run [oa] (fun _=>Hg) <|
  .sp ((↑k71:Int)<(↑x_0.Rates.length:Int))
  (.run [bt] (fun γ=>Gb (dT γ.2)) <|
  .bd (x_0.Rates[k71]?) fun x41=>.run (oc::(oN (.i k71))::(oN (.v [.str x41.From,.str x41.To,jI x41.Class,.str x41.Band,jI x41.Cents]))::(cs 3 [])) (fun γ=>k2 (ir γ.2) (k2 (GD (f:=GC.enc) (z:=4) (fun _=>rfl) γ.2) (Gb (GX (f:=GC.enc) (z:=5) (j:=k71) (fun _=>rfl) γ.2 rfl)))) <|
  .gd (k71≤x_0.Rates.length) <| .bd (Gds x41 (List.take k71 x_0.Rates) x_0 t_1) fun r44=>.run (cs 4 ((oN (.s 0 k71))::(.trp (.eqt (.t 80) (.lst (fl GC.enc (List.take k71 x_0.Rates)) ((List.take k71 x_0.Rates).length))))::(cs 2 ((rN [.any,.any,.any,.any] (jI r44) [])::(cs 2 [oa]))))) (fun γ=>k2 (rfl:(↑k71:Int)=((k71:Nat):Int)) (k2 (⟨Nat.zero_le _,γ.1.2⟩:0≤k71∧k71≤x_0.Rates.length) (k2 ((Ya (RS (f:=GC.enc) (z:=5) (fun _=>rfl) _ _) (by rw [List.length_take]; omega)):(.lst (List.take (k71*5) (fl GC.enc x_0.Rates)) k71:AV)=.lst (fl GC.enc (List.take k71 x_0.Rates)) ((List.take k71 x_0.Rates).length)) (Gb (GnX x41 (List.take k71 x_0.Rates) x_0 t_1 r44 γ.2))))) <|
  .sp (r44=(0:Int))
  (.run [bf] (fun γ=>Gb (Gx (Gu γ.2))) <|
  .gd (GS .i64 ((↑k71:Int)+1)) <| .run [ow,oc] (fun γ=>Gb γ.2) <|
  .leaf (.inl (k71+1)) [0,1])
  (.run (bt::(cs 2 [])) (fun γ=>Gb (Gy (Gz γ.2))) <|
  .leaf (.inr (.inl r44)) [0,1]))
  (.run [bf] (fun γ=>Gb (dF γ.2)) <|
  .leaf (.inr (.inr (()))) [0,1])
def JL (x_0:Gd) (t_1:Ga):Nat→Option (Nat⊕(Int⊕Unit)):=fun s=>(Qi x_0 t_1 s).den
def GbP (x_0:Gd) (t_1:Ga):Nat→PS:=fun s=>(88,[(2,.ptr 0 0),(3,.ptr 1 0),(69,.lst (fl GC.enc x_0.Rates) x_0.Rates.length),(70,jI (↑x_0.Rates.length:Int)),(71,jI (↑s:Int))],[(bT (Gd.enc x_0) 83),(bT (Ga.enc t_1) 28)])
def GbR:(Int⊕Unit)→Hm:=fun q=>match q with | Sum.inl o=>.ret | Sum.inr (o)=>(.exit 4)
def GbQ (x_0:Gd) (t_1:Ga):(Int⊕Unit)→List (Nat×AV):=fun q=>match q with | Sum.inl o=>[(4,jI o)] | Sum.inr (o)=>[]
def Qh (x_0:Gd) (t_1:Ga):(Int⊕Unit)→List Hb:=fun _=>[(bT (Gd.enc x_0) 83),(bT (Ga.enc t_1) 28)]
theorem XT (x_0:Gd) (t_1:Ga) {s:Nat} {r:Int⊕Unit} (h:lp (JL x_0 t_1) s=some r):DT 2 (.loop (GK Tryz.prog 213 [1,1,1,0,1,0,0])) (GbP x_0 t_1 s).st (GbR r) (PS.st (88,GbQ x_0 t_1 r,Qh x_0 t_1 r)):=
 GN.lp_ht 2 400 (GbP x_0 t_1) GbR (fun q=>(88,GbQ x_0 t_1 q,Qh x_0 t_1 q)) (Qi x_0 t_1) (by intro k71; kernel_rfl) h
def GbS (x_0:Gd) (t_1:Ga):HT Int True:=.run (cs 3 []) (fun _=>Hg) <|
  .bd (JQ x_0.Valid) fun r1=>.run (cs 2 ((rN [.any] (.bool r1) [])::(cs 2 []))) (fun γ=>Gb (G8 x_0.Valid r1 γ.2)) <|
  .sp (r1=true)
  (.run [bf] (fun γ=>Gb ((Gx γ.2):(!r1)=false)) <|
  .sp ((↑x_0.Bands.length:Int)>(1024:Int))
  (.run (cs 3 (oa::oc::tc::(cs 5 [bt,oc]))) (fun γ=>k2 (dT γ.2) (Gb tT)) <|
  .leaf 3 [])
  (.run (cs 3 (oa::oc::oF::(cs 2 (oa::(cs 2 []))))) (fun γ=>Gb (dF γ.2)) <|
  .sp ((↑x_0.Rates.length:Int)>(1024:Int))
  (.run [bt,oc] (fun γ=>Gb (dT γ.2)) <|
  .leaf 3 [])
  (.run (bf::(cs 4 [])) (fun γ=>Gb (dF γ.2)) <|
  .bd (lp (Kc x_0 t_1) (0:Nat)) fun qq=>.cs qq (fun o6=>.run [.fcut 2 .ret [(4,jI o6)] (Q1 x_0 t_1 (Sum.inl o6)) [0,1] [(2,.any),(3,.any),(28,.any),(29,.any),(30,jI (↑(0:Nat):Int))] [bS,bS]] (fun γ=>k2 (rfl:(jI 0:AV)=jI (↑(0:Nat):Int)) (Gb (Zk x_0 t_1 (s:=(0:Nat)) (r:=Sum.inl o6) (eS γ.1.2 γ.2)))) <|
  .leaf o6 [])
  (fun o6=>.run ((.fcut 2 (.exit 1) [(2,.ptr 0 0),(3,.ptr 1 0)] (Q1 x_0 t_1 (Sum.inr (o6))) [0,1] [(2,.any),(3,.any),(28,.any),(29,.any),(30,jI (↑(0:Nat):Int))] [bS,bS])::(cs 4 [])) (fun γ=>k2 (rfl:(jI 0:AV)=jI (↑(0:Nat):Int)) (Gb (Zk x_0 t_1 (s:=(0:Nat)) (r:=Sum.inr (o6)) (eS γ.1.2 γ.2)))) <|
  .bd (lp (JL x_0 t_1) (0:Nat)) fun qq=>.cs qq (fun o31=>.run [.fcut 2 .ret [(4,jI o31)] (Qh x_0 t_1 (Sum.inl o31)) [0,1] [(2,.any),(3,.any),(69,.any),(70,.any),(71,jI (↑(0:Nat):Int))] [bS,bS]] (fun γ=>k2 (rfl:(jI 0:AV)=jI (↑(0:Nat):Int)) (Gb (XT x_0 t_1 (s:=(0:Nat)) (r:=Sum.inl o31) (eS γ.1.2 γ.2)))) <|
  .leaf o31 [])
  (fun o31=>.run [.fcut 2 (.exit 4) [] (Qh x_0 t_1 (Sum.inr (o31))) [0,1] [(2,.any),(3,.any),(69,.any),(70,.any),(71,jI (↑(0:Nat):Int))] [bS,bS],oc] (fun γ=>k2 (rfl:(jI 0:AV)=jI (↑(0:Nat):Int)) (Gb (XT x_0 t_1 (s:=(0:Nat)) (r:=Sum.inr (o31)) (eS γ.1.2 γ.2)))) <|
  .leaf 0 [])))))
  (.run [bt,oc] (fun γ=>Gb ((Gy (Ja γ.2)):(!r1)=true)) <|
  .leaf 12 [])
def GaC (x_0:Gd) (t_1:Ga):Option Int:=(GbS x_0 t_1).den
theorem GmS (x_0:Gd) (t_1:Ga) (r:Int) (h:GaC x_0 t_1=some r):RT 213 [.agg (Gd.enc x_0),.agg (Ga.enc t_1)] (jI r) []:=
 HA.of_ht 400 (GbS x_0 t_1) (fun (r:Int)=>jI r) (fun (r:Int)=>[]) (by kernel_rfl) h
def KV (l_0:(List Gd)) (t_1:Ga) (k15:Nat) (x27:Gd):Nat→HT (Nat⊕(Unit⊕Unit)) True
 | k30=>.run [oa] (fun _=>Hg) <|
  .sp ((↑k30:Int)<(↑((List.take k15 l_0).length):Int))
  (.run [bt] (fun γ=>Gb (dT γ.2)) <|
  .bd ((List.take k15 l_0)[k30]?) fun x42=>.run ((oN (.i k30))::(oN (.v [jI x42.Valid.From,jI x42.Valid.To,.lst (fl GR.enc x42.Bands) x42.Bands.length,.lst (fl GC.enc x42.Rates) x42.Rates.length]))::(cs 2 [])) (fun γ=>k2 (ir γ.2) (k2 (GD (f:=Gd.enc) (z:=3) (fun _=>rfl) γ.2) (Gb (GX (f:=Gd.enc) (z:=4) (j:=k30) (fun _=>rfl) γ.2 rfl)))) <|
  .sp (x27.Valid.From<x42.Valid.To)
  (.run (cs 6 (oa::oc::tc::(cs 5 [oa,oc]))) (fun γ=>Gb (dT γ.2)) <|
  .sp (x42.Valid.From<x27.Valid.To)
  (.run [bt,oc] (fun γ=>Gb (dT γ.2)) <|
  .leaf (.inr (.inl ())) [0,1])
  (.run [bf] (fun γ=>Gb (dF γ.2)) <|
  .gd (GS .i64 ((↑k30:Int)+1)) <| .run [ow,oc] (fun γ=>Gb γ.2) <|
  .leaf (.inl (k30+1)) [0,1]))
  (.run (cs 6 (oa::oc::oF::(cs 7 [bf]))) (fun γ=>k2 (dF γ.2) (Gb fF)) <|
  .gd (GS .i64 ((↑k30:Int)+1)) <| .run [ow,oc] (fun γ=>Gb γ.2) <|
  .leaf (.inl (k30+1)) [0,1]))
  (.run [bf] (fun γ=>Gb (dF γ.2)) <|
  .leaf (.inr (.inr (()))) [0,1])
def Jg (l_0:(List Gd)) (t_1:Ga) (k15:Nat) (x27:Gd):Nat→Option (Nat⊕(Unit⊕Unit)):=fun s=>(KV l_0 t_1 k15 x27 s).den
def XR (l_0:(List Gd)) (t_1:Ga) (k15:Nat) (x27:Gd):Nat→PS:=fun s=>(52,[(0,.lst (fl Gd.enc l_0) l_0.length),(3,.ptr 0 0),(6,.ptr 1 0),(13,.lst (fl Gd.enc l_0) l_0.length),(14,jI (↑l_0.length:Int)),(15,jI (↑k15:Int)),(28,.lst (fl Gd.enc (List.take k15 l_0)) ((List.take k15 l_0).length)),(29,jI (↑((List.take k15 l_0).length):Int)),(30,jI (↑s:Int))],[(bT (Ga.enc t_1) 28),(bT (Gd.enc x27) 83)])
def XS:(Unit⊕Unit)→Hm:=fun q=>match q with | Sum.inl o=>.ret | Sum.inr (o)=>(.exit 2)
def QD (l_0:(List Gd)) (t_1:Ga) (k15:Nat) (x27:Gd):(Unit⊕Unit)→List (Nat×AV):=fun q=>match q with | Sum.inl o=>[(4,jI 12)] | Sum.inr (o)=>[(0,.lst (fl Gd.enc l_0) l_0.length),(3,.ptr 0 0),(13,.lst (fl Gd.enc l_0) l_0.length),(14,jI (↑l_0.length:Int)),(15,jI (↑k15:Int))]
def KU (l_0:(List Gd)) (t_1:Ga) (k15:Nat) (x27:Gd):(Unit⊕Unit)→List Hb:=fun _=>[(bT (Ga.enc t_1) 28),(bT (Gd.enc x27) 83)]
theorem Ux (l_0:(List Gd)) (t_1:Ga) (k15:Nat) (x27:Gd) {s:Nat} {r:Unit⊕Unit} (h:lp (Jg l_0 t_1 k15 x27) s=some r):DT 2 (.loop (GK Tryz.prog 136 [1,1,0,1,0,0,1,1,0,0,1,1,1,0,0])) (XR l_0 t_1 k15 x27 s).st (XS r) (PS.st (52,QD l_0 t_1 k15 x27 r,KU l_0 t_1 k15 x27 r)):=
 GN.lp_ht 2 400 (XR l_0 t_1 k15 x27) XS (fun q=>(52,QD l_0 t_1 k15 x27 q,KU l_0 t_1 k15 x27 q)) (KV l_0 t_1 k15 x27) (by intro k30; kernel_rfl) h
def Ml (l_0:(List Gd)) (t_1:Ga):Nat→HT (Nat⊕(Int⊕Unit)) True
 | k15=>.run [oa] (fun _=>Hg) <|
  .sp ((↑k15:Int)<(↑l_0.length:Int))
  (.run [bt] (fun γ=>Gb (dT γ.2)) <|
  .bd (l_0[k15]?) fun x27=>.run (oc::(oN (.i k15))::(oN (.v [jI x27.Valid.From,jI x27.Valid.To,.lst (fl GR.enc x27.Bands) x27.Bands.length,.lst (fl GC.enc x27.Rates) x27.Rates.length]))::(cs 3 [])) (fun γ=>k2 (ir γ.2) (k2 (GD (f:=Gd.enc) (z:=3) (fun _=>rfl) γ.2) (Gb (GX (f:=Gd.enc) (z:=4) (j:=k15) (fun _=>rfl) γ.2 rfl)))) <|
  .bd (GaC x27 t_1) fun r29=>.run (cs 2 ((rN [.any,.any] (jI r29) [])::(cs 2 [oa]))) (fun γ=>Gb (GmS x27 t_1 r29 γ.2)) <|
  .sp (r29=(0:Int))
  (.run [bf] (fun γ=>Gb (Gx (Gu γ.2))) <|
  .gd (k15≤l_0.length) <| .run (cs 2 ((oN (.s 0 k15))::(.tr (.eqt (.t 28) (.lst (fl Gd.enc (List.take k15 l_0)) ((List.take k15 l_0).length))))::(cs 2 []))) (fun γ=>k2 (rfl:(↑k15:Int)=((k15:Nat):Int)) (k2 (⟨Nat.zero_le _,γ.2⟩:0≤k15∧k15≤l_0.length) (Gb ((Ya (RS (f:=Gd.enc) (z:=4) (fun _=>rfl) _ _) (by rw [List.length_take]; omega)):(.lst (List.take (k15*4) (fl Gd.enc l_0)) k15:AV)=.lst (fl Gd.enc (List.take k15 l_0)) ((List.take k15 l_0).length))))) <|
  .bd (lp (Jg l_0 t_1 k15 x27) (0:Nat)) fun qq=>.cs qq (fun o33=>.run [.fcut 2 .ret [(4,jI 12)] (KU l_0 t_1 k15 x27 (Sum.inl o33)) [0,1] [(0,.any),(3,.any),(6,.any),(13,.any),(14,.any),(15,.any),(28,.any),(29,.any),(30,jI (↑(0:Nat):Int))] [bS,bS]] (fun γ=>k2 (rfl:(jI 0:AV)=jI (↑(0:Nat):Int)) (Gb (Ux l_0 t_1 k15 x27 (s:=(0:Nat)) (r:=Sum.inl o33) (eS γ.1.2 γ.2)))) <|
  .leaf (.inr (.inl 12)) [0])
  (fun o33=>.run [.fcut 2 (.exit 2) (QD l_0 t_1 k15 x27 (Sum.inr (o33))) (KU l_0 t_1 k15 x27 (Sum.inr (o33))) [0,1] [(0,.any),(3,.any),(6,.any),(13,.any),(14,.any),(15,.any),(28,.any),(29,.any),(30,jI (↑(0:Nat):Int))] [bS,bS]] (fun γ=>k2 (rfl:(jI 0:AV)=jI (↑(0:Nat):Int)) (Gb (Ux l_0 t_1 k15 x27 (s:=(0:Nat)) (r:=Sum.inr (o33)) (eS γ.1.2 γ.2)))) <|
  .gd (GS .i64 ((↑k15:Int)+1)) <| .run [ow,oc] (fun γ=>Gb γ.2) <|
  .leaf (.inl (k15+1)) [0]))
  (.run (bt::(cs 2 [])) (fun γ=>Gb (Gy (Gz γ.2))) <|
  .leaf (.inr (.inl r29)) [0]))
  (.run [bf] (fun γ=>Gb (dF γ.2)) <|
  .leaf (.inr (.inr (()))) [0])
def Jm (l_0:(List Gd)) (t_1:Ga):Nat→Option (Nat⊕(Int⊕Unit)):=fun s=>(Ml l_0 t_1 s).den
def Zh (l_0:(List Gd)) (t_1:Ga):Nat→PS:=fun s=>(52,[(0,.lst (fl Gd.enc l_0) l_0.length),(3,.ptr 0 0),(13,.lst (fl Gd.enc l_0) l_0.length),(14,jI (↑l_0.length:Int)),(15,jI (↑s:Int))],[(bT (Ga.enc t_1) 28)])
def Zj:(Int⊕Unit)→Hm:=fun q=>match q with | Sum.inl o=>.ret | Sum.inr (o)=>(.exit 0)
def Zi (l_0:(List Gd)) (t_1:Ga):(Int⊕Unit)→List (Nat×AV):=fun q=>match q with | Sum.inl o=>[(4,jI o)] | Sum.inr (o)=>[]
def Zg (l_0:(List Gd)) (t_1:Ga):(Int⊕Unit)→List Hb:=fun _=>[(bT (Ga.enc t_1) 28)]
theorem Vr (l_0:(List Gd)) (t_1:Ga) {s:Nat} {r:Int⊕Unit} (h:lp (Jm l_0 t_1) s=some r):DT 1 (.loop (GK Tryz.prog 136 [1,1,0,1,0,0])) (Zh l_0 t_1 s).st (Zj r) (PS.st (52,Zi l_0 t_1 r,Zg l_0 t_1 r)):=
 GN.lp_ht 1 400 (Zh l_0 t_1) Zj (fun q=>(52,Zi l_0 t_1 q,Zg l_0 t_1 q)) (Ml l_0 t_1) (by intro k15; kernel_rfl) h
def Xo (l_0:(List Gd)) (t_1:Ga):HT Int True:=.run (cs 4 [oa]) (fun _=>Hg) <|
  .sp ((↑l_0.length:Int)>(1024:Int))
  (.run [bt,oc] (fun γ=>Gb (dT γ.2)) <|
  .leaf 3 [])
  (.run (bf::(cs 3 [])) (fun γ=>Gb (dF γ.2)) <|
  .bd (lp (Jm l_0 t_1) (0:Nat)) fun qq=>.cs qq (fun o2=>.run [.fcut 1 .ret [(4,jI o2)] [(bT (Ga.enc t_1) 28)] [0] [(0,.any),(3,.any),(13,.any),(14,.any),(15,jI (↑(0:Nat):Int))] [bS]] (fun γ=>k2 (rfl:(jI 0:AV)=jI (↑(0:Nat):Int)) (Gb (Vr l_0 t_1 (s:=(0:Nat)) (r:=Sum.inl o2) (eS γ.1.2 γ.2)))) <|
  .leaf o2 [])
  (fun o2=>.run [.fcut 1 (.exit 0) [] [(bT (Ga.enc t_1) 28)] [0] [(0,.any),(3,.any),(13,.any),(14,.any),(15,jI (↑(0:Nat):Int))] [bS],oc] (fun γ=>k2 (rfl:(jI 0:AV)=jI (↑(0:Nat):Int)) (Gb (Vr l_0 t_1 (s:=(0:Nat)) (r:=Sum.inr (o2)) (eS γ.1.2 γ.2)))) <|
  .leaf 0 []))
def U3 (l_0:(List Gd)) (t_1:Ga):Option Int:=(Xo l_0 t_1).den
theorem Uh (l_0:(List Gd)) (t_1:Ga) (r:Int) (h:U3 l_0 t_1=some r):RT 136 [.lst (fl Gd.enc l_0) l_0.length,.agg (Ga.enc t_1)] (jI r) []:=
 HA.of_ht 400 (Xo l_0 t_1) (fun (r:Int)=>jI r) (fun (r:Int)=>[]) (by kernel_rfl) h
end
set_option maxHeartbeats 4000000
noncomputable section
def vT (t:Ga):Ga:=if GkB t=0 then t else ⟨⟨[],[]⟩,[]⟩
theorem Gdz (t:Ga):Rz t=some (vT t):=by
 simp only [Rz,Yi,dA,Gdy,Hd,vT]
 by_cases h:GkB t=0 <;> simp only [h,if_true,if_false]
theorem GhS (t:Ga):Gg3 t=some (vT t):=by
 simp only [Gg3,Gkd,dA,GhR,Hd,vT]
 by_cases h:GkB t=0 <;> simp only [h,if_true,if_false]
theorem Go8 (n:Gf) (h:Gf9 n=0):Gk5 n=some n:=by
 simp only [Gk5,Gj5,dA,GhQ,Hd,h,if_true]
theorem Gw8 {t:Ga} (h:GkB t=0):Gf9 t.Net=0∧t.Systems.length≤64∧∀ (k:Nat) (x:Gr),t.Net.Points[k]?=some x→Gf7 t.Systems x=true:=by
 unfold GkB at h
 by_cases h0:Gf9 t.Net=0
 rotate_left
 ·rw [if_pos h0] at h; exact absurd h h0
 rw [if_neg (fun e=>e h0)] at h
 by_cases h1:t.Systems.length>64
 ·rw [if_pos h1] at h; cases h
 rw [if_neg h1] at h
 refine ⟨h0,by omega,fun k x hx=>?_⟩
 cases hs:GJ (Gr5 t.Systems) 0 t.Systems with
 | some r=>
  rw [hs] at h
  obtain ⟨i,y,h2,h3⟩:=RH hs
  simp only [Option.some_or,Option.getD_some] at h
  unfold Gr5 at h3
  grind
 | none=>
  rw [hs] at h
  cases he:GJ (fun _ x=>if Gf7 t.Systems x then none else some (16:Int)) 0 t.Net.Points with
  | some r=>
   rw [he] at h
   obtain ⟨i,y,h2,h3⟩:=RH he
   simp only [Option.none_or,Option.getD_some] at h
   grind
  | none=>
   have:=MI he k x hx
   grind
theorem GfA (t:Ga):Gf9 (vT t).Net=0∧(vT t).Systems.length≤64∧∀ (k:Nat) (x:Gr),(vT t).Net.Points[k]?=some x→Gf7 (vT t).Systems x=true:=by
 unfold vT
 by_cases h:GkB t=0
 ·rw [if_pos h]; exact Gw8 h
 ·rw [if_neg h]; exact ⟨rfl,by simp,fun k x hx=>by simp at hx⟩
theorem GiB {α β:Type} {p:α→Bool} {f:α→β}:∀ (l:List α) (k:Nat),GJ (fun _ x=>if p x then some (f x) else none) k l=(l.find? p).map f
 | [],k=>rfl
 | x::l,k=>by
  unfold GJ
  rw [List.find?_cons]
  rcases Hk (p x) with h | h
  ·simp [h]
  ·simp only [h,if_false,Bool.false_eq_true]; exact GiB l (k+1)
def ptN (name:List UInt8) (y:Gr):Bool:=decide (y.Name=name)
def Giv (l:List Gr) (name:List UInt8):Gr×Bool:=match l.find? (ptN name) with | some y=>(y,true) | none=>(⟨[],0,[]⟩,false)
theorem GjK (n:Gf) (h:Gf9 n=0) (name:List UInt8):Gbh n name=some (Giv n.Points name):=by
 simp only [Gbh,Gfo,dA,eN,eM,GhJ,Hd,h,if_true]
 have hs:Sm n.Points:=by have:=(Giq h).1; show _≤_; omega
 have key:lp (KN n name) 0=some (HQ (GJ (fun _ x=>if ptN name x then some (x.Name,x.Kind,x.System) else none) 0 n.Points)):=by
  refine GP (fun k x hx=>?_) ?_
  ·obtain ⟨hk,i1,i2,hkl,h1,h2⟩:=rd hs hx
   simp only [KN,UZ,dA,eN,eM,hx,Hd,i1,if_true,hkl,ptN,decide_eq_true_eq]
   by_cases e:x.Name=name <;> simp only [e,if_true,if_false,K0]
  ·simp only [KN,UZ,d3,d6,d1]
   rw [if_neg (by omega)]
 rw [key,GiB]
 unfold Giv
 cases n.Points.find? (ptN name) <;> rfl
theorem GrV (l:List Gr) (hl:l.length≤64) (name:List UInt8):Rl l 64 name=some ((GJ (ixG (ptN name)) 0 l).getD (-1)):=by
 simp only [Rl,Gfh,dA,eN,eM]
 have hs:Sm l:=by show _≤_; omega
 have key:lp (Jj l 64 name) 0=some (HQ (GJ (ixG (ptN name)) 0 l)):=by
  refine GP (fun k x hx=>?_) ?_
  ·obtain ⟨hk,i1,i2,hkl,h1,h2⟩:=rd hs hx
   have h64:(k:Int)<64:=by omega
   simp only [Jj,Qv,dA,eN,eM,hx,Hd,i1,if_true,hkl,h64,ixG,ptN,decide_eq_true_eq]
   by_cases e:x.Name=name <;> simp only [e,if_true,if_false,K0]
  ·simp only [Jj,Qv,d3,d6,d1,d5]
   by_cases h:l.length=64
   ·rw [if_neg (by omega)]
   ·rw [if_pos (by omega),if_neg (by omega)]
 rw [key]
 cases GJ (ixG (ptN name)) 0 l <;> rfl
theorem GjN (n:Gf) (h:Gf9 n=0) (name:List UInt8):Gk4 n name=some (Giv n.Points name):=by
 simp only [Gk4,Gms,dA,eN,eM,Go8 n h,GrV n.Points (Giq h).1,Hd]
 unfold Giv
 rcases X3 (p:=ptN name) n.Points with ⟨j,y,h1,h2,h3⟩ | ⟨h1,h3⟩
 ·rw [h1,h3]
  simp only [Option.getD_some,Int.toNat_natCast,h2,Hd]
  rw [if_neg (by omega),if_pos (by omega)]
 ·rw [h1,h3]; rfl
def Gkv (t:Ga) (name:List UInt8):Int:=(Giv (vT t).Net.Points name).1.Kind
theorem GmX (t:Ga) (name:List UInt8):Qz t name=some (Gkv t name):=by
 simp only [Qz,ZH,dA,Gdz,GjK _ (GfA t).1,Hd,Gkv]
theorem GpP (t:Ga) (name:List UInt8):Gil t name=some (Gkv t name):=by
 simp only [Gil,Gmt,dA,GhS,GjN _ (GfA t).1,Hd,Gkv]
def Gky (t:Ga) (name:List UInt8):Gm×Bool:=
 if (Giv (vT t).Net.Points name).2=true∧(Giv (vT t).Net.Points name).1.System≠[] then GeZ (vT t).Systems (Giv (vT t).Net.Points name).1.System else (GAt,false)
theorem GkC (t:Ga) (name:List UInt8):Qu t name=some (Gky t name):=by
 have hs:Sm (vT t).Systems:=by have:=(GfA t).2.1; show _≤_; omega
 simp only [Qu,Xs,dA,Gdz,GjK _ (GfA t).1,Yh _ hs,Hd,Gky]
 clear hs
 generalize Giv (vT t).Net.Points name=q
 obtain ⟨p,b⟩:=q
 cases b
 ·simp only [Bool.false_eq_true,false_and,if_false]; rfl
 ·by_cases e:p.System=[] <;> simp only [e,if_true,if_false,true_and,ne_eq,not_true_eq_false,not_false_eq_true] <;> rfl
theorem Gtd (t:Ga) (name:List UInt8) (h:(Giv (vT t).Net.Points name).2=true):Gf7 (vT t).Systems (Giv (vT t).Net.Points name).1=true:=by
 unfold Giv at h ⊢
 rcases X3 (p:=ptN name) (vT t).Net.Points with ⟨j,y,h1,h2,h3⟩ | ⟨h1,h3⟩
 ·rw [h3] at h ⊢
  exact (GfA t).2.2 j y h2
 ·rw [h3] at h; cases h
theorem GoI {l:List Gm} {p:Gr} (h:Gf7 l p=true) (h2:p.System≠[]):(GeZ l p.System).2=true:=by
 unfold Gf7 at h
 generalize GeZ l p.System=q at h ⊢
 obtain ⟨y,b⟩:=q
 cases b
 ·simp at h; grind
 ·rfl
theorem Gw3 {l:List Gm} {s:List UInt8} (h:(GeZ l s).2=true):(GeZ l s).1.Name=s:=by
 unfold GeZ at h ⊢
 cases he:l.find? (Gr4 s) with
 | none=>rw [he] at h; cases h
 | some y=>have h1:Gr4 s y=true:=List.find?_some he; exact of_decide_eq_true h1
theorem GnO (t:Ga) (name:List UInt8):Gen t name=some (Gky t name):=by
 have hs:Sm (vT t).Systems:=by have:=(GfA t).2.1; show _≤_; omega
 have hf:=Gtd t name
 simp only [Gen,Gg1,dA,GhS,GjN _ (GfA t).1,Hd,Gky]
 generalize Giv (vT t).Net.Points name=q at hf
 obtain ⟨p,b⟩:=q
 cases b
 ·simp only [Bool.false_eq_true,false_and,if_false]; rfl
 by_cases e:p.System=[]
 ·simp only [e,if_true,true_and,ne_eq,not_true_eq_false,if_false]; rfl
 have h2:=GoI (hf rfl) e
 obtain ⟨r,h3,h4,h5⟩:=GdS _ hs p.System
 have h6:=h4.2 h2
 simp only [e,if_true,if_false,true_and,ne_eq,not_false_eq_true,h3,Hd,h6,h5 h6]
 exact congrArg some (Prod.ext rfl h2.symm)
theorem Gw4 {t:Ga} {a b:List UInt8} (ha:Gkv t a=2) (hb:Gkv t b=3) (h:(Gky t a).1.Name=(Gky t b).1.Name):(Gky t a).1=(Gky t b).1:=by
 have gen:∀ c,Gkv t c≠0→∃ s,(Gky t c).1=(if s=[] then GAt else (GeZ (vT t).Systems s).1)∧(Gky t c).1.Name=s:=by
  intro c hc
  have hf:=Gtd t c
  unfold Gkv at hc
  unfold Gky
  have h2:(Giv (vT t).Net.Points c).2=true:=by
   unfold Giv at hc ⊢
   cases he:(vT t).Net.Points.find? (ptN c) with
   | none=>rw [he] at hc; exact absurd rfl hc
   | some y=>rfl
  have hf2:=hf h2
  by_cases e:(Giv (vT t).Net.Points c).1.System=[]
  ·refine ⟨[],?_,?_⟩ <;> rw [if_neg (fun q=>q.2 e)] <;> rfl
  ·have h3:=GoI hf2 e
   rw [if_pos ⟨h2,e⟩]
   exact ⟨_,(if_neg e).symm,Gw3 h3⟩
 obtain ⟨s,h1,h2⟩:=gen a (by omega)
 obtain ⟨s',h3,h4⟩:=gen b (by omega)
 obtain rfl:s=s':=by rw [← h2,← h4,h]
 rw [h1,h3]
def Gu6 (t:Ga) (r:GC):Bool:=
 if r.To=[] then decide (Gkv t r.From=1) else decide (Gkv t r.From=2∧Gkv t r.To=3∧(Gky t r.From).1.Name=(Gky t r.To).1.Name)
theorem GnY (r:GC) (t:Ga):GaD r t=some (Gu6 t r):=by
 simp only [GaD,GbT,dA,GmX,GkC,Hd,Gu6]
 have hs:=Gw4 (t:=t) (a:=r.From) (b:=r.To)
 by_cases e:r.To=[]
 ·simp only [e,if_true]; exact congrArg some rfl
 simp only [e,if_false]
 by_cases h1:Gkv t r.From=2 <;> simp only [h1,if_true,if_false,true_and,false_and,decide_false]
 by_cases h2:Gkv t r.To=3 <;> simp only [h2,if_true,if_false,true_and,false_and,decide_false]
 by_cases h3:(Gky t r.From).1.Name=(Gky t r.To).1.Name
 ·have:=hs h1 h2 h3
  rw [this]
  simp
 ·rw [beq_false_of_ne h3,dF h3]; rfl
theorem Gpf (r:GC) (t:Ga):Gll t r=some (Gu6 t r):=by
 simp only [Gll,Gkg,dA,GpP,GnO,Hd,Gu6]
 by_cases e:r.To=[]
 ·simp only [e,if_true]; exact congrArg some rfl
 simp only [e,if_false]
 by_cases h1:Gkv t r.From=2 <;> simp only [h1,if_true,if_false,true_and,false_and,decide_false]
 by_cases h2:Gkv t r.To=3 <;> simp only [h2,if_true,if_false,true_and,false_and,decide_false]
 exact congrArg some (by rw [Bool.eq_iff_iff]; simp)
end
set_option maxHeartbeats 4000000
noncomputable section
def Gl0 (x y:GC):Bool:=decide (y.From=x.From∧y.To=x.To∧y.Class=x.Class∧y.Band=x.Band)
def Grb (name:List UInt8) (y:GR):Bool:=decide (y.Name=name)
theorem GmU (r:GC) (l:List GC) (hl:Sm l):lp (Jz r l) 0=some (HQ (GJ (ixG (Gl0 r)) 0 l)):=by
 refine GP (fun k x hx=>?_) ?_
 ·obtain ⟨hk,i1,i2,hkl,h1,h2⟩:=rd hl hx
  have hb:(((x.From==r.From)&&((x.To==r.To)&&((x.Class==r.Class)&&((x.Band==r.Band)&&((r.Cents==r.Cents)&&true)))))=true)=(Gl0 r x=true):=by
   unfold Gl0; simp
  simp only [Jz,R4,dA,eN,eM,hx,Hd,i1,if_true,hkl,ixG,hb]
  by_cases e:Gl0 r x=true <;> simp only [e,if_true,if_false,Bool.false_eq_true,K0]
 ·simp only [Jz,R4,d3,d6,d1]
  rw [if_neg (by omega)]
theorem GmT (r:GC) (x:Gd) (hl:Sm x.Bands):lp (Kd r x) 0=some (HQ (GJ (ixG (Grb r.Band)) 0 x.Bands)):=by
 refine GP (fun k y hx=>?_) ?_
 ·obtain ⟨hk,i1,i2,hkl,h1,h2⟩:=rd hl hx
  simp only [Kd,Q3,dA,eN,eM,hx,Hd,i1,if_true,hkl,ixG,Grb,decide_eq_true_eq]
  by_cases e:y.Name=r.Band <;> simp only [e,if_true,if_false,K0]
 ·simp only [Kd,Q3,d3,d6,d1]
  rw [if_neg (by omega)]
def GwR (t:Ga) (x:Gd) (l:List GC) (r:GC):Int:=
 if Gu6 t r=false then 16 else if r.Class<1∨r.Class>9 then 20 else if r.Band≠[]∧x.Bands.any (Grb r.Band)=false then 10
 else if r.Cents<0∨r.Cents>1125899906842624 then 13 else if l.any (Gl0 r) then 9 else 0
theorem Gsp {α:Type} (p:α→Bool) (l:List α):(∃ j:Nat,GJ (ixG p) 0 l=some (j:Int)∧l.any p=true)∨(GJ (ixG p) 0 l=none∧l.any p=false):=by
 rw [Goq]
 rcases X3 (p:=p) l with ⟨j,y,f1,f2,f3⟩ | ⟨f1,f3⟩
 ·exact .inl ⟨j,f1,by rw [f3]; rfl⟩
 ·exact .inr ⟨f1,by rw [f3]; rfl⟩
theorem Gpx (r:GC) (l:List GC) (hl:Sm l) (x:Gd) (hb:Sm x.Bands) (t:Ga):Gds r l x t=some (GwR t x l r):=by
 simp only [Gds,GdW,dA,GnY,GmU r l hl,GmT r x hb,Hd,GwR]
 clear hl hb
 rcases Gsp (Gl0 r) l with ⟨j,f1,f2⟩ | ⟨f1,f2⟩ <;> rcases Gsp (Grb r.Band) x.Bands with ⟨i,g1,g2⟩ | ⟨g1,g2⟩ <;> simp only [f1,f2,g1,g2,HQ,eN,eM] <;>
  clear f1 f2 g1 g2 <;> rcases Hk (Gu6 t r) with hr | hr <;> simp only [hr,if_true,if_false,Bool.true_eq_false,Bool.false_eq_true,and_true,and_false] <;> grind
theorem Gpe (l:List GR) (hl:Sm l) (name:List UInt8):Glk l name=some (l.any (Grb name)):=by
 simp only [Glk,Gkf,dA]
 have key:lp (MT l name) 0=some (HQ (if l.any (Grb name) then some () else none)):=by
  rw [← Hq l 0]
  refine GP (fun k x hx=>?_) ?_
  ·obtain ⟨hk,i1,i2,hkl,h1,h2⟩:=rd hl hx
   simp only [MT,Yt,dA,eN,eM,hx,Hd,i1,if_true,hkl,Grb,decide_eq_true_eq]
   by_cases e:x.Name=name <;> simp only [e,if_true,if_false,K0]
  ·simp only [MT,Yt,d3,d6,d1]
   rw [if_neg (by omega)]
 rw [key]
 rcases Hk (l.any (Grb name)) with h | h <;> rw [h] <;> rfl
theorem GpQ (x:Gd) (hb:Sm x.Bands) (hl:Sm x.Rates) (t:Ga) {k:Nat} {r:GC} (hx:x.Rates[k]?=some r):Gn5 x t (k:Int)=some (GwR t x (x.Rates.take k) r):=by
 have key:lp (KG x (k:Int) r) 0=some (HQ (if (x.Rates.take k).any (Gl0 r) then some () else none)):=by
  have hk:=Hl hx
  rw [← Hq (x.Rates.take k) 0]
  refine JW (l:=x.Rates) (n:=k) (by omega) (fun j y hj hy=>?_) ?_
  ·obtain ⟨_,i3,_,_,_,_⟩:=rd hl hy
   have hjk:(j:Int)<(k:Int):=by omega
   simp only [KG,Yu,dA,hy,Hd,i3,if_true,hjk,Gl0]
   clear i3 hl hb
   by_cases c1:y.From=r.From <;> by_cases c2:y.To=r.To <;> by_cases c3:y.Class=r.Class <;> by_cases c4:y.Band=r.Band <;>
    simp only [c1,c2,c3,c4,if_true,if_false,and_self,and_true,and_false,true_and,false_and,decide_true,decide_false,Bool.false_eq_true,K0]
  ·simp only [KG,Yu,d3,d6,d1]
   rw [if_neg (by omega)]
 have h0:(0:Int)≤(k:Int):=by omega
 simp only [Gn5,Gmv,dA,h0,if_true,Int.toNat_natCast,hx,Gpf,Gpe _ hb,key,Hd,GwR]
 clear hl hb hx key
 rcases Hk (Gu6 t r) with hr | hr <;> rcases Hk ((x.Rates.take k).any (Gl0 r)) with f2 | f2 <;> rcases Hk (x.Bands.any (Grb r.Band)) with g2 | g2 <;>
  simp only [hr,f2,g2,HQ,eN,eM,if_true,if_false,Bool.true_eq_false,Bool.false_eq_true,and_true,and_false] <;> grind
theorem Go7 (i:Gp):Gk2 i=some (Ub i):=by
 simp only [Gk2,Gj3,d1,d2,d3,d6,Ub]; grind
def Gt5 (_:Nat) (x:GR):Option Int:=if HR x.Name=false then some 6 else if Xv x.Window=false then some 1 else none
def Gu4 (t:Ga) (x:Gd) (k:Nat) (r:GC):Option Int:=if GwR t x (x.Rates.take k) r≠0 then some (GwR t x (x.Rates.take k) r) else none
def Gw6 (t:Ga) (x:Gd):Int:=
 if Ub x.Valid=false then 12 else if x.Bands.length>1024∨x.Rates.length>1024 then 3 else ((GJ Gt5 0 x.Bands).or (GJ (Gu4 t x) 0 x.Rates)).getD 0
theorem GnW (x:Gd) (t:Ga):GaC x t=some (Gw6 t x):=by
 simp only [GaC,GbS,dA,eN,eM,Uw,Hd]
 unfold Gw6
 rcases Hk (Ub x.Valid) with hv | hv <;> simp only [hv,if_true,if_false,Bool.true_eq_false,Bool.false_eq_true]
 by_cases c1:x.Bands.length>1024
 ·rw [if_pos (by omega),if_pos (.inl c1)]
 by_cases c2:x.Rates.length>1024
 ·rw [if_neg (by omega),if_pos (by omega),if_pos (.inr c2)]
 rw [if_neg (by omega),if_neg (by omega),if_neg (by omega)]
 have hb:Sm x.Bands:=by show _≤_; omega
 have hr:Sm x.Rates:=by show _≤_; omega
 have k1:lp (Kc x t) 0=some (HQ (GJ Gt5 0 x.Bands)):=by
  refine GP (fun k y hx=>?_) ?_
  ·obtain ⟨hk,i1,i2,hkl,h1,h2⟩:=rd hb hx
   simp only [Kc,Q2,dA,eN,eM,hx,Hd,JX,i1,if_true,hkl,Gt5,Xv]
   clear i1 i2 hb hr
   grind [K0]
  ·simp only [Kc,Q2,d3,d6,d1]
   rw [if_neg (by omega)]
 have k2:lp (JL x t) 0=some (HQ (GJ (Gu4 t x) 0 x.Rates)):=by
  refine GP (fun k y hx=>?_) ?_
  ·obtain ⟨hk,i1,i2,hkl,h1,h2⟩:=rd hr hx
   have hkl2:k≤x.Rates.length:=by omega
   have hst:Sm (x.Rates.take k):=by show _≤_; rw [List.length_take]; omega
   simp only [JL,Qi,dA,eN,eM,hx,Hd,Gpx _ _ hst _ hb,i1,if_true,hkl,hkl2,Gu4]
   clear i1 i2 hb hr hst
   grind [K0]
  ·simp only [JL,Qi,d3,d6,d1]
   rw [if_neg (by omega)]
 rw [k1]
 cases GJ Gt5 0 x.Bands with
 | some r=>rfl
 | none=>
  simp only [HQ,Hd,eM,k2,Option.none_or]
  cases GJ (Gu4 t x) 0 x.Rates <;> rfl
theorem Gpd (x:Gd) (t:Ga):Glj x t=some (Gw6 t x):=by
 simp only [Glj,Gke,dA,eN,eM,Go7,Hd]
 unfold Gw6
 rcases Hk (Ub x.Valid) with hv | hv <;> simp only [hv,if_true,if_false,Bool.true_eq_false,Bool.false_eq_true]
 by_cases c1:x.Bands.length>1024
 ·rw [if_pos (by omega),if_pos (.inl c1)]
 by_cases c2:x.Rates.length>1024
 ·rw [if_neg (by omega),if_pos (by omega),if_pos (.inr c2)]
 rw [if_neg (by omega),if_neg (by omega),if_neg (by omega)]
 have hb:Sm x.Bands:=by show _≤_; omega
 have hr:Sm x.Rates:=by show _≤_; omega
 have k1:lp (MS x t) 0=some (HQ (GJ Gt5 0 x.Bands)):=by
  refine GP (fun k y hx=>?_) ?_
  ·obtain ⟨hk,i1,i2,hkl,h1,h2⟩:=rd hb hx
   simp only [MS,Ys,dA,eN,eM,hx,Hd,Ms,Za,i1,if_true,hkl,Gt5]
   clear i1 i2 hb hr
   rcases Hk (HR y.Name) with hn | hn <;> rcases Hk (Xv y.Window) with hw | hw <;> simp only [hn,hw,if_true,if_false,Bool.true_eq_false,Bool.false_eq_true,K0]
  ·simp only [MS,Ys,d3,d6,d1]
   rw [if_neg (by omega)]
 have k2:lp (Ma x t) 0=some (HQ (GJ (Gu4 t x) 0 x.Rates)):=by
  refine GP (fun k y hx=>?_) ?_
  ·obtain ⟨hk,i1,i2,hkl,h1,h2⟩:=rd hr hx
   simp only [Ma,V6,dA,eN,eM,GpQ x hb hr t hx,Hd,i1,if_true,hkl,Gu4]
   clear i1 i2 hb hr
   grind [K0]
  ·simp only [Ma,V6,d3,d6,d1]
   rw [if_neg (by omega)]
 rw [k1]
 cases GJ Gt5 0 x.Bands with
 | some r=>rfl
 | none=>
  simp only [HQ,Hd,eM,k2,Option.none_or]
  cases GJ (Gu4 t x) 0 x.Rates <;> rfl
def Gu0 (x y:Gd):Bool:=decide (x.Valid.From<y.Valid.To∧y.Valid.From<x.Valid.To)
def Gvc (t:Ga) (l:List Gd) (k:Nat) (x:Gd):Option Int:=
 if Gw6 t x≠0 then some (Gw6 t x) else if (l.take k).any (Gu0 x) then some 12 else none
def Gr8 (t:Ga) (l:List Gd):Int:=if l.length>1024 then 3 else (GJ (Gvc t l) 0 l).getD 0
theorem GkA (l:List Gd) (t:Ga):U3 l t=some (Gr8 t l):=by
 simp only [U3,Xo,dA,Gr8]
 by_cases hl:l.length>1024
 ·rw [if_pos (by omega),if_pos hl]
 rw [if_neg (by omega),if_neg hl]
 have hs:Sm l:=by show _≤_; omega
 have key:lp (Jm l t) 0=some (HQ (GJ (Gvc t l) 0 l)):=by
  refine GP (fun k x hx=>?_) ?_
  ·obtain ⟨hk,i1,i2,hkl,h1,h2⟩:=rd hs hx
   have hkl2:k≤l.length:=by omega
   have hq:lp (Jg l t k x) 0=some (HQ (if (l.take k).any (Gu0 x) then some () else none)):=by
    have hst:Sm (l.take k):=by show _≤_; rw [List.length_take]; omega
    rw [← Hq (l.take k) 0]
    refine GP (fun j y hy=>?_) ?_
    ·obtain ⟨_,i3,_,hjl,_,_⟩:=rd hst hy
     simp only [Jg,KV,dA,hy,Hd,i3,if_true,hjl,Gu0]
     clear i1 i2 i3 hs hst
     grind [K0]
    ·simp only [Jg,KV,d3,d6,d1]
     rw [if_neg (by omega)]
   simp only [Jm,Ml,dA,hx,hq,Hd,GnW,i1,if_true,hkl,hkl2,Gvc]
   clear i1 i2 hs hq
   rcases Hk ((l.take k).any (Gu0 x)) with hh | hh <;> simp only [hh,HQ,eN,eM,if_true,if_false,Bool.false_eq_true] <;> grind [K0]
  ·simp only [Jm,Ml,d3,d6,d1]
   rw [if_neg (by omega)]
 rw [key]
 cases GJ (Gvc t l) 0 l <;> rfl
theorem GlQ (l:List Gd) (t:Ga):Ro l t=some (Gr8 t l):=by
 simp only [Ro,GdI,dA,Gr8]
 by_cases hl:l.length>1024
 ·rw [if_pos (by omega),if_pos hl]
 rw [if_neg (by omega),if_neg hl]
 have hs:Sm l:=by show _≤_; omega
 have key:lp (Ks l t) 0=some (HQ (GJ (Gvc t l) 0 l)):=by
  refine GP (fun k x hx=>?_) ?_
  ·obtain ⟨hk,i1,i2,hkl,h1,h2⟩:=rd hs hx
   have hq:lp (J3 l t k) 0=some (HQ (if (l.take k).any (Gu0 x) then some () else none)):=by
    rw [← Hq (l.take k) 0]
    refine JW (l:=l) (n:=k) (by omega) (fun j y hj hy=>?_) ?_
    ·obtain ⟨_,i3,_,_,_,_⟩:=rd hs hy
     have hjk:(j:Int)<(k:Int):=by omega
     simp only [J3,QM,dA,hx,hy,Hd,i3,if_true,hjk,Gu0]
     clear i1 i2 i3 hs
     grind [K0]
    ·simp only [J3,QM,d3,d6,d1]
     rw [if_neg (by omega)]
   simp only [Ks,RK,dA,hx,hq,Hd,Gpd,i1,if_true,hkl,Gvc]
   clear i1 i2 hs hq
   rcases Hk ((l.take k).any (Gu0 x)) with hh | hh <;> simp only [hh,HQ,eN,eM,if_true,if_false,Bool.false_eq_true] <;> grind [K0]
  ·simp only [Ks,RK,d3,d6,d1]
   rw [if_neg (by omega)]
 rw [key]
 cases GJ (Gvc t l) 0 l <;> rfl
end
end Go.Proofs.YtdifanfcaemokaaGreatDoor.Av
