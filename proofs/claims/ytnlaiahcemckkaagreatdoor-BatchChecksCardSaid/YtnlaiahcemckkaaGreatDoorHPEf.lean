import Derived.Test.YtnlaiahcemckkaaGreatDoorHPEi
open Prod (fst)
open Int (tdiv tmod)
set_option maxHeartbeats 4000000
set_option maxRecDepth 100000
set_option linter.unusedVariables false
set_option linter.unusedSimpArgs false
namespace Go.Proofs.YtnlaiahcemckkaaGreatDoor.Av
noncomputable section
open Go Go.Proofs
def VQ (t_0:Ga):HT Ga True:=.run (cs 2 []) (fun _=>He) <|
  .bd (QU t_0) fun r1=>.run [oc,.ret none [.any] (jI r1) [],oa] (fun γ=>Gb (Jy t_0 r1 γ.2)) <|
  .sp (r1=(0:Int))
  (.run (bf::(cs 2 [])) (fun γ=>Gb (Gs (Gp γ.2))) <|
  .leaf t_0 [])
  (.run (bt::(cs 2 [])) (fun γ=>Gb (Gu (Gw γ.2))) <|
  .leaf (⟨(⟨[],[]⟩:Gc),[]⟩:Ga) [])
def QH (t_0:Ga):Option Ga:=(VQ t_0).den
theorem GaK (t_0:Ga) (r:Ga) (h:QH t_0=some r):G5 Tryz.prog GT 436 [.agg (Ga.enc t_0)] (.agg (Ga.enc r)) []:=
 G5.of_ht 400 (VQ t_0) (fun (r:Ga)=>.agg (Ga.enc r)) (fun (r:Ga)=>[]) (by kernel_rfl) h
def RR (n_0:Gc) (name_1:(List UInt8)):Nat→HT (Nat⊕(((List UInt8)×Int×(List UInt8))⊕Unit)) True
 | k15=>.run [oa] (fun _=>He) <|
  .sp ((↑k15:Int)<(↑n_0.Points.length:Int))
  (.run [bt] (fun γ=>Gb (dT γ.2)) <|
  .bd (n_0.Points[k15]?) fun x11=>.run ((.op none (.i k15))::(.op none (.v [.str x11.Name,jI x11.Kind,.str x11.System]))::(cs 5 [oa])) (fun γ=>k2 (ir γ.2) (k2 (GC (f:=Gq.enc) (z:=2) (fun _=>rfl) γ.2) (Gb (GU (f:=Gq.enc) (z:=3) (j:=k15) (fun _=>rfl) γ.2 rfl)))) <|
  .sp (x11.Name=name_1)
  (.run (bt::(cs 3 [])) (fun γ=>Gb (Gp γ.2)) <|
  .leaf (Sum.inr (Sum.inl (x11.Name,x11.Kind,x11.System))) [0])
  (.run [bf] (fun γ=>Gb (Gw γ.2)) <|
  .gd (GP .i64 ((↑k15:Int)+1)) <| .run [ow,oc] (fun γ=>Gb γ.2) <|
  .leaf (Sum.inl (k15+1)) [0]))
  (.run [bf] (fun γ=>Gb (dF γ.2)) <|
  .leaf (Sum.inr (Sum.inr (()))) [0])
def Ko (n_0:Gc) (name_1:(List UInt8)):Nat→Option (Nat⊕(((List UInt8)×Int×(List UInt8))⊕Unit)):=fun s=>(RR n_0 name_1 s).den
def Gev (n_0:Gc) (name_1:(List UInt8)):Nat→PS:=fun s=>(26,[(1,.str name_1),(4,.ptr 0 0),(13,.lst (fl Gq.enc n_0.Points) n_0.Points.length),(14,jI (↑n_0.Points.length:Int)),(15,jI (↑s:Int))],[(bT [.str [],jI 0,.str []] 160)])
def Gej:(((List UInt8)×Int×(List UInt8))⊕Unit)→Hm:=fun q=>match q with | Sum.inl o=>.ret | Sum.inr (o)=>(.exit 0)
def Geu (n_0:Gc) (name_1:(List UInt8)):(((List UInt8)×Int×(List UInt8))⊕Unit)→List (Nat×AV):=fun q=>match q with | Sum.inl o=>[(4,.ptr 0 0),(5,.bool true)] | Sum.inr (o)=>[(4,.ptr 0 0)]
def Yp (n_0:Gc) (name_1:(List UInt8)):(((List UInt8)×Int×(List UInt8))⊕Unit)→List G6:=fun q=>match q with | Sum.inl o=>[(bT [.str o.1,jI o.2.1,.str o.2.2] 160)] | Sum.inr (o)=>[(bT [.str [],jI 0,.str []] 160)]
theorem GaC (n_0:Gc) (name_1:(List UInt8)) {s:Nat} {r:((List UInt8)×Int×(List UInt8))⊕Unit} (h:lp (Ko n_0 name_1) s=some r):GI Tryz.prog GT 1 (.loop (GO Tryz.prog 435 [1,1,0,1,0,0])) (Gev n_0 name_1 s).st (Gej r) (PS.st (26,Geu n_0 name_1 r,Yp n_0 name_1 r)):=
 GI.lp_ht 1 400 (Gev n_0 name_1) Gej (fun q=>(26,Geu n_0 name_1 q,Yp n_0 name_1 q)) (RR n_0 name_1) (by intro k15; kernel_rfl) h
def Gd3 (n_0:Gc) (name_1:(List UInt8)):HT (Gq×Bool) True:=.run (cs 3 []) (fun _=>He) <|
  .bd (Ye n_0) fun r1=>.run [oc,.ret none [.any] (jI r1) [],oa] (fun γ=>Gb (Gem n_0 r1 γ.2)) <|
  .sp (r1=(0:Int))
  (.run (bf::(cs 4 [])) (fun γ=>Gb (Gs (Gp γ.2))) <|
  .bd (lp (Ko n_0 name_1) (0:Nat)) fun qq=>.cs qq (fun o4=>.run [.fcut 1 .ret [(4,.ptr 0 0),(5,.bool true)] (Yp n_0 name_1 (Sum.inl o4)) [1] [(1,.any),(4,.any),(13,.any),(14,.any),(15,jI (↑(0:Nat):Int))] [bS]] (fun γ=>k2 (rfl:(jI 0:AV)=jI (↑(0:Nat):Int)) (Gb (GaC n_0 name_1 (s:=(0:Nat)) (r:=Sum.inl o4) (eS γ.1.2 γ.2)))) <|
  .leaf ((⟨o4.1,o4.2.1,o4.2.2⟩:Gq),true) [])
  (fun o4=>.run ((.fcut 1 (.exit 0) [(4,.ptr 0 0)] [(bT [.str [],jI 0,.str []] 160)] [1] [(1,.any),(4,.any),(13,.any),(14,.any),(15,jI (↑(0:Nat):Int))] [bS])::(cs 3 [])) (fun γ=>k2 (rfl:(jI 0:AV)=jI (↑(0:Nat):Int)) (Gb (GaC n_0 name_1 (s:=(0:Nat)) (r:=Sum.inr (o4)) (eS γ.1.2 γ.2)))) <|
  .leaf ((⟨([]:List UInt8),0,([]:List UInt8)⟩:Gq),false) []))
  (.run (bt::(cs 3 [])) (fun γ=>Gb (Gu (Gw γ.2))) <|
  .leaf ((⟨([]:List UInt8),0,([]:List UInt8)⟩:Gq),false) [])
def GaA (n_0:Gc) (name_1:(List UInt8)):Option (Gq×Bool):=(Gd3 n_0 name_1).den
theorem Gf4 (n_0:Gc) (name_1:(List UInt8)) (r:(Gq×Bool)) (h:GaA n_0 name_1=some r):G5 Tryz.prog GT 435 [.agg (Gc.enc n_0),.str name_1] (.tup [.agg (Gq.enc r.1),.bool r.2]) []:=
 G5.of_ht 400 (Gd3 n_0 name_1) (fun (r:(Gq×Bool))=>.tup [.agg (Gq.enc r.1),.bool r.2]) (fun (r:(Gq×Bool))=>[]) (by kernel_rfl) h
def Yk (t_0:Ga) (point_1:(List UInt8)):HT Int True:=.run (cs 2 []) (fun _=>He) <|
  .bd (QH t_0) fun r1=>.bd (GaA r1.Net point_1) fun r3=>.run (oc::(.ret none [.any] (.agg (Ga.enc r1)) [])::(cs 2 ((.ret none [.any,.any] (.tup [.agg (Gq.enc r3.1),.bool r3.2]) [])::(cs 9 [])))) (fun γ=>k2 (GaK t_0 r1 γ.1.2) (Gb (Gf4 r1.Net point_1 r3 γ.2))) <|
  .leaf r3.1.Kind []
def M9 (t_0:Ga) (point_1:(List UInt8)):Option Int:=(Yk t_0 point_1).den
theorem JV (t_0:Ga) (point_1:(List UInt8)) (r:Int) (h:M9 t_0 point_1=some r):G5 Tryz.prog GT 359 [.agg (Ga.enc t_0),.str point_1] (jI r) []:=
 G5.of_ht 400 (Yk t_0 point_1) (fun (r:Int)=>jI r) (fun (r:Int)=>[]) (by kernel_rfl) h
def U0 (t_0:Ga) (point_1:(List UInt8)):HT (Gi×Bool) True:=.run (cs 3 []) (fun _=>He) <|
  .bd (QH t_0) fun r1=>.run [oc,.ret none [.any] (.agg (Ga.enc r1)) [],oc] (fun γ=>Gb (GaK t_0 r1 γ.2)) <|
  .bd (GaA r1.Net point_1) fun r3=>.run (cs 3 ((.ret none [.any,.any] (.tup [.agg (Gq.enc r3.1),.bool r3.2]) [])::(cs 6 []))) (fun γ=>Gb (Gf4 r1.Net point_1 r3 γ.2)) <|
  .sp (r3.2=true)
  (.run (cs 3 [oF,oc,oa,oc]) (fun γ=>Gb ((Gs γ.2):(!r3.2)=false)) <|
  .sp (r3.1.System=[])
  (.run (bt::(cs 3 [])) (fun γ=>Gb (Gp γ.2)) <|
  .leaf ((⟨([]:List UInt8),false,0⟩:Gi),false) [])
  (.run [bf] (fun γ=>Gb (Gw γ.2)) <|
  .bd (M5 r1.Systems r3.1.System) fun r7=>.run (cs 4 ((.ret none [.any,.any] (.tup [.agg (Gi.enc r7.1),.bool r7.2]) [])::(cs 4 []))) (fun γ=>Gb (U8 r1.Systems r3.1.System r7 γ.2)) <|
  .leaf (r7.1,r7.2) []))
  (.run (cs 3 (tc::(cs 3 (bt::(cs 3 []))))) (fun γ=>k2 ((Gu (eq_false_of_ne_true γ.2)):(!r3.2)=true) (Gb (rfl:true=true))) <|
  .leaf ((⟨([]:List UInt8),false,0⟩:Gi),false) [])
def M4 (t_0:Ga) (point_1:(List UInt8)):Option (Gi×Bool):=(U0 t_0 point_1).den
theorem YJ (t_0:Ga) (point_1:(List UInt8)) (r:(Gi×Bool)) (h:M4 t_0 point_1=some r):G5 Tryz.prog GT 408 [.agg (Ga.enc t_0),.str point_1] (.tup [.agg (Gi.enc r.1),.bool r.2]) []:=
 G5.of_ht 400 (U0 t_0 point_1) (fun (r:(Gi×Bool))=>.tup [.agg (Gi.enc r.1),.bool r.2]) (fun (r:(Gi×Bool))=>[]) (by kernel_rfl) h
def Gag (r_0:Gz) (t_1:Ga):HT Bool True:=.run (cs 5 [oa]) (fun _=>He) <|
  .sp (r_0.To=[])
  (.run [bt] (fun γ=>Gb (Gp γ.2)) <|
  .bd (M9 t_1 r_0.From) fun r2=>.run (cs 3 [.ret none [.any,.any] (jI r2) [],oa,oc]) (fun γ=>Gb (JV t_1 r_0.From r2 γ.2)) <|
  .leaf (r2==(1:Int)) [])
  (.run [bf] (fun γ=>Gb (Gw γ.2)) <|
  .bd (M4 t_1 r_0.From) fun r4=>.run (cs 3 ((.ret none [.any,.any] (.tup [.agg (Gi.enc r4.1),.bool r4.2]) [])::(cs 6 []))) (fun γ=>Gb (YJ t_1 r_0.From r4 γ.2)) <|
  .bd (M4 t_1 r_0.To) fun r6=>.run (cs 3 ((.ret none [.any,.any] (.tup [.agg (Gi.enc r6.1),.bool r6.2]) [])::(cs 6 []))) (fun γ=>Gb (YJ t_1 r_0.To r6 γ.2)) <|
  .bd (M9 t_1 r_0.From) fun r8=>.sp (r8=(2:Int))
  (.bd (M9 t_1 r_0.To) fun r11=>.sp (r11=(3:Int))
  (.run (cs 3 ((.ret none [.any,.any] (jI r8) [])::oa::oc::tc::(cs 2 ((.ret none [.any,.any] (jI r11) [])::oa::(cs 2 (tc::(cs 4 []))))))) (fun γ=>k2 (JV t_1 r_0.From r8 γ.1.1.1.2) (k2 (Gp γ.1.1.2) (k2 (JV t_1 r_0.To r11 γ.1.2) (Gb (Gp γ.2))))) <|
  .leaf ((r4.1.Name==r6.1.Name)&&((r4.1.Closed==r6.1.Closed)&&((r4.1.Most==r6.1.Most)&&true))) [])
  (.run (cs 3 ((.ret none [.any,.any] (jI r8) [])::oa::oc::tc::(cs 2 ((.ret none [.any,.any] (jI r11) [])::oa::(cs 2 (oF::(cs 4 []))))))) (fun γ=>k2 (JV t_1 r_0.From r8 γ.1.1.1.2) (k2 (Gp γ.1.1.2) (k2 (JV t_1 r_0.To r11 γ.1.2) (Gb (Gw γ.2))))) <|
  .leaf false []))
  (.run (cs 3 ((.ret none [.any,.any] (jI r8) [])::oa::oc::oF::(cs 11 []))) (fun γ=>k2 (JV t_1 r_0.From r8 γ.1.2) (Gb (Gw γ.2))) <|
  .leaf false []))
def Zp (r_0:Gz) (t_1:Ga):Option Bool:=(Gag r_0 t_1).den
theorem GkK (r_0:Gz) (t_1:Ga) (r:Bool) (h:Zp r_0 t_1=some r):G5 Tryz.prog GT 326 [.agg (Gz.enc r_0),.agg (Ga.enc t_1)] (.bool r) []:=
 G5.of_ht 400 (Gag r_0 t_1) (fun (r:Bool)=>.bool r) (fun (r:Bool)=>[]) (by kernel_rfl) h
def Rj (r_0:Gz) (before_1:(List Gz)):Nat→HT (Nat⊕(Int⊕Unit)) True
 | k8=>.run [oa] (fun _=>He) <|
  .sp ((↑k8:Int)<(↑before_1.length:Int))
  (.run (bt::(cs 2 [])) (fun γ=>Gb (dT γ.2)) <|
  .bd (before_1[k8]?) fun x16=>.run (cs 3 ((.op none (.i k8))::(.op none (.v [.str x16.From,.str x16.To,jI x16.Class,.str x16.Band,jI x16.Cents]))::(cs 11 []))) (fun γ=>k2 (ir γ.2) (k2 (GC (f:=Gz.enc) (z:=4) (fun _=>rfl) γ.2) (Gb (GU (f:=Gz.enc) (z:=5) (j:=k8) (fun _=>rfl) γ.2 rfl)))) <|
  .sp (((x16.From==r_0.From)&&((x16.To==r_0.To)&&((x16.Class==r_0.Class)&&((x16.Band==r_0.Band)&&((r_0.Cents==r_0.Cents)&&true)))))=true)
  (.run (bt::(cs 2 [])) (fun γ=>Gb γ.2) <|
  .leaf (Sum.inr (Sum.inl (↑k8:Int))) [0])
  (.run [bf] (fun γ=>Gb ((eq_false_of_ne_true γ.2):((x16.From==r_0.From)&&((x16.To==r_0.To)&&((x16.Class==r_0.Class)&&((x16.Band==r_0.Band)&&((r_0.Cents==r_0.Cents)&&true)))))=false)) <|
  .gd (GP .i64 ((↑k8:Int)+1)) <| .run [ow,oc] (fun γ=>Gb γ.2) <|
  .leaf (Sum.inl (k8+1)) [0]))
  (.run [bf] (fun γ=>Gb (dF γ.2)) <|
  .leaf (Sum.inr (Sum.inr (()))) [0])
def Jk (r_0:Gz) (before_1:(List Gz)):Nat→Option (Nat⊕(Int⊕Unit)):=fun s=>(Rj r_0 before_1 s).den
def Gdz (r_0:Gz) (before_1:(List Gz)):Nat→PS:=fun s=>(19,[(0,.lst (fl Gz.enc before_1) before_1.length),(1,.fn (.func 325) [] [.ptr 0 0]),(7,jI (↑before_1.length:Int)),(8,jI (↑s:Int))],[(bT (Gz.enc r_0) 168)])
def Gdt:(Int⊕Unit)→Hm:=fun q=>match q with | Sum.inl o=>.ret | Sum.inr (o)=>(.exit 0)
def Gc8 (r_0:Gz) (before_1:(List Gz)):(Int⊕Unit)→List (Nat×AV):=fun q=>match q with | Sum.inl o=>[(4,jI o)] | Sum.inr (o)=>[]
def Gc5 (r_0:Gz) (before_1:(List Gz)):(Int⊕Unit)→List G6:=fun q=>match q with | Sum.inl o=>[(bT (Gz.enc r_0) 168)] | Sum.inr (o)=>[(bT (Gz.enc r_0) 168)]
theorem Ma (r_0:Gz) (before_1:(List Gz)) {s:Nat} {r:Int⊕Unit} (h:lp (Jk r_0 before_1) s=some r):GI Tryz.prog GT 1 (.loop (GO Tryz.prog 410 [1,0,1,0,0])) (Gdz r_0 before_1 s).st (Gdt r) (PS.st (19,Gc8 r_0 before_1 r,Gc5 r_0 before_1 r)):=
 GI.lp_ht 1 400 (Gdz r_0 before_1) Gdt (fun q=>(19,Gc8 r_0 before_1 q,Gc5 r_0 before_1 q)) (Rj r_0 before_1) (by intro k8; kernel_rfl) h
def QA (r_0:Gz) (x_2:Gf):Nat→HT (Nat⊕(Int⊕Unit)) True
 | k8=>.run [oa] (fun _=>He) <|
  .sp ((↑k8:Int)<(↑x_2.Bands.length:Int))
  (.run (bt::(cs 2 [])) (fun γ=>Gb (dT γ.2)) <|
  .bd (x_2.Bands[k8]?) fun x28=>.run (cs 3 ((.op none (.i k8))::(.op none (.v [.str x28.Name,jI x28.Window.Days,jI x28.Window.From,jI x28.Window.To]))::(cs 7 [oa,oc]))) (fun γ=>k2 (ir γ.2) (k2 (GC (f:=GV.enc) (z:=3) (fun _=>rfl) γ.2) (Gb (GU (f:=GV.enc) (z:=4) (j:=k8) (fun _=>rfl) γ.2 rfl)))) <|
  .sp (x28.Name=r_0.Band)
  (.run (bt::(cs 2 [])) (fun γ=>Gb (Gp γ.2)) <|
  .leaf (Sum.inr (Sum.inl (↑k8:Int))) [0])
  (.run [bf] (fun γ=>Gb (Gw γ.2)) <|
  .gd (GP .i64 ((↑k8:Int)+1)) <| .run [ow,oc] (fun γ=>Gb γ.2) <|
  .leaf (Sum.inl (k8+1)) [0]))
  (.run [bf] (fun γ=>Gb (dF γ.2)) <|
  .leaf (Sum.inr (Sum.inr (()))) [0])
def JN (r_0:Gz) (x_2:Gf):Nat→Option (Nat⊕(Int⊕Unit)):=fun s=>(QA r_0 x_2 s).den
def Ga4 (r_0:Gz) (x_2:Gf):Nat→PS:=fun s=>(19,[(0,.lst (fl GV.enc x_2.Bands) x_2.Bands.length),(1,.fn (.func 324) [] [.ptr 0 0]),(7,jI (↑x_2.Bands.length:Int)),(8,jI (↑s:Int))],[(bT (Gz.enc r_0) 168)])
def GbH:(Int⊕Unit)→Hm:=fun q=>match q with | Sum.inl o=>.ret | Sum.inr (o)=>(.exit 0)
def Gbm (r_0:Gz) (x_2:Gf):(Int⊕Unit)→List (Nat×AV):=fun q=>match q with | Sum.inl o=>[(4,jI o)] | Sum.inr (o)=>[]
def Gbl (r_0:Gz) (x_2:Gf):(Int⊕Unit)→List G6:=fun q=>match q with | Sum.inl o=>[(bT (Gz.enc r_0) 168)] | Sum.inr (o)=>[(bT (Gz.enc r_0) 168)]
theorem XV (r_0:Gz) (x_2:Gf) {s:Nat} {r:Int⊕Unit} (h:lp (JN r_0 x_2) s=some r):GI Tryz.prog GT 1 (.loop (GO Tryz.prog 409 [1,0,1,0,0])) (Ga4 r_0 x_2 s).st (GbH r) (PS.st (19,Gbm r_0 x_2 r,Gbl r_0 x_2 r)):=
 GI.lp_ht 1 400 (Ga4 r_0 x_2) GbH (fun q=>(19,Gbm r_0 x_2 q,Gbl r_0 x_2 q)) (QA r_0 x_2) (by intro k8; kernel_rfl) h
def Gcr (r_0:Gz) (before_1:(List Gz)) (x_2:Gf) (t_3:Ga):HT Int True:=.run (cs 8 []) (fun _=>He) <|
  .bd (Zp r_0 t_3) fun r1=>.run (cs 2 ((.ret none [.any,.any] (.bool r1) [])::(cs 2 []))) (fun γ=>Gb (GkK r_0 t_3 r1 γ.2)) <|
  .sp (r1=true)
  (.run [bf] (fun γ=>Gb ((Gs γ.2):(!r1)=false)) <|
  .sp (r_0.Class<(1:Int))
  (.run (cs 2 (oa::oc::tc::(cs 4 [bt,oc]))) (fun γ=>k2 (dT γ.2) (Gb (rfl:true=true))) <|
  .leaf 20 [])
  (.run (cs 2 (oa::oc::oF::oc::oa::(cs 2 []))) (fun γ=>Gb (dF γ.2)) <|
  .sp (r_0.Class>(9:Int))
  (.run [bt,oc] (fun γ=>Gb (dT γ.2)) <|
  .leaf 20 [])
  (.run [bf] (fun γ=>Gb (dF γ.2)) <|
  .sp (r_0.Band=[])
  (.run (cs 2 (oa::oc::oF::(cs 6 [bf]))) (fun γ=>k2 (Gs (Gp γ.2)) (Gb (rfl:false=false))) <|
  .sp (r_0.Cents<(0:Int))
  (.run (cs 2 (oa::oc::tc::(cs 4 [bt,oc]))) (fun γ=>k2 (dT γ.2) (Gb (rfl:true=true))) <|
  .leaf 13 [])
  (.run (cs 2 (oa::oc::oF::oc::oa::(cs 2 []))) (fun γ=>Gb (dF γ.2)) <|
  .sp (r_0.Cents>(1125899906842624:Int))
  (.run [bt,oc] (fun γ=>Gb (dT γ.2)) <|
  .leaf 13 [])
  (.run [bf] (fun γ=>Gb (dF γ.2)) <|
  .bd (lp (Jk r_0 before_1) (0:Nat)) fun qq=>.cs qq (fun o9=>.run (cs 11 ((.fcut 1 .ret [(4,jI o9)] [(bT (Gz.enc r_0) 168)] [0] [(0,.any),(1,.any),(7,.any),(8,jI (↑(0:Nat):Int))] [bS])::oa::(cs 2 []))) (fun γ=>k2 (rfl:(jI 0:AV)=jI (↑(0:Nat):Int)) (Gb (Ma r_0 before_1 (s:=(0:Nat)) (r:=Sum.inl o9) (eS γ.1.2 γ.2)))) <|
  .sp (o9≥(0:Int))
  (.run [bt,oc] (fun γ=>Gb (dT γ.2)) <|
  .leaf 9 [])
  (.run [bf,oc] (fun γ=>Gb (dF γ.2)) <|
  .leaf 0 []))
  (fun o9=>.run (cs 11 ((.fcut 1 (.exit 0) [] [(bT (Gz.enc r_0) 168)] [0] [(0,.any),(1,.any),(7,.any),(8,jI (↑(0:Nat):Int))] [bS])::(cs 4 [bf,oc]))) (fun γ=>k2 (rfl:(jI 0:AV)=jI (↑(0:Nat):Int)) (k2 (Ma r_0 before_1 (s:=(0:Nat)) (r:=Sum.inr (o9)) (eS γ.1.2 γ.2)) (Gb (rfl:false=false)))) <|
  .leaf 0 []))))
  (.bd (lp (JN r_0 x_2) (0:Nat)) fun qq=>.cs qq (fun o21=>.run (cs 2 (oa::oc::tc::(cs 11 ((.fcut 1 .ret [(4,jI o21)] [(bT (Gz.enc r_0) 168)] [0] [(0,.any),(1,.any),(7,.any),(8,jI (↑(0:Nat):Int))] [bS])::oa::(cs 4 []))))) (fun γ=>k2 (Gu (Gw γ.1.1.2)) (k2 (rfl:(jI 0:AV)=jI (↑(0:Nat):Int)) (Gb (XV r_0 x_2 (s:=(0:Nat)) (r:=Sum.inl o21) (eS γ.1.2 γ.2))))) <|
  .sp (o21≥(0:Int))
  (.run [bf] (fun γ=>Gb (Gs (dT γ.2))) <|
  .sp (r_0.Cents<(0:Int))
  (.run (cs 2 (oa::oc::tc::(cs 4 [bt,oc]))) (fun γ=>k2 (dT γ.2) (Gb (rfl:true=true))) <|
  .leaf 13 [])
  (.run (cs 2 (oa::oc::oF::oc::oa::(cs 2 []))) (fun γ=>Gb (dF γ.2)) <|
  .sp (r_0.Cents>(1125899906842624:Int))
  (.run [bt,oc] (fun γ=>Gb (dT γ.2)) <|
  .leaf 13 [])
  (.run [bf] (fun γ=>Gb (dF γ.2)) <|
  .bd (lp (Jk r_0 before_1) (0:Nat)) fun qq=>.cs qq (fun o35=>.run (cs 11 ((.fcut 1 .ret [(4,jI o35)] [(bT (Gz.enc r_0) 168)] [0] [(0,.any),(1,.any),(7,.any),(8,jI (↑(0:Nat):Int))] [bS])::oa::(cs 2 []))) (fun γ=>k2 (rfl:(jI 0:AV)=jI (↑(0:Nat):Int)) (Gb (Ma r_0 before_1 (s:=(0:Nat)) (r:=Sum.inl o35) (eS γ.1.2 γ.2)))) <|
  .sp (o35≥(0:Int))
  (.run [bt,oc] (fun γ=>Gb (dT γ.2)) <|
  .leaf 9 [])
  (.run [bf,oc] (fun γ=>Gb (dF γ.2)) <|
  .leaf 0 []))
  (fun o35=>.run (cs 11 ((.fcut 1 (.exit 0) [] [(bT (Gz.enc r_0) 168)] [0] [(0,.any),(1,.any),(7,.any),(8,jI (↑(0:Nat):Int))] [bS])::(cs 4 [bf,oc]))) (fun γ=>k2 (rfl:(jI 0:AV)=jI (↑(0:Nat):Int)) (k2 (Ma r_0 before_1 (s:=(0:Nat)) (r:=Sum.inr (o35)) (eS γ.1.2 γ.2)) (Gb (rfl:false=false)))) <|
  .leaf 0 []))))
  (.run [bt,oc] (fun γ=>Gb (Gu (dF γ.2))) <|
  .leaf 10 []))
  (fun o21=>.run (cs 2 (oa::oc::tc::(cs 11 ((.fcut 1 (.exit 0) [] [(bT (Gz.enc r_0) 168)] [0] [(0,.any),(1,.any),(7,.any),(8,jI (↑(0:Nat):Int))] [bS])::(cs 6 [bt,oc]))))) (fun γ=>k2 (Gu (Gw γ.1.1.2)) (k2 (rfl:(jI 0:AV)=jI (↑(0:Nat):Int)) (k2 (XV r_0 x_2 (s:=(0:Nat)) (r:=Sum.inr (o21)) (eS γ.1.2 γ.2)) (Gb (rfl:true=true))))) <|
  .leaf 10 [])))))
  (.run [bt,oc] (fun γ=>Gb ((Gu (eq_false_of_ne_true γ.2)):(!r1)=true)) <|
  .leaf 16 [])
def GbC (r_0:Gz) (before_1:(List Gz)) (x_2:Gf) (t_3:Ga):Option Int:=(Gcr r_0 before_1 x_2 t_3).den
theorem Gmf (r_0:Gz) (before_1:(List Gz)) (x_2:Gf) (t_3:Ga) (r:Int) (h:GbC r_0 before_1 x_2 t_3=some r):G5 Tryz.prog GT 241 [.agg (Gz.enc r_0),.lst (fl Gz.enc before_1) before_1.length,.agg (Gf.enc x_2),.agg (Ga.enc t_3)] (jI r) []:=
 G5.of_ht 400 (Gcr r_0 before_1 x_2 t_3) (fun (r:Int)=>jI r) (fun (r:Int)=>[]) (by kernel_rfl) h
def Qf (x_0:Gf) (t_1:Ga):Nat→HT (Nat⊕(Int⊕Unit)) True
 | k30=>.run [oa] (fun _=>He) <|
  .sp ((↑k30:Int)<(↑x_0.Bands.length:Int))
  (.run [bt] (fun γ=>Gb (dT γ.2)) <|
  .bd (x_0.Bands[k30]?) fun x20=>.run ((.op none (.i k30))::(.op none (.v [.str x20.Name,jI x20.Window.Days,jI x20.Window.From,jI x20.Window.To]))::(cs 6 [])) (fun γ=>k2 (ir γ.2) (k2 (GC (f:=GV.enc) (z:=3) (fun _=>rfl) γ.2) (Gb (GU (f:=GV.enc) (z:=4) (j:=k30) (fun _=>rfl) γ.2 rfl)))) <|
  .bd (HC x20.Name) fun r22=>.run (cs 2 ((.ret none [.any] (.bool r22) [])::(cs 2 []))) (fun γ=>Gb (Ha x20.Name r22 γ.2)) <|
  .sp (r22=true)
  (.run [bf] (fun γ=>Gb ((Gs γ.2):(!r22)=false)) <|
  .sp (x20.Window.Days<(1:Int))
  (.run (cs 2 (oa::oc::tc::(cs 21 [bt,oc]))) (fun γ=>k2 (dT γ.2) (Gb (rfl:true=true))) <|
  .leaf (Sum.inr (Sum.inl 1)) [0,1])
  (.sp (x20.Window.Days>(127:Int))
  (.run (cs 2 (oa::oc::oF::oc::oa::(cs 2 (tc::(cs 16 [bt,oc]))))) (fun γ=>k2 (dF γ.1.2) (k2 (dT γ.2) (Gb (rfl:true=true)))) <|
  .leaf (Sum.inr (Sum.inl 1)) [0,1])
  (.sp (x20.Window.From<(0:Int))
  (.run (cs 2 (oa::oc::oF::oc::oa::(cs 2 (oF::oc::oa::(cs 2 (tc::(cs 11 [bt,oc]))))))) (fun γ=>k2 (dF γ.1.1.2) (k2 (dF γ.1.2) (k2 (dT γ.2) (Gb (rfl:true=true))))) <|
  .leaf (Sum.inr (Sum.inl 1)) [0,1])
  (.sp (x20.Window.From≥x20.Window.To)
  (.run (cs 2 (oa::oc::oF::oc::oa::(cs 2 (oF::oc::oa::(cs 2 (oF::(cs 3 (oa::(cs 2 (tc::(cs 4 [bt,oc]))))))))))) (fun γ=>k2 (dF γ.1.1.1.2) (k2 (dF γ.1.1.2) (k2 (dF γ.1.2) (k2 (dT γ.2) (Gb (rfl:true=true)))))) <|
  .leaf (Sum.inr (Sum.inl 1)) [0,1])
  (.run (cs 2 (oa::oc::oF::oc::oa::(cs 2 (oF::oc::oa::(cs 2 (oF::(cs 3 (oa::(cs 2 (oF::oc::oa::(cs 2 []))))))))))) (fun γ=>k2 (dF γ.1.1.1.2) (k2 (dF γ.1.1.2) (k2 (dF γ.1.2) (Gb (dF γ.2))))) <|
  .sp (x20.Window.To>(1440:Int))
  (.run [bt,oc] (fun γ=>Gb (dT γ.2)) <|
  .leaf (Sum.inr (Sum.inl 1)) [0,1])
  (.run [bf] (fun γ=>Gb (dF γ.2)) <|
  .gd (GP .i64 ((↑k30:Int)+1)) <| .run [ow,oc] (fun γ=>Gb γ.2) <|
  .leaf (Sum.inl (k30+1)) [0,1]))))))
  (.run [bt,oc] (fun γ=>Gb ((Gu (eq_false_of_ne_true γ.2)):(!r22)=true)) <|
  .leaf (Sum.inr (Sum.inl 6)) [0,1]))
  (.run [bf] (fun γ=>Gb (dF γ.2)) <|
  .leaf (Sum.inr (Sum.inr (()))) [0,1])
def JT (x_0:Gf) (t_1:Ga):Nat→Option (Nat⊕(Int⊕Unit)):=fun s=>(Qf x_0 t_1 s).den
def GbQ (x_0:Gf) (t_1:Ga):Nat→PS:=fun s=>(88,[(2,.ptr 0 0),(3,.ptr 1 0),(28,.lst (fl GV.enc x_0.Bands) x_0.Bands.length),(29,jI (↑x_0.Bands.length:Int)),(30,jI (↑s:Int))],[(bT (Gf.enc x_0) 65),(bT (Ga.enc t_1) 41)])
def Ga9:(Int⊕Unit)→Hm:=fun q=>match q with | Sum.inl o=>.ret | Sum.inr (o)=>(.exit 1)
def Gbc (x_0:Gf) (t_1:Ga):(Int⊕Unit)→List (Nat×AV):=fun q=>match q with | Sum.inl o=>[(4,jI o)] | Sum.inr (o)=>[(2,.ptr 0 0),(3,.ptr 1 0)]
def Qm (x_0:Gf) (t_1:Ga):(Int⊕Unit)→List G6:=fun q=>match q with | Sum.inl o=>[(bT (Gf.enc x_0) 65),(bT (Ga.enc t_1) 41)] | Sum.inr (o)=>[(bT (Gf.enc x_0) 65),(bT (Ga.enc t_1) 41)]
theorem XH (x_0:Gf) (t_1:Ga) {s:Nat} {r:Int⊕Unit} (h:lp (JT x_0 t_1) s=some r):GI Tryz.prog GT 2 (.loop (GO Tryz.prog 174 [1,1,0,1,0,0])) (GbQ x_0 t_1 s).st (Ga9 r) (PS.st (88,Gbc x_0 t_1 r,Qm x_0 t_1 r)):=
 GI.lp_ht 2 400 (GbQ x_0 t_1) Ga9 (fun q=>(88,Gbc x_0 t_1 q,Qm x_0 t_1 q)) (Qf x_0 t_1) (by intro k30; kernel_rfl) h
def MS (x_0:Gf) (t_1:Ga):Nat→HT (Nat⊕(Int⊕Unit)) True
 | k71=>.run [oa] (fun _=>He) <|
  .sp ((↑k71:Int)<(↑x_0.Rates.length:Int))
  (.run [bt] (fun γ=>Gb (dT γ.2)) <|
  .bd (x_0.Rates[k71]?) fun x41=>.run (oc::(.op none (.i k71))::(.op none (.v [.str x41.From,.str x41.To,jI x41.Class,.str x41.Band,jI x41.Cents]))::(cs 3 [])) (fun γ=>k2 (ir γ.2) (k2 (GC (f:=Gz.enc) (z:=4) (fun _=>rfl) γ.2) (Gb (GU (f:=Gz.enc) (z:=5) (j:=k71) (fun _=>rfl) γ.2 rfl)))) <|
  .gd (k71≤x_0.Rates.length) <| .bd (GbC x41 (List.take k71 x_0.Rates) x_0 t_1) fun r44=>.run (cs 4 ((.op none (.s 0 k71))::(.trp (.eqt (.t 80) (.lst (fl Gz.enc (List.take k71 x_0.Rates)) ((List.take k71 x_0.Rates).length))))::(cs 2 ((.ret none [.any,.any,.any,.any] (jI r44) [])::(cs 2 [oa]))))) (fun γ=>k2 (rfl:(↑k71:Int)=((k71:Nat):Int)) (k2 (⟨Nat.zero_le _,γ.1.2⟩:0≤k71∧k71≤x_0.Rates.length) (k2 ((VW (Ri (f:=Gz.enc) (z:=5) (fun _=>rfl) _ _) (by rw [List.length_take]; omega)):(.lst (List.take (k71*5) (fl Gz.enc x_0.Rates)) k71:AV)=.lst (fl Gz.enc (List.take k71 x_0.Rates)) ((List.take k71 x_0.Rates).length)) (Gb (Gmf x41 (List.take k71 x_0.Rates) x_0 t_1 r44 γ.2))))) <|
  .sp (r44=(0:Int))
  (.run [bf] (fun γ=>Gb (Gs (Gp γ.2))) <|
  .gd (GP .i64 ((↑k71:Int)+1)) <| .run [ow,oc] (fun γ=>Gb γ.2) <|
  .leaf (Sum.inl (k71+1)) [0,1])
  (.run (bt::(cs 2 [])) (fun γ=>Gb (Gu (Gw γ.2))) <|
  .leaf (Sum.inr (Sum.inl r44)) [0,1]))
  (.run [bf] (fun γ=>Gb (dF γ.2)) <|
  .leaf (Sum.inr (Sum.inr (()))) [0,1])
def Jq (x_0:Gf) (t_1:Ga):Nat→Option (Nat⊕(Int⊕Unit)):=fun s=>(MS x_0 t_1 s).den
def GaN (x_0:Gf) (t_1:Ga):Nat→PS:=fun s=>(88,[(2,.ptr 0 0),(3,.ptr 1 0),(69,.lst (fl Gz.enc x_0.Rates) x_0.Rates.length),(70,jI (↑x_0.Rates.length:Int)),(71,jI (↑s:Int))],[(bT (Gf.enc x_0) 65),(bT (Ga.enc t_1) 41)])
def Gan:(Int⊕Unit)→Hm:=fun q=>match q with | Sum.inl o=>.ret | Sum.inr (o)=>(.exit 4)
def GaJ (x_0:Gf) (t_1:Ga):(Int⊕Unit)→List (Nat×AV):=fun q=>match q with | Sum.inl o=>[(4,jI o)] | Sum.inr (o)=>[]
def ML (x_0:Gf) (t_1:Ga):(Int⊕Unit)→List G6:=fun q=>match q with | Sum.inl o=>[(bT (Gf.enc x_0) 65),(bT (Ga.enc t_1) 41)] | Sum.inr (o)=>[(bT (Gf.enc x_0) 65),(bT (Ga.enc t_1) 41)]
theorem VI (x_0:Gf) (t_1:Ga) {s:Nat} {r:Int⊕Unit} (h:lp (Jq x_0 t_1) s=some r):GI Tryz.prog GT 2 (.loop (GO Tryz.prog 174 [1,1,1,0,1,0,0])) (GaN x_0 t_1 s).st (Gan r) (PS.st (88,GaJ x_0 t_1 r,ML x_0 t_1 r)):=
 GI.lp_ht 2 400 (GaN x_0 t_1) Gan (fun q=>(88,GaJ x_0 t_1 q,ML x_0 t_1 q)) (MS x_0 t_1) (by intro k71; kernel_rfl) h
def GaP (x_0:Gf) (t_1:Ga):HT Int True:=.run (cs 3 []) (fun _=>He) <|
  .bd (Jz x_0.Valid) fun r1=>.run (cs 2 ((.ret none [.any] (.bool r1) [])::(cs 2 []))) (fun γ=>Gb (G3 x_0.Valid r1 γ.2)) <|
  .sp (r1=true)
  (.run [bf] (fun γ=>Gb ((Gs γ.2):(!r1)=false)) <|
  .sp ((↑x_0.Bands.length:Int)>(1024:Int))
  (.run (cs 3 (oa::oc::tc::(cs 5 [bt,oc]))) (fun γ=>k2 (dT γ.2) (Gb (rfl:true=true))) <|
  .leaf 3 [])
  (.run (cs 3 (oa::oc::oF::(cs 2 (oa::(cs 2 []))))) (fun γ=>Gb (dF γ.2)) <|
  .sp ((↑x_0.Rates.length:Int)>(1024:Int))
  (.run [bt,oc] (fun γ=>Gb (dT γ.2)) <|
  .leaf 3 [])
  (.run (bf::(cs 4 [])) (fun γ=>Gb (dF γ.2)) <|
  .bd (lp (JT x_0 t_1) (0:Nat)) fun qq=>.cs qq (fun o6=>.run [.fcut 2 .ret [(4,jI o6)] (Qm x_0 t_1 (Sum.inl o6)) [0,1] [(2,.any),(3,.any),(28,.any),(29,.any),(30,jI (↑(0:Nat):Int))] [bS,bS]] (fun γ=>k2 (rfl:(jI 0:AV)=jI (↑(0:Nat):Int)) (Gb (XH x_0 t_1 (s:=(0:Nat)) (r:=Sum.inl o6) (eS γ.1.2 γ.2)))) <|
  .leaf o6 [])
  (fun o6=>.run ((.fcut 2 (.exit 1) [(2,.ptr 0 0),(3,.ptr 1 0)] (Qm x_0 t_1 (Sum.inr (o6))) [0,1] [(2,.any),(3,.any),(28,.any),(29,.any),(30,jI (↑(0:Nat):Int))] [bS,bS])::(cs 4 [])) (fun γ=>k2 (rfl:(jI 0:AV)=jI (↑(0:Nat):Int)) (Gb (XH x_0 t_1 (s:=(0:Nat)) (r:=Sum.inr (o6)) (eS γ.1.2 γ.2)))) <|
  .bd (lp (Jq x_0 t_1) (0:Nat)) fun qq=>.cs qq (fun o31=>.run [.fcut 2 .ret [(4,jI o31)] (ML x_0 t_1 (Sum.inl o31)) [0,1] [(2,.any),(3,.any),(69,.any),(70,.any),(71,jI (↑(0:Nat):Int))] [bS,bS]] (fun γ=>k2 (rfl:(jI 0:AV)=jI (↑(0:Nat):Int)) (Gb (VI x_0 t_1 (s:=(0:Nat)) (r:=Sum.inl o31) (eS γ.1.2 γ.2)))) <|
  .leaf o31 [])
  (fun o31=>.run [.fcut 2 (.exit 4) [] (ML x_0 t_1 (Sum.inr (o31))) [0,1] [(2,.any),(3,.any),(69,.any),(70,.any),(71,jI (↑(0:Nat):Int))] [bS,bS],oc] (fun γ=>k2 (rfl:(jI 0:AV)=jI (↑(0:Nat):Int)) (Gb (VI x_0 t_1 (s:=(0:Nat)) (r:=Sum.inr (o31)) (eS γ.1.2 γ.2)))) <|
  .leaf 0 [])))))
  (.run [bt,oc] (fun γ=>Gb ((Gu (eq_false_of_ne_true γ.2)):(!r1)=true)) <|
  .leaf 12 [])
def Zm (x_0:Gf) (t_1:Ga):Option Int:=(GaP x_0 t_1).den
theorem Glb (x_0:Gf) (t_1:Ga) (r:Int) (h:Zm x_0 t_1=some r):G5 Tryz.prog GT 174 [.agg (Gf.enc x_0),.agg (Ga.enc t_1)] (jI r) []:=
 G5.of_ht 400 (GaP x_0 t_1) (fun (r:Int)=>jI r) (fun (r:Int)=>[]) (by kernel_rfl) h
def Kv (l_0:(List Gf)) (t_1:Ga) (k15:Nat) (x27:Gf):Nat→HT (Nat⊕(Unit⊕Unit)) True
 | k30=>.run [oa] (fun _=>He) <|
  .sp ((↑k30:Int)<(↑((List.take k15 l_0).length):Int))
  (.run [bt] (fun γ=>Gb (dT γ.2)) <|
  .bd ((List.take k15 l_0)[k30]?) fun x42=>.run ((.op none (.i k30))::(.op none (.v [jI x42.Valid.From,jI x42.Valid.To,.lst (fl GV.enc x42.Bands) x42.Bands.length,.lst (fl Gz.enc x42.Rates) x42.Rates.length]))::(cs 2 [])) (fun γ=>k2 (ir γ.2) (k2 (GC (f:=Gf.enc) (z:=3) (fun _=>rfl) γ.2) (Gb (GU (f:=Gf.enc) (z:=4) (j:=k30) (fun _=>rfl) γ.2 rfl)))) <|
  .sp (x27.Valid.From<x42.Valid.To)
  (.run (cs 6 (oa::oc::tc::(cs 5 [oa,oc]))) (fun γ=>Gb (dT γ.2)) <|
  .sp (x42.Valid.From<x27.Valid.To)
  (.run [bt,oc] (fun γ=>Gb (dT γ.2)) <|
  .leaf (Sum.inr (Sum.inl ())) [0,1])
  (.run [bf] (fun γ=>Gb (dF γ.2)) <|
  .gd (GP .i64 ((↑k30:Int)+1)) <| .run [ow,oc] (fun γ=>Gb γ.2) <|
  .leaf (Sum.inl (k30+1)) [0,1]))
  (.run (cs 6 (oa::oc::oF::(cs 7 [bf]))) (fun γ=>k2 (dF γ.2) (Gb (rfl:false=false))) <|
  .gd (GP .i64 ((↑k30:Int)+1)) <| .run [ow,oc] (fun γ=>Gb γ.2) <|
  .leaf (Sum.inl (k30+1)) [0,1]))
  (.run [bf] (fun γ=>Gb (dF γ.2)) <|
  .leaf (Sum.inr (Sum.inr (()))) [0,1])
def H3 (l_0:(List Gf)) (t_1:Ga) (k15:Nat) (x27:Gf):Nat→Option (Nat⊕(Unit⊕Unit)):=fun s=>(Kv l_0 t_1 k15 x27 s).den
def VC (l_0:(List Gf)) (t_1:Ga) (k15:Nat) (x27:Gf):Nat→PS:=fun s=>(52,[(0,.lst (fl Gf.enc l_0) l_0.length),(3,.ptr 0 0),(6,.ptr 1 0),(13,.lst (fl Gf.enc l_0) l_0.length),(14,jI (↑l_0.length:Int)),(15,jI (↑k15:Int)),(28,.lst (fl Gf.enc (List.take k15 l_0)) ((List.take k15 l_0).length)),(29,jI (↑((List.take k15 l_0).length):Int)),(30,jI (↑s:Int))],[(bT (Ga.enc t_1) 41),(bT (Gf.enc x27) 65)])
def Vy:(Unit⊕Unit)→Hm:=fun q=>match q with | Sum.inl o=>.ret | Sum.inr (o)=>(.exit 2)
def Qe (l_0:(List Gf)) (t_1:Ga) (k15:Nat) (x27:Gf):(Unit⊕Unit)→List (Nat×AV):=fun q=>match q with | Sum.inl o=>[(4,jI 12)] | Sum.inr (o)=>[(0,.lst (fl Gf.enc l_0) l_0.length),(3,.ptr 0 0),(13,.lst (fl Gf.enc l_0) l_0.length),(14,jI (↑l_0.length:Int)),(15,jI (↑k15:Int))]
def Ku (l_0:(List Gf)) (t_1:Ga) (k15:Nat) (x27:Gf):(Unit⊕Unit)→List G6:=fun q=>match q with | Sum.inl o=>[(bT (Ga.enc t_1) 41),(bT (Gf.enc x27) 65)] | Sum.inr (o)=>[(bT (Ga.enc t_1) 41),(bT (Gf.enc x27) 65)]
theorem RI (l_0:(List Gf)) (t_1:Ga) (k15:Nat) (x27:Gf) {s:Nat} {r:Unit⊕Unit} (h:lp (H3 l_0 t_1 k15 x27) s=some r):GI Tryz.prog GT 2 (.loop (GO Tryz.prog 89 [1,1,0,1,0,0,1,1,0,0,1,1,1,0,0])) (VC l_0 t_1 k15 x27 s).st (Vy r) (PS.st (52,Qe l_0 t_1 k15 x27 r,Ku l_0 t_1 k15 x27 r)):=
 GI.lp_ht 2 400 (VC l_0 t_1 k15 x27) Vy (fun q=>(52,Qe l_0 t_1 k15 x27 q,Ku l_0 t_1 k15 x27 q)) (Kv l_0 t_1 k15 x27) (by intro k30; kernel_rfl) h
def KX (l_0:(List Gf)) (t_1:Ga):Nat→HT (Nat⊕(Int⊕Unit)) True
 | k15=>.run [oa] (fun _=>He) <|
  .sp ((↑k15:Int)<(↑l_0.length:Int))
  (.run [bt] (fun γ=>Gb (dT γ.2)) <|
  .bd (l_0[k15]?) fun x27=>.run (oc::(.op none (.i k15))::(.op none (.v [jI x27.Valid.From,jI x27.Valid.To,.lst (fl GV.enc x27.Bands) x27.Bands.length,.lst (fl Gz.enc x27.Rates) x27.Rates.length]))::(cs 3 [])) (fun γ=>k2 (ir γ.2) (k2 (GC (f:=Gf.enc) (z:=3) (fun _=>rfl) γ.2) (Gb (GU (f:=Gf.enc) (z:=4) (j:=k15) (fun _=>rfl) γ.2 rfl)))) <|
  .bd (Zm x27 t_1) fun r29=>.run (cs 2 ((.ret none [.any,.any] (jI r29) [])::(cs 2 [oa]))) (fun γ=>Gb (Glb x27 t_1 r29 γ.2)) <|
  .sp (r29=(0:Int))
  (.run [bf] (fun γ=>Gb (Gs (Gp γ.2))) <|
  .gd (k15≤l_0.length) <| .run (cs 2 ((.op none (.s 0 k15))::(.tr (.eqt (.t 28) (.lst (fl Gf.enc (List.take k15 l_0)) ((List.take k15 l_0).length))))::(cs 2 []))) (fun γ=>k2 (rfl:(↑k15:Int)=((k15:Nat):Int)) (k2 (⟨Nat.zero_le _,γ.2⟩:0≤k15∧k15≤l_0.length) (Gb ((VW (Ri (f:=Gf.enc) (z:=4) (fun _=>rfl) _ _) (by rw [List.length_take]; omega)):(.lst (List.take (k15*4) (fl Gf.enc l_0)) k15:AV)=.lst (fl Gf.enc (List.take k15 l_0)) ((List.take k15 l_0).length))))) <|
  .bd (lp (H3 l_0 t_1 k15 x27) (0:Nat)) fun qq=>.cs qq (fun o33=>.run [.fcut 2 .ret [(4,jI 12)] (Ku l_0 t_1 k15 x27 (Sum.inl o33)) [0,1] [(0,.any),(3,.any),(6,.any),(13,.any),(14,.any),(15,.any),(28,.any),(29,.any),(30,jI (↑(0:Nat):Int))] [bS,bS]] (fun γ=>k2 (rfl:(jI 0:AV)=jI (↑(0:Nat):Int)) (Gb (RI l_0 t_1 k15 x27 (s:=(0:Nat)) (r:=Sum.inl o33) (eS γ.1.2 γ.2)))) <|
  .leaf (Sum.inr (Sum.inl 12)) [0])
  (fun o33=>.run [.fcut 2 (.exit 2) (Qe l_0 t_1 k15 x27 (Sum.inr (o33))) (Ku l_0 t_1 k15 x27 (Sum.inr (o33))) [0,1] [(0,.any),(3,.any),(6,.any),(13,.any),(14,.any),(15,.any),(28,.any),(29,.any),(30,jI (↑(0:Nat):Int))] [bS,bS]] (fun γ=>k2 (rfl:(jI 0:AV)=jI (↑(0:Nat):Int)) (Gb (RI l_0 t_1 k15 x27 (s:=(0:Nat)) (r:=Sum.inr (o33)) (eS γ.1.2 γ.2)))) <|
  .gd (GP .i64 ((↑k15:Int)+1)) <| .run [ow,oc] (fun γ=>Gb γ.2) <|
  .leaf (Sum.inl (k15+1)) [0]))
  (.run (bt::(cs 2 [])) (fun γ=>Gb (Gu (Gw γ.2))) <|
  .leaf (Sum.inr (Sum.inl r29)) [0]))
  (.run [bf] (fun γ=>Gb (dF γ.2)) <|
  .leaf (Sum.inr (Sum.inr (()))) [0])
def H9 (l_0:(List Gf)) (t_1:Ga):Nat→Option (Nat⊕(Int⊕Unit)):=fun s=>(KX l_0 t_1 s).den
def XF (l_0:(List Gf)) (t_1:Ga):Nat→PS:=fun s=>(52,[(0,.lst (fl Gf.enc l_0) l_0.length),(3,.ptr 0 0),(13,.lst (fl Gf.enc l_0) l_0.length),(14,jI (↑l_0.length:Int)),(15,jI (↑s:Int))],[(bT (Ga.enc t_1) 41)])
def XS:(Int⊕Unit)→Hm:=fun q=>match q with | Sum.inl o=>.ret | Sum.inr (o)=>(.exit 0)
def XG (l_0:(List Gf)) (t_1:Ga):(Int⊕Unit)→List (Nat×AV):=fun q=>match q with | Sum.inl o=>[(4,jI o)] | Sum.inr (o)=>[]
def XX (l_0:(List Gf)) (t_1:Ga):(Int⊕Unit)→List G6:=fun q=>match q with | Sum.inl o=>[(bT (Ga.enc t_1) 41)] | Sum.inr (o)=>[(bT (Ga.enc t_1) 41)]
theorem Ui (l_0:(List Gf)) (t_1:Ga) {s:Nat} {r:Int⊕Unit} (h:lp (H9 l_0 t_1) s=some r):GI Tryz.prog GT 1 (.loop (GO Tryz.prog 89 [1,1,0,1,0,0])) (XF l_0 t_1 s).st (XS r) (PS.st (52,XG l_0 t_1 r,XX l_0 t_1 r)):=
 GI.lp_ht 1 400 (XF l_0 t_1) XS (fun q=>(52,XG l_0 t_1 q,XX l_0 t_1 q)) (KX l_0 t_1) (by intro k15; kernel_rfl) h
def Vj (l_0:(List Gf)) (t_1:Ga):HT Int True:=.run (cs 4 [oa]) (fun _=>He) <|
  .sp ((↑l_0.length:Int)>(1024:Int))
  (.run [bt,oc] (fun γ=>Gb (dT γ.2)) <|
  .leaf 3 [])
  (.run (bf::(cs 3 [])) (fun γ=>Gb (dF γ.2)) <|
  .bd (lp (H9 l_0 t_1) (0:Nat)) fun qq=>.cs qq (fun o2=>.run [.fcut 1 .ret [(4,jI o2)] [(bT (Ga.enc t_1) 41)] [0] [(0,.any),(3,.any),(13,.any),(14,.any),(15,jI (↑(0:Nat):Int))] [bS]] (fun γ=>k2 (rfl:(jI 0:AV)=jI (↑(0:Nat):Int)) (Gb (Ui l_0 t_1 (s:=(0:Nat)) (r:=Sum.inl o2) (eS γ.1.2 γ.2)))) <|
  .leaf o2 [])
  (fun o2=>.run [.fcut 1 (.exit 0) [] [(bT (Ga.enc t_1) 41)] [0] [(0,.any),(3,.any),(13,.any),(14,.any),(15,jI (↑(0:Nat):Int))] [bS],oc] (fun γ=>k2 (rfl:(jI 0:AV)=jI (↑(0:Nat):Int)) (Gb (Ui l_0 t_1 (s:=(0:Nat)) (r:=Sum.inr (o2)) (eS γ.1.2 γ.2)))) <|
  .leaf 0 []))
def RT (l_0:(List Gf)) (t_1:Ga):Option Int:=(Vj l_0 t_1).den
theorem Rt (l_0:(List Gf)) (t_1:Ga) (r:Int) (h:RT l_0 t_1=some r):G5 Tryz.prog GT 89 [.lst (fl Gf.enc l_0) l_0.length,.agg (Ga.enc t_1)] (jI r) []:=
 G5.of_ht 400 (Vj l_0 t_1) (fun (r:Int)=>jI r) (fun (r:Int)=>[]) (by kernel_rfl) h
end
set_option maxHeartbeats 4000000
noncomputable section
def vT (t:Ga):Ga:=if GiL t=0 then t else ⟨⟨[],[]⟩,[]⟩
theorem Gbr (t:Ga):QH t=some (vT t):=by
 simp only [QH,VQ,d1,d2,d3,d4,d5,d6,d7,GbY,Option.bind_some,vT]
 by_cases h:GiL t=0 <;> simp only [h,if_true,if_false]
theorem GfB (t:Ga):GfA t=some (vT t):=by
 simp only [GfA,Giw,d1,d2,d3,d4,d5,d6,d7,GeZ,Option.bind_some,vT]
 by_cases h:GiL t=0 <;> simp only [h,if_true,if_false]
theorem Gnc (n:Gc) (h:GeG n=0):Gj2 n=some n:=by
 simp only [Gj2,Gi1,d1,d2,d3,d4,d5,d6,d7,Gfx,Option.bind_some,h,if_true]
theorem Gt5 {t:Ga} (h:GiL t=0):GeG t.Net=0∧t.Systems.length≤64∧∀ (k:Nat) (x:Gq),t.Net.Points[k]?=some x→GeH t.Systems x=true:=by
 unfold GiL at h
 by_cases h0:GeG t.Net=0
 rotate_left
 ·rw [if_pos h0] at h; exact absurd h h0
 rw [if_neg (fun e=>e h0)] at h
 by_cases h1:t.Systems.length>64
 ·rw [if_pos h1] at h; cases h
 rw [if_neg h1] at h
 refine ⟨h0,by omega,fun k x hx=>?_⟩
 cases hs:GK (GoX t.Systems) 0 t.Systems with
 | some r=>
  rw [hs] at h
  obtain ⟨i,y,h2,h3⟩:=Qa hs
  simp only [Option.some_or,Option.getD_some] at h
  unfold GoX at h3
  grind
 | none=>
  rw [hs] at h
  cases he:GK (fun _ x=>if GeH t.Systems x then none else some (16:Int)) 0 t.Net.Points with
  | some r=>
   rw [he] at h
   obtain ⟨i,y,h2,h3⟩:=Qa he
   simp only [Option.none_or,Option.getD_some] at h
   grind
  | none=>
   have:=Zz he k x hx
   grind
theorem GdU (t:Ga):GeG (vT t).Net=0∧(vT t).Systems.length≤64∧∀ (k:Nat) (x:Gq),(vT t).Net.Points[k]?=some x→GeH (vT t).Systems x=true:=by
 unfold vT
 by_cases h:GiL t=0
 ·rw [if_pos h]; exact Gt5 h
 ·rw [if_neg h]; exact ⟨rfl,by simp,fun k x hx=>by simp at hx⟩
theorem Ghn {α β:Type} {p:α→Bool} {f:α→β}:∀ (l:List α) (k:Nat),GK (fun _ x=>if p x then some (f x) else none) k l=(l.find? p).map f
 | [],k=>rfl
 | x::l,k=>by
  unfold GK
  rw [List.find?_cons]
  rcases Hf (p x) with h | h
  ·simp [h]
  ·simp only [h,if_false,Bool.false_eq_true]; exact Ghn l (k+1)
def ptN (name:List UInt8) (y:Gq):Bool:=decide (y.Name=name)
def GgW (l:List Gq) (name:List UInt8):Gq×Bool:=match l.find? (ptN name) with | some y=>(y,true) | none=>(⟨[],0,[]⟩,false)
theorem Ghy (n:Gc) (h:GeG n=0) (name:List UInt8):GaA n name=some (GgW n.Points name):=by
 simp only [GaA,Gd3,d1,d2,d3,d4,d5,d6,d7,eN,eM,Ggh,Option.bind_some,h,if_true]
 have hs:Sm n.Points:=by have:=(GgL h).1; show _≤_; omega
 have key:lp (Ko n name) 0=some (HL (GK (fun _ x=>if ptN name x then some (x.Name,x.Kind,x.System) else none) 0 n.Points)):=by
  refine GQ (fun k x hx=>?_) ?_
  ·obtain ⟨hk,i1,i2,hkl,h1,h2⟩:=rd hs hx
   simp only [Ko,RR,d1,d2,d3,d4,d5,d6,d7,eN,eM,hx,Option.bind_some,i1,if_true,hkl,ptN,decide_eq_true_eq]
   by_cases e:x.Name=name <;> simp only [e,if_true,if_false,KC]
  ·simp only [Ko,RR,d3,d6,d1]
   rw [if_neg (by omega)]
 rw [key,Ghn]
 unfold GgW
 cases n.Points.find? (ptN name) <;> rfl
theorem GoT (l:List Gq) (hl:l.length≤64) (name:List UInt8):QM l 64 name=some ((GK (ixG (ptN name)) 0 l).getD (-1)):=by
 simp only [QM,Gd4,d1,d2,d3,d4,d5,d6,d7,eN,eM]
 have hs:Sm l:=by show _≤_; omega
 have key:lp (H8 l 64 name) 0=some (HL (GK (ixG (ptN name)) 0 l)):=by
  refine GQ (fun k x hx=>?_) ?_
  ·obtain ⟨hk,i1,i2,hkl,h1,h2⟩:=rd hs hx
   have h64:(k:Int)<64:=by omega
   simp only [H8,M8,d1,d2,d3,d4,d5,d6,d7,eN,eM,hx,Option.bind_some,i1,if_true,hkl,h64,ixG,ptN,decide_eq_true_eq]
   by_cases e:x.Name=name <;> simp only [e,if_true,if_false,KC]
  ·simp only [H8,M8,d3,d6,d1,d5]
   by_cases h:l.length=64
   ·rw [if_neg (by omega)]
   ·rw [if_pos (by omega),if_neg (by omega)]
 rw [key]
 cases GK (ixG (ptN name)) 0 l <;> rfl
theorem GhS (n:Gc) (h:GeG n=0) (name:List UInt8):Gjc n name=some (GgW n.Points name):=by
 simp only [Gjc,Gk5,d1,d2,d3,d4,d5,d6,d7,eN,eM,Gnc n h,GoT n.Points (GgL h).1,Option.bind_some]
 unfold GgW
 rcases VY (p:=ptN name) n.Points with ⟨j,y,h1,h2,h3⟩ | ⟨h1,h3⟩
 ·rw [h1,h3]
  simp only [Option.getD_some,Int.toNat_natCast,h2,Option.bind_some]
  rw [if_neg (by omega),if_pos (by omega)]
 ·rw [h1,h3]; rfl
def GiU (t:Ga) (name:List UInt8):Int:=(GgW (vT t).Net.Points name).1.Kind
theorem Glm (t:Ga) (name:List UInt8):M9 t name=some (GiU t name):=by
 simp only [M9,Yk,d1,d2,d3,d4,d5,d6,d7,Gbr,Ghy _ (GdU t).1,Option.bind_some,GiU]
theorem GnZ (t:Ga) (name:List UInt8):GgE t name=some (GiU t name):=by
 simp only [GgE,Gk4,d1,d2,d3,d4,d5,d6,d7,GfB,GhS _ (GdU t).1,Option.bind_some,GiU]
def GiD (t:Ga) (name:List UInt8):Gi×Bool:=
 if (GgW (vT t).Net.Points name).2=true∧(GgW (vT t).Net.Points name).1.System≠[] then GcL (vT t).Systems (GgW (vT t).Net.Points name).1.System else (Gw4,false)
theorem GiT (t:Ga) (name:List UInt8):M4 t name=some (GiD t name):=by
 have hs:Sm (vT t).Systems:=by have:=(GdU t).2.1; show _≤_; omega
 simp only [M4,U0,d1,d2,d3,d4,d5,d6,d7,Gbr,Ghy _ (GdU t).1,VX _ hs,Option.bind_some,GiD]
 clear hs
 generalize GgW (vT t).Net.Points name=q
 obtain ⟨p,b⟩:=q
 cases b
 ·simp only [Bool.false_eq_true,false_and,if_false]; rfl
 ·by_cases e:p.System=[] <;> simp only [e,if_true,if_false,true_and,ne_eq,not_true_eq_false,not_false_eq_true] <;> rfl
theorem GqB (t:Ga) (name:List UInt8) (h:(GgW (vT t).Net.Points name).2=true):GeH (vT t).Systems (GgW (vT t).Net.Points name).1=true:=by
 unfold GgW at h ⊢
 rcases VY (p:=ptN name) (vT t).Net.Points with ⟨j,y,h1,h2,h3⟩ | ⟨h1,h3⟩
 ·rw [h3] at h ⊢
  exact (GdU t).2.2 j y h2
 ·rw [h3] at h; cases h
theorem GmA {l:List Gi} {p:Gq} (h:GeH l p=true) (h2:p.System≠[]):(GcL l p.System).2=true:=by
 unfold GeH at h
 generalize GcL l p.System=q at h ⊢
 obtain ⟨y,b⟩:=q
 cases b
 ·simp at h; grind
 ·rfl
theorem GtA {l:List Gi} {s:List UInt8} (h:(GcL l s).2=true):(GcL l s).1.Name=s:=by
 unfold GcL at h ⊢
 cases he:l.find? (Gph s) with
 | none=>rw [he] at h; cases h
 | some y=>have h1:Gph s y=true:=List.find?_some he; exact of_decide_eq_true h1
theorem Gl3 (t:Ga) (name:List UInt8):Gdu t name=some (GiD t name):=by
 have hs:Sm (vT t).Systems:=by have:=(GdU t).2.1; show _≤_; omega
 have hf:=GqB t name
 simp only [Gdu,Ggu,d1,d2,d3,d4,d5,d6,d7,GfB,GhS _ (GdU t).1,Option.bind_some,GiD]
 generalize GgW (vT t).Net.Points name=q at hf
 obtain ⟨p,b⟩:=q
 cases b
 ·simp only [Bool.false_eq_true,false_and,if_false]; rfl
 by_cases e:p.System=[]
 ·simp only [e,if_true,true_and,ne_eq,not_true_eq_false,if_false]; rfl
 have h2:=GmA (hf rfl) e
 obtain ⟨r,h3,h4,h5⟩:=Gci _ hs p.System
 have h6:=h4.2 h2
 simp only [e,if_true,if_false,true_and,ne_eq,not_false_eq_true,h3,Option.bind_some,h6,h5 h6]
 exact congrArg some (Prod.ext rfl h2.symm)
theorem Gtw {t:Ga} {a b:List UInt8} (ha:GiU t a=2) (hb:GiU t b=3) (h:(GiD t a).1.Name=(GiD t b).1.Name):(GiD t a).1=(GiD t b).1:=by
 have gen:∀ c,GiU t c≠0→∃ s,(GiD t c).1=(if s=[] then Gw4 else (GcL (vT t).Systems s).1)∧(GiD t c).1.Name=s:=by
  intro c hc
  have hf:=GqB t c
  unfold GiU at hc
  unfold GiD
  have h2:(GgW (vT t).Net.Points c).2=true:=by
   unfold GgW at hc ⊢
   cases he:(vT t).Net.Points.find? (ptN c) with
   | none=>rw [he] at hc; exact absurd rfl hc
   | some y=>rfl
  have hf2:=hf h2
  by_cases e:(GgW (vT t).Net.Points c).1.System=[]
  ·refine ⟨[],?_,?_⟩ <;> rw [if_neg (fun q=>q.2 e)] <;> rfl
  ·have h3:=GmA hf2 e
   rw [if_pos ⟨h2,e⟩]
   exact ⟨_,(if_neg e).symm,GtA h3⟩
 obtain ⟨s,h1,h2⟩:=gen a (by omega)
 obtain ⟨s',h3,h4⟩:=gen b (by omega)
 obtain rfl:s=s':=by rw [← h2,← h4,h]
 rw [h1,h3]
def GsJ (t:Ga) (r:Gz):Bool:=
 if r.To=[] then decide (GiU t r.From=1) else decide (GiU t r.From=2∧GiU t r.To=3∧(GiD t r.From).1.Name=(GiD t r.To).1.Name)
theorem Gme (r:Gz) (t:Ga):Zp r t=some (GsJ t r):=by
 simp only [Zp,Gag,d1,d2,d3,d4,d5,d6,d7,Glm,GiT,Option.bind_some,GsJ]
 have hs:=Gtw (t:=t) (a:=r.From) (b:=r.To)
 by_cases e:r.To=[]
 ·simp only [e,if_true]; exact congrArg some rfl
 simp only [e,if_false]
 by_cases h1:GiU t r.From=2 <;> simp only [h1,if_true,if_false,true_and,false_and,decide_false]
 by_cases h2:GiU t r.To=3 <;> simp only [h2,if_true,if_false,true_and,false_and,decide_false]
 by_cases h3:(GiD t r.From).1.Name=(GiD t r.To).1.Name
 ·have:=hs h1 h2 h3
  rw [this]
  simp
 ·rw [beq_false_of_ne h3,dF h3]; rfl
theorem Gnd (r:Gz) (t:Ga):Gj9 t r=some (GsJ t r):=by
 simp only [Gj9,Giv,d1,d2,d3,d4,d5,d6,d7,GnZ,Gl3,Option.bind_some,GsJ]
 by_cases e:r.To=[]
 ·simp only [e,if_true]; exact congrArg some rfl
 simp only [e,if_false]
 by_cases h1:GiU t r.From=2 <;> simp only [h1,if_true,if_false,true_and,false_and,decide_false]
 by_cases h2:GiU t r.To=3 <;> simp only [h2,if_true,if_false,true_and,false_and,decide_false]
 exact congrArg some (by rw [Bool.eq_iff_iff]; simp)
end
set_option maxHeartbeats 4000000
noncomputable section
def Gjv (x y:Gz):Bool:=decide (y.From=x.From∧y.To=x.To∧y.Class=x.Class∧y.Band=x.Band)
def Gpn (name:List UInt8) (y:GV):Bool:=decide (y.Name=name)
theorem Gld (r:Gz) (l:List Gz) (hl:Sm l):lp (Jk r l) 0=some (HL (GK (ixG (Gjv r)) 0 l)):=by
 refine GQ (fun k x hx=>?_) ?_
 ·obtain ⟨hk,i1,i2,hkl,h1,h2⟩:=rd hl hx
  have hb:(((x.From==r.From)&&((x.To==r.To)&&((x.Class==r.Class)&&((x.Band==r.Band)&&((r.Cents==r.Cents)&&true)))))=true)=(Gjv r x=true):=by
   unfold Gjv; simp
  simp only [Jk,Rj,d1,d2,d3,d4,d5,d6,d7,eN,eM,hx,Option.bind_some,i1,if_true,hkl,ixG,hb]
  by_cases e:Gjv r x=true <;> simp only [e,if_true,if_false,Bool.false_eq_true,KC]
 ·simp only [Jk,Rj,d3,d6,d1]
  rw [if_neg (by omega)]
theorem Glt (r:Gz) (x:Gf) (hl:Sm x.Bands):lp (JN r x) 0=some (HL (GK (ixG (Gpn r.Band)) 0 x.Bands)):=by
 refine GQ (fun k y hx=>?_) ?_
 ·obtain ⟨hk,i1,i2,hkl,h1,h2⟩:=rd hl hx
  simp only [JN,QA,d1,d2,d3,d4,d5,d6,d7,eN,eM,hx,Option.bind_some,i1,if_true,hkl,ixG,Gpn,decide_eq_true_eq]
  by_cases e:y.Name=r.Band <;> simp only [e,if_true,if_false,KC]
 ·simp only [JN,QA,d3,d6,d1]
  rw [if_neg (by omega)]
def GtO (t:Ga) (x:Gf) (l:List Gz) (r:Gz):Int:=
 if GsJ t r=false then 16 else if r.Class<1∨r.Class>9 then 20 else if r.Band≠[]∧x.Bands.any (Gpn r.Band)=false then 10
 else if r.Cents<0∨r.Cents>1125899906842624 then 13 else if l.any (Gjv r) then 9 else 0
theorem GqJ {α:Type} (p:α→Bool) (l:List α):(∃ j:Nat,GK (ixG p) 0 l=some (j:Int)∧l.any p=true)∨(GK (ixG p) 0 l=none∧l.any p=false):=by
 rw [Gnj]
 rcases VY (p:=p) l with ⟨j,y,f1,f2,f3⟩ | ⟨f1,f3⟩
 ·exact .inl ⟨j,f1,by rw [f3]; rfl⟩
 ·exact .inr ⟨f1,by rw [f3]; rfl⟩
theorem GnO (r:Gz) (l:List Gz) (hl:Sm l) (x:Gf) (hb:Sm x.Bands) (t:Ga):GbC r l x t=some (GtO t x l r):=by
 simp only [GbC,Gcr,d1,d2,d3,d4,d5,d6,d7,Gme,Gld r l hl,Glt r x hb,Option.bind_some,GtO]
 clear hl hb
 rcases GqJ (Gjv r) l with ⟨j,f1,f2⟩ | ⟨f1,f2⟩ <;> rcases GqJ (Gpn r.Band) x.Bands with ⟨i,g1,g2⟩ | ⟨g1,g2⟩ <;> simp only [f1,f2,g1,g2,HL,eN,eM] <;>
  clear f1 f2 g1 g2 <;> rcases Hf (GsJ t r) with hr | hr <;> simp only [hr,if_true,if_false,Bool.true_eq_false,Bool.false_eq_true,and_true,and_false] <;> grind
theorem Gna (l:List GV) (hl:Sm l) (name:List UInt8):Gjl l name=some (l.any (Gpn name)):=by
 simp only [Gjl,GiJ,d1,d2,d3,d4,d5,d6,d7]
 have key:lp (Mi l name) 0=some (HL (if l.any (Gpn name) then some () else none)):=by
  rw [← Hj l 0]
  refine GQ (fun k x hx=>?_) ?_
  ·obtain ⟨hk,i1,i2,hkl,h1,h2⟩:=rd hl hx
   simp only [Mi,XC,d1,d2,d3,d4,d5,d6,d7,eN,eM,hx,Option.bind_some,i1,if_true,hkl,Gpn,decide_eq_true_eq]
   by_cases e:x.Name=name <;> simp only [e,if_true,if_false,KC]
  ·simp only [Mi,XC,d3,d6,d1]
   rw [if_neg (by omega)]
 rw [key]
 rcases Hf (l.any (Gpn name)) with h | h <;> rw [h] <;> rfl
theorem Gn8 (x:Gf) (hb:Sm x.Bands) (hl:Sm x.Rates) (t:Ga) {k:Nat} {r:Gz} (hx:x.Rates[k]?=some r):Gmp x t (k:Int)=some (GtO t x (x.Rates.take k) r):=by
 have key:lp (Ki x (k:Int) r) 0=some (HL (if (x.Rates.take k).any (Gjv r) then some () else none)):=by
  have hk:=Hg hx
  rw [← Hj (x.Rates.take k) 0]
  refine JE (l:=x.Rates) (n:=k) (by omega) (fun j y hj hy=>?_) ?_
  ·obtain ⟨_,i3,_,_,_,_⟩:=rd hl hy
   have hjk:(j:Int)<(k:Int):=by omega
   simp only [Ki,Xf,d1,d2,d3,d4,d5,d6,d7,hy,Option.bind_some,i3,if_true,hjk,Gjv]
   clear i3 hl hb
   by_cases c1:y.From=r.From <;> by_cases c2:y.To=r.To <;> by_cases c3:y.Class=r.Class <;> by_cases c4:y.Band=r.Band <;>
    simp only [c1,c2,c3,c4,if_true,if_false,and_self,and_true,and_false,true_and,false_and,decide_true,decide_false,Bool.false_eq_true,KC]
  ·simp only [Ki,Xf,d3,d6,d1]
   rw [if_neg (by omega)]
 have h0:(0:Int)≤(k:Int):=by omega
 simp only [Gmp,Gk0,d1,d2,d3,d4,d5,d6,d7,h0,if_true,Int.toNat_natCast,hx,Gnd,Gna _ hb,key,Option.bind_some,GtO]
 clear hl hb hx key
 rcases Hf (GsJ t r) with hr | hr <;> rcases Hf ((x.Rates.take k).any (Gjv r)) with f2 | f2 <;> rcases Hf (x.Bands.any (Gpn r.Band)) with g2 | g2 <;>
  simp only [hr,f2,g2,HL,eN,eM,if_true,if_false,Bool.true_eq_false,Bool.false_eq_true,and_true,and_false] <;> grind
theorem GnE (i:Gn):Gko i=some (Rk i):=by
 simp only [Gko,GiY,d1,d2,d3,d6,Rk]; grind
def GsP (_:Nat) (x:GV):Option Int:=if HE x.Name=false then some 6 else if Vc x.Window=false then some 1 else none
def GsH (t:Ga) (x:Gf) (k:Nat) (r:Gz):Option Int:=if GtO t x (x.Rates.take k) r≠0 then some (GtO t x (x.Rates.take k) r) else none
def Gud (t:Ga) (x:Gf):Int:=
 if Rk x.Valid=false then 12 else if x.Bands.length>1024∨x.Rates.length>1024 then 3 else ((GK GsP 0 x.Bands).or (GK (GsH t x) 0 x.Rates)).getD 0
theorem Gmk (x:Gf) (t:Ga):Zm x t=some (Gud t x):=by
 simp only [Zm,GaP,d1,d2,d3,d4,d5,d6,d7,eN,eM,RH,Option.bind_some]
 unfold Gud
 rcases Hf (Rk x.Valid) with hv | hv <;> simp only [hv,if_true,if_false,Bool.true_eq_false,Bool.false_eq_true]
 by_cases c1:x.Bands.length>1024
 ·rw [if_pos (by omega),if_pos (.inl c1)]
 by_cases c2:x.Rates.length>1024
 ·rw [if_neg (by omega),if_pos (by omega),if_pos (.inr c2)]
 rw [if_neg (by omega),if_neg (by omega),if_neg (by omega)]
 have hb:Sm x.Bands:=by show _≤_; omega
 have hr:Sm x.Rates:=by show _≤_; omega
 have k1:lp (JT x t) 0=some (HL (GK GsP 0 x.Bands)):=by
  refine GQ (fun k y hx=>?_) ?_
  ·obtain ⟨hk,i1,i2,hkl,h1,h2⟩:=rd hb hx
   simp only [JT,Qf,d1,d2,d3,d4,d5,d6,d7,eN,eM,hx,Option.bind_some,JF,i1,if_true,hkl,GsP,Vc]
   clear i1 i2 hb hr
   grind [KC]
  ·simp only [JT,Qf,d3,d6,d1]
   rw [if_neg (by omega)]
 have k2:lp (Jq x t) 0=some (HL (GK (GsH t x) 0 x.Rates)):=by
  refine GQ (fun k y hx=>?_) ?_
  ·obtain ⟨hk,i1,i2,hkl,h1,h2⟩:=rd hr hx
   have hkl2:k≤x.Rates.length:=by omega
   have hst:Sm (x.Rates.take k):=by show _≤_; rw [List.length_take]; omega
   simp only [Jq,MS,d1,d2,d3,d4,d5,d6,d7,eN,eM,hx,Option.bind_some,GnO _ _ hst _ hb,i1,if_true,hkl,hkl2,GsH]
   clear i1 i2 hb hr hst
   grind [KC]
  ·simp only [Jq,MS,d3,d6,d1]
   rw [if_neg (by omega)]
 rw [k1]
 cases GK GsP 0 x.Bands with
 | some r=>rfl
 | none=>
  simp only [HL,Option.bind_some,eM,k2,Option.none_or]
  cases GK (GsH t x) 0 x.Rates <;> rfl
theorem Gnf (x:Gf) (t:Ga):Gkk x t=some (Gud t x):=by
 simp only [Gkk,GiM,d1,d2,d3,d4,d5,d6,d7,eN,eM,GnE,Option.bind_some]
 unfold Gud
 rcases Hf (Rk x.Valid) with hv | hv <;> simp only [hv,if_true,if_false,Bool.true_eq_false,Bool.false_eq_true]
 by_cases c1:x.Bands.length>1024
 ·rw [if_pos (by omega),if_pos (.inl c1)]
 by_cases c2:x.Rates.length>1024
 ·rw [if_neg (by omega),if_pos (by omega),if_pos (.inr c2)]
 rw [if_neg (by omega),if_neg (by omega),if_neg (by omega)]
 have hb:Sm x.Bands:=by show _≤_; omega
 have hr:Sm x.Rates:=by show _≤_; omega
 have k1:lp (Ms x t) 0=some (HL (GK GsP 0 x.Bands)):=by
  refine GQ (fun k y hx=>?_) ?_
  ·obtain ⟨hk,i1,i2,hkl,h1,h2⟩:=rd hb hx
   simp only [Ms,Xz,d1,d2,d3,d4,d5,d6,d7,eN,eM,hx,Option.bind_some,K3,XZ,i1,if_true,hkl,GsP]
   clear i1 i2 hb hr
   rcases Hf (HE y.Name) with hn | hn <;> rcases Hf (Vc y.Window) with hw | hw <;> simp only [hn,hw,if_true,if_false,Bool.true_eq_false,Bool.false_eq_true,KC]
  ·simp only [Ms,Xz,d3,d6,d1]
   rw [if_neg (by omega)]
 have k2:lp (KQ x t) 0=some (HL (GK (GsH t x) 0 x.Rates)):=by
  refine GQ (fun k y hx=>?_) ?_
  ·obtain ⟨hk,i1,i2,hkl,h1,h2⟩:=rd hr hx
   simp only [KQ,Vh,d1,d2,d3,d4,d5,d6,d7,eN,eM,Gn8 x hb hr t hx,Option.bind_some,i1,if_true,hkl,GsH]
   clear i1 i2 hb hr
   grind [KC]
  ·simp only [KQ,Vh,d3,d6,d1]
   rw [if_neg (by omega)]
 rw [k1]
 cases GK GsP 0 x.Bands with
 | some r=>rfl
 | none=>
  simp only [HL,Option.bind_some,eM,k2,Option.none_or]
  cases GK (GsH t x) 0 x.Rates <;> rfl
def GrM (x y:Gf):Bool:=decide (x.Valid.From<y.Valid.To∧y.Valid.From<x.Valid.To)
def Grr (t:Ga) (l:List Gf) (k:Nat) (x:Gf):Option Int:=
 if Gud t x≠0 then some (Gud t x) else if (l.take k).any (GrM x) then some 12 else none
def Gp3 (t:Ga) (l:List Gf):Int:=if l.length>1024 then 3 else (GK (Grr t l) 0 l).getD 0
theorem Giq (l:List Gf) (t:Ga):RT l t=some (Gp3 t l):=by
 simp only [RT,Vj,d1,d2,d3,d4,d5,d6,d7,Gp3]
 by_cases hl:l.length>1024
 ·rw [if_pos (by omega),if_pos hl]
 rw [if_neg (by omega),if_neg hl]
 have hs:Sm l:=by show _≤_; omega
 have key:lp (H9 l t) 0=some (HL (GK (Grr t l) 0 l)):=by
  refine GQ (fun k x hx=>?_) ?_
  ·obtain ⟨hk,i1,i2,hkl,h1,h2⟩:=rd hs hx
   have hkl2:k≤l.length:=by omega
   have hq:lp (H3 l t k x) 0=some (HL (if (l.take k).any (GrM x) then some () else none)):=by
    have hst:Sm (l.take k):=by show _≤_; rw [List.length_take]; omega
    rw [← Hj (l.take k) 0]
    refine GQ (fun j y hy=>?_) ?_
    ·obtain ⟨_,i3,_,hjl,_,_⟩:=rd hst hy
     simp only [H3,Kv,d1,d2,d3,d4,d5,d6,d7,hy,Option.bind_some,i3,if_true,hjl,GrM]
     clear i1 i2 i3 hs hst
     grind [KC]
    ·simp only [H3,Kv,d3,d6,d1]
     rw [if_neg (by omega)]
   simp only [H9,KX,d1,d2,d3,d4,d5,d6,d7,hx,hq,Option.bind_some,Gmk,i1,if_true,hkl,hkl2,Grr]
   clear i1 i2 hs hq
   rcases Hf ((l.take k).any (GrM x)) with hh | hh <;> simp only [hh,HL,eN,eM,if_true,if_false,Bool.false_eq_true] <;> grind [KC]
  ·simp only [H9,KX,d3,d6,d1]
   rw [if_neg (by omega)]
 rw [key]
 cases GK (Grr t l) 0 l <;> rfl
theorem Gja (l:List Gf) (t:Ga):QQ l t=some (Gp3 t l):=by
 simp only [QQ,Gco,d1,d2,d3,d4,d5,d6,d7,Gp3]
 by_cases hl:l.length>1024
 ·rw [if_pos (by omega),if_pos hl]
 rw [if_neg (by omega),if_neg hl]
 have hs:Sm l:=by show _≤_; omega
 have key:lp (J8 l t) 0=some (HL (GK (Grr t l) 0 l)):=by
  refine GQ (fun k x hx=>?_) ?_
  ·obtain ⟨hk,i1,i2,hkl,h1,h2⟩:=rd hs hx
   have hq:lp (JP l t k) 0=some (HL (if (l.take k).any (GrM x) then some () else none)):=by
    rw [← Hj (l.take k) 0]
    refine JE (l:=l) (n:=k) (by omega) (fun j y hj hy=>?_) ?_
    ·obtain ⟨_,i3,_,_,_,_⟩:=rd hs hy
     have hjk:(j:Int)<(k:Int):=by omega
     simp only [JP,Qo,d1,d2,d3,d4,d5,d6,d7,hx,hy,Option.bind_some,i3,if_true,hjk,GrM]
     clear i1 i2 i3 hs
     grind [KC]
    ·simp only [JP,Qo,d3,d6,d1]
     rw [if_neg (by omega)]
   simp only [J8,Q0,d1,d2,d3,d4,d5,d6,d7,hx,hq,Option.bind_some,Gnf,i1,if_true,hkl,Grr]
   clear i1 i2 hs hq
   rcases Hf ((l.take k).any (GrM x)) with hh | hh <;> simp only [hh,HL,eN,eM,if_true,if_false,Bool.false_eq_true] <;> grind [KC]
  ·simp only [J8,Q0,d3,d6,d1]
   rw [if_neg (by omega)]
 rw [key]
 cases GK (Grr t l) 0 l <;> rfl
end
end Go.Proofs.YtnlaiahcemckkaaGreatDoor.Av
