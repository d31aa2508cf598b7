import Derived.Test.YtnlaiahcemckkaaGreatDoorHPEg
open Prod (fst)
open Int (tdiv tmod)
set_option maxHeartbeats 4000000
set_option maxRecDepth 100000
set_option linter.unusedVariables false
set_option linter.unusedSimpArgs false
namespace Go.Proofs.YtnlaiahcemckkaaGreatDoor.Av
noncomputable section
open Go Go.Proofs
def MG (l_0:(List Gi)) (name_1:(List UInt8)):Nat→HT (Nat⊕(Int⊕Unit)) True
 | k8=>.run [oa] (fun _=>He) <|
  .sp ((↑k8:Int)<(↑l_0.length:Int))
  (.run (bt::(cs 2 [])) (fun γ=>Gb (dT γ.2)) <|
  .bd (l_0[k8]?) fun x8=>.run (cs 3 ((.op none (.i k8))::(.op none (.v [.str x8.Name,.bool x8.Closed,jI x8.Most]))::(cs 6 [oa,oc]))) (fun γ=>k2 (ir γ.2) (k2 (GC (f:=Gi.enc) (z:=2) (fun _=>rfl) γ.2) (Gb (GU (f:=Gi.enc) (z:=3) (j:=k8) (fun _=>rfl) γ.2 rfl)))) <|
  .sp (x8.Name=name_1)
  (.run (bt::(cs 2 [])) (fun γ=>Gb (Gp γ.2)) <|
  .leaf (Sum.inr (Sum.inl (↑k8:Int))) [0])
  (.run [bf] (fun γ=>Gb (Gw γ.2)) <|
  .gd (GP .i64 ((↑k8:Int)+1)) <| .run [ow,oc] (fun γ=>Gb γ.2) <|
  .leaf (Sum.inl (k8+1)) [0]))
  (.run [bf] (fun γ=>Gb (dF γ.2)) <|
  .leaf (Sum.inr (Sum.inr (()))) [0])
def Js (l_0:(List Gi)) (name_1:(List UInt8)):Nat→Option (Nat⊕(Int⊕Unit)):=fun s=>(MG l_0 name_1 s).den
def Gab (l_0:(List Gi)) (name_1:(List UInt8)):Nat→PS:=fun s=>(19,[(0,.lst (fl Gi.enc l_0) l_0.length),(1,.fn (.func 236) [] [.ptr 0 0]),(7,jI (↑l_0.length:Int)),(8,jI (↑s:Int))],[(bT [.str name_1] 9)])
def ZH:(Int⊕Unit)→Hm:=fun q=>match q with | Sum.inl o=>.ret | Sum.inr (o)=>(.exit 0)
def ZW (l_0:(List Gi)) (name_1:(List UInt8)):(Int⊕Unit)→List (Nat×AV):=fun q=>match q with | Sum.inl o=>[(4,jI o)] | Sum.inr (o)=>[]
def Gaz (l_0:(List Gi)) (name_1:(List UInt8)):(Int⊕Unit)→List G6:=fun q=>match q with | Sum.inl o=>[(bT [.str name_1] 9)] | Sum.inr (o)=>[(bT [.str name_1] 9)]
theorem VJ (l_0:(List Gi)) (name_1:(List UInt8)) {s:Nat} {r:Int⊕Unit} (h:lp (Js l_0 name_1) s=some r):GI Tryz.prog GT 1 (.loop (GO Tryz.prog 235 [1,0,1,0,0])) (Gab l_0 name_1 s).st (ZH r) (PS.st (19,ZW l_0 name_1 r,Gaz l_0 name_1 r)):=
 GI.lp_ht 1 400 (Gab l_0 name_1) ZH (fun q=>(19,ZW l_0 name_1 q,Gaz l_0 name_1 q)) (MG l_0 name_1) (by intro k8; kernel_rfl) h
def YB (l_0:(List Gi)) (name_1:(List UInt8)):HT (Gi×Bool) True:=.run (cs 3 []) (fun _=>He) <|
  .bd (lp (Js l_0 name_1) (0:Nat)) fun qq=>.cs qq (fun o1=>.run (cs 7 ((.fcut 1 .ret [(4,jI o1)] [(bT [.str name_1] 9)] [0] [(0,.any),(1,.any),(7,.any),(8,jI (↑(0:Nat):Int))] [bS])::(cs 2 [oa]))) (fun γ=>k2 (rfl:(jI 0:AV)=jI (↑(0:Nat):Int)) (Gb (VJ l_0 name_1 (s:=(0:Nat)) (r:=Sum.inl o1) (eS γ.1.2 γ.2)))) <|
  .sp (o1<(0:Int))
  (.run (bt::(cs 3 [])) (fun γ=>Gb (dT γ.2)) <|
  .leaf ((⟨([]:List UInt8),false,0⟩:Gi),false) [])
  (.run [bf] (fun γ=>Gb (dF γ.2)) <|
  .gd ((0:Int)≤o1) <| .bd (l_0[o1.toNat]?) fun x14=>.run (cs 2 ((.op none (.i o1.toNat))::(.op none (.v [.str x14.Name,.bool x14.Closed,jI x14.Most]))::(cs 2 []))) (fun γ=>k2 (ix γ.1.2 γ.2) (k2 (GC (f:=Gi.enc) (z:=2) (fun _=>rfl) γ.2) (Gb (GU (f:=Gi.enc) (z:=3) (j:=o1.toNat) (fun _=>rfl) γ.2 rfl)))) <|
  .leaf (x14,true) []))
  (fun o1=>.run (cs 7 ((.fcut 1 (.exit 0) [] [(bT [.str name_1] 9)] [0] [(0,.any),(1,.any),(7,.any),(8,jI (↑(0:Nat):Int))] [bS])::(cs 4 (bt::(cs 3 []))))) (fun γ=>k2 (rfl:(jI 0:AV)=jI (↑(0:Nat):Int)) (k2 (VJ l_0 name_1 (s:=(0:Nat)) (r:=Sum.inr (o1)) (eS γ.1.2 γ.2)) (Gb (rfl:true=true)))) <|
  .leaf ((⟨([]:List UInt8),false,0⟩:Gi),false) [])
def M5 (l_0:(List Gi)) (name_1:(List UInt8)):Option (Gi×Bool):=(YB l_0 name_1).den
theorem U8 (l_0:(List Gi)) (name_1:(List UInt8)) (r:(Gi×Bool)) (h:M5 l_0 name_1=some r):G5 Tryz.prog GT 165 [.lst (fl Gi.enc l_0) l_0.length,.str name_1] (.tup [.agg (Gi.enc r.1),.bool r.2]) []:=
 G5.of_ht 400 (YB l_0 name_1) (fun (r:(Gi×Bool))=>.tup [.agg (Gi.enc r.1),.bool r.2]) (fun (r:(Gi×Bool))=>[]) (by kernel_rfl) h
def Yr (l_0:(List Gi)) (p_1:Gq):HT Bool True:=.run (cs 2 []) (fun _=>He) <|
  .bd (M5 l_0 p_1.System) fun r1=>.run (cs 3 ((.ret none [.any,.any] (.tup [.agg (Gi.enc r1.1),.bool r1.2]) [])::(cs 9 [oa,oc]))) (fun γ=>Gb (U8 l_0 p_1.System r1 γ.2)) <|
  .sp (p_1.Kind=(2:Int))
  (.run [bt,oc] (fun γ=>Gb (Gp γ.2)) <|
  .sp (r1.2=true)
  (.run (cs 2 (tc::(cs 5 []))) (fun γ=>Gb γ.2) <|
  .leaf (r1.1.Closed==true) [])
  (.run (cs 2 (oF::(cs 5 []))) (fun γ=>Gb ((eq_false_of_ne_true γ.2):r1.2=false)) <|
  .leaf false []))
  (.run [bf,oa,oc] (fun γ=>Gb (Gw γ.2)) <|
  .sp (p_1.Kind=(3:Int))
  (.run [bt,oc] (fun γ=>Gb (Gp γ.2)) <|
  .sp (r1.2=true)
  (.run (cs 2 (tc::(cs 5 []))) (fun γ=>Gb γ.2) <|
  .leaf (r1.1.Closed==true) [])
  (.run (cs 2 (oF::(cs 5 []))) (fun γ=>Gb ((eq_false_of_ne_true γ.2):r1.2=false)) <|
  .leaf false []))
  (.run [bf,oa,oc] (fun γ=>Gb (Gw γ.2)) <|
  .sp (p_1.Kind=(1:Int))
  (.run [bt] (fun γ=>Gb (Gp γ.2)) <|
  .sp (r1.2=true)
  (.run (cs 2 (tc::(cs 5 []))) (fun γ=>Gb γ.2) <|
  .leaf (r1.1.Closed==false) [])
  (.run (cs 2 (oF::(cs 5 []))) (fun γ=>Gb ((eq_false_of_ne_true γ.2):r1.2=false)) <|
  .leaf false []))
  (.run [bf] (fun γ=>Gb (Gw γ.2)) <|
  .sp (r1.2=true)
  (.run (cs 2 (tc::(cs 4 []))) (fun γ=>Gb γ.2) <|
  .leaf true [])
  (.run (cs 2 (oF::oc::oa::(cs 2 []))) (fun γ=>Gb ((eq_false_of_ne_true γ.2):r1.2=false)) <|
  .leaf (p_1.System==[]) []))))
def Xx (l_0:(List Gi)) (p_1:Gq):Option Bool:=(Yr l_0 p_1).den
theorem Gkv (l_0:(List Gi)) (p_1:Gq) (r:Bool) (h:Xx l_0 p_1=some r):G5 Tryz.prog GT 166 [.lst (fl Gi.enc l_0) l_0.length,.agg (Gq.enc p_1)] (.bool r) []:=
 G5.of_ht 400 (Yr l_0 p_1) (fun (r:Bool)=>.bool r) (fun (r:Bool)=>[]) (by kernel_rfl) h
def K9 (t_0:Ga):Nat→HT (Nat⊕(Int⊕Unit)) True
 | k23=>.run [oa] (fun _=>He) <|
  .sp ((↑k23:Int)<(↑t_0.Systems.length:Int))
  (.run [bt] (fun γ=>Gb (dT γ.2)) <|
  .bd (t_0.Systems[k23]?) fun x23=>.run (oc::(.op none (.i k23))::(.op none (.v [.str x23.Name,.bool x23.Closed,jI x23.Most]))::(cs 3 [])) (fun γ=>k2 (ir γ.2) (k2 (GC (f:=Gi.enc) (z:=2) (fun _=>rfl) γ.2) (Gb (GU (f:=Gi.enc) (z:=3) (j:=k23) (fun _=>rfl) γ.2 rfl)))) <|
  .bd (HC x23.Name) fun r25=>.run (cs 2 [.ret none [.any] (.bool r25) [],oc]) (fun γ=>Gb (Ha x23.Name r25 γ.2)) <|
  .sp (r25=true)
  (.run [bf] (fun γ=>Gb ((Gs γ.2):(!r25)=false)) <|
  .gd (k23≤t_0.Systems.length) <| .bd (M5 (List.take k23 t_0.Systems) x23.Name) fun r29=>.run (cs 3 ((.op none (.s 0 k23))::(.trp (.eqt (.t 36) (.lst (fl Gi.enc (List.take k23 t_0.Systems)) ((List.take k23 t_0.Systems).length))))::(cs 2 ((.ret none [.any,.any] (.tup [.agg (Gi.enc r29.1),.bool r29.2]) [])::(cs 7 []))))) (fun γ=>k2 (rfl:(↑k23:Int)=((k23:Nat):Int)) (k2 (⟨Nat.zero_le _,γ.1.2⟩:0≤k23∧k23≤t_0.Systems.length) (k2 ((VW (Ri (f:=Gi.enc) (z:=3) (fun _=>rfl) _ _) (by rw [List.length_take]; omega)):(.lst (List.take (k23*3) (fl Gi.enc t_0.Systems)) k23:AV)=.lst (fl Gi.enc (List.take k23 t_0.Systems)) ((List.take k23 t_0.Systems).length)) (Gb (U8 (List.take k23 t_0.Systems) x23.Name r29 γ.2))))) <|
  .sp (r29.2=true)
  (.run [bt,oc] (fun γ=>Gb γ.2) <|
  .leaf (Sum.inr (Sum.inl 9)) [0])
  (.run [bf] (fun γ=>Gb ((eq_false_of_ne_true γ.2):r29.2=false)) <|
  .sp (x23.Most<(0:Int))
  (.run (cs 2 (oa::oc::tc::(cs 12 [bt,oc]))) (fun γ=>k2 (dT γ.2) (Gb (rfl:true=true))) <|
  .leaf (Sum.inr (Sum.inl 12)) [0])
  (.sp (x23.Most>(2147483648:Int))
  (.run (cs 2 (oa::oc::oF::oc::oa::(cs 2 (tc::(cs 7 [bt,oc]))))) (fun γ=>k2 (dF γ.1.2) (k2 (dT γ.2) (Gb (rfl:true=true)))) <|
  .leaf (Sum.inr (Sum.inl 12)) [0])
  (.sp (x23.Closed=true)
  (.run (cs 2 (oa::oc::oF::oc::oa::(cs 2 (oF::(cs 2 (tc::oc::oa::(cs 2 []))))))) (fun γ=>k2 (dF γ.1.1.2) (k2 (dF γ.1.2) (Gb γ.2))) <|
  .sp (x23.Most=(0:Int))
  (.run [bt,oc] (fun γ=>Gb (Gp γ.2)) <|
  .leaf (Sum.inr (Sum.inl 12)) [0])
  (.run [bf] (fun γ=>Gb (Gw γ.2)) <|
  .gd (GP .i64 ((↑k23:Int)+1)) <| .run [ow,oc] (fun γ=>Gb γ.2) <|
  .leaf (Sum.inl (k23+1)) [0]))
  (.run (cs 2 (oa::oc::oF::oc::oa::(cs 2 (oF::(cs 2 (oF::(cs 4 [bf]))))))) (fun γ=>k2 (dF γ.1.1.2) (k2 (dF γ.1.2) (k2 ((eq_false_of_ne_true γ.2):x23.Closed=false) (Gb (rfl:false=false))))) <|
  .gd (GP .i64 ((↑k23:Int)+1)) <| .run [ow,oc] (fun γ=>Gb γ.2) <|
  .leaf (Sum.inl (k23+1)) [0])))))
  (.run [bt,oc] (fun γ=>Gb ((Gu (eq_false_of_ne_true γ.2)):(!r25)=true)) <|
  .leaf (Sum.inr (Sum.inl 6)) [0]))
  (.run [bf] (fun γ=>Gb (dF γ.2)) <|
  .leaf (Sum.inr (Sum.inr (()))) [0])
def Jb (t_0:Ga):Nat→Option (Nat⊕(Int⊕Unit)):=fun s=>(K9 t_0 s).den
def YV (t_0:Ga):Nat→PS:=fun s=>(75,[(1,.ptr 0 0),(21,.lst (fl Gi.enc t_0.Systems) t_0.Systems.length),(22,jI (↑t_0.Systems.length:Int)),(23,jI (↑s:Int))],[(bT (Ga.enc t_0) 41)])
def YQ:(Int⊕Unit)→Hm:=fun q=>match q with | Sum.inl o=>.ret | Sum.inr (o)=>(.exit 0)
def YX (t_0:Ga):(Int⊕Unit)→List (Nat×AV):=fun q=>match q with | Sum.inl o=>[(2,jI o)] | Sum.inr (o)=>[(1,.ptr 0 0)]
def YU (t_0:Ga):(Int⊕Unit)→List G6:=fun q=>match q with | Sum.inl o=>[(bT (Ga.enc t_0) 41)] | Sum.inr (o)=>[(bT (Ga.enc t_0) 41)]
theorem Uz (t_0:Ga) {s:Nat} {r:Int⊕Unit} (h:lp (Jb t_0) s=some r):GI Tryz.prog GT 1 (.loop (GO Tryz.prog 81 [1,1,1,0,1,0,0])) (YV t_0 s).st (YQ r) (PS.st (75,YX t_0 r,YU t_0 r)):=
 GI.lp_ht 1 400 (YV t_0) YQ (fun q=>(75,YX t_0 q,YU t_0 q)) (K9 t_0) (by intro k23; kernel_rfl) h
def KF (t_0:Ga):Nat→HT (Nat⊕(Unit⊕Unit)) True
 | k65=>.run [oa] (fun _=>He) <|
  .sp ((↑k65:Int)<(↑t_0.Net.Points.length:Int))
  (.run [bt] (fun γ=>Gb (dT γ.2)) <|
  .bd (t_0.Net.Points[k65]?) fun x47=>.run ((.op none (.i k65))::(.op none (.v [.str x47.Name,jI x47.Kind,.str x47.System]))::(cs 2 [])) (fun γ=>k2 (ir γ.2) (k2 (GC (f:=Gq.enc) (z:=2) (fun _=>rfl) γ.2) (Gb (GU (f:=Gq.enc) (z:=3) (j:=k65) (fun _=>rfl) γ.2 rfl)))) <|
  .bd (Xx t_0.Systems x47) fun r49=>.run (cs 3 [.ret none [.any,.any] (.bool r49) [],oc]) (fun γ=>Gb (Gkv t_0.Systems x47 r49 γ.2)) <|
  .sp (r49=true)
  (.run [bf] (fun γ=>Gb ((Gs γ.2):(!r49)=false)) <|
  .gd (GP .i64 ((↑k65:Int)+1)) <| .run [ow,oc] (fun γ=>Gb γ.2) <|
  .leaf (Sum.inl (k65+1)) [0])
  (.run [bt,oc] (fun γ=>Gb ((Gu (eq_false_of_ne_true γ.2)):(!r49)=true)) <|
  .leaf (Sum.inr (Sum.inl ())) [0]))
  (.run [bf] (fun γ=>Gb (dF γ.2)) <|
  .leaf (Sum.inr (Sum.inr (()))) [0])
def H7 (t_0:Ga):Nat→Option (Nat⊕(Unit⊕Unit)):=fun s=>(KF t_0 s).den
def XN (t_0:Ga):Nat→PS:=fun s=>(75,[(1,.ptr 0 0),(63,.lst (fl Gq.enc t_0.Net.Points) t_0.Net.Points.length),(64,jI (↑t_0.Net.Points.length:Int)),(65,jI (↑s:Int))],[(bT (Ga.enc t_0) 41)])
def XR:(Unit⊕Unit)→Hm:=fun q=>match q with | Sum.inl o=>.ret | Sum.inr (o)=>(.exit 2)
def X3 (t_0:Ga):(Unit⊕Unit)→List (Nat×AV):=fun q=>match q with | Sum.inl o=>[(2,jI 16)] | Sum.inr (o)=>[]
def X7 (t_0:Ga):(Unit⊕Unit)→List G6:=fun q=>match q with | Sum.inl o=>[(bT (Ga.enc t_0) 41)] | Sum.inr (o)=>[(bT (Ga.enc t_0) 41)]
theorem R9 (t_0:Ga) {s:Nat} {r:Unit⊕Unit} (h:lp (H7 t_0) s=some r):GI Tryz.prog GT 1 (.loop (GO Tryz.prog 81 [1,1,1,1,0,1,0,0])) (XN t_0 s).st (XR r) (PS.st (75,X3 t_0 r,X7 t_0 r)):=
 GI.lp_ht 1 400 (XN t_0) XR (fun q=>(75,X3 t_0 q,X7 t_0 q)) (KF t_0) (by intro k65; kernel_rfl) h
def V8 (t_0:Ga):HT Int True:=.run (cs 2 []) (fun _=>He) <|
  .bd (Ye t_0.Net) fun r1=>.run (cs 2 ((.ret none [.any] (jI r1) [])::(cs 2 [oa]))) (fun γ=>Gb (Gem t_0.Net r1 γ.2)) <|
  .sp (r1=(0:Int))
  (.run (bf::(cs 3 [oa])) (fun γ=>Gb (Gs (Gp γ.2))) <|
  .sp ((↑t_0.Systems.length:Int)>(64:Int))
  (.run [bt,oc] (fun γ=>Gb (dT γ.2)) <|
  .leaf 3 [])
  (.run (bf::(cs 4 [])) (fun γ=>Gb (dF γ.2)) <|
  .bd (lp (Jb t_0) (0:Nat)) fun qq=>.cs qq (fun o5=>.run [.fcut 1 .ret [(2,jI o5)] [(bT (Ga.enc t_0) 41)] [0] [(1,.any),(21,.any),(22,.any),(23,jI (↑(0:Nat):Int))] [bS]] (fun γ=>k2 (rfl:(jI 0:AV)=jI (↑(0:Nat):Int)) (Gb (Uz t_0 (s:=(0:Nat)) (r:=Sum.inl o5) (eS γ.1.2 γ.2)))) <|
  .leaf o5 [])
  (fun o5=>.run ((.fcut 1 (.exit 0) [(1,.ptr 0 0)] [(bT (Ga.enc t_0) 41)] [0] [(1,.any),(21,.any),(22,.any),(23,jI (↑(0:Nat):Int))] [bS])::(cs 5 [])) (fun γ=>k2 (rfl:(jI 0:AV)=jI (↑(0:Nat):Int)) (Gb (Uz t_0 (s:=(0:Nat)) (r:=Sum.inr (o5)) (eS γ.1.2 γ.2)))) <|
  .bd (lp (H7 t_0) (0:Nat)) fun qq=>.cs qq (fun o38=>.run [.fcut 1 .ret [(2,jI 16)] [(bT (Ga.enc t_0) 41)] [0] [(1,.any),(63,.any),(64,.any),(65,jI (↑(0:Nat):Int))] [bS]] (fun γ=>k2 (rfl:(jI 0:AV)=jI (↑(0:Nat):Int)) (Gb (R9 t_0 (s:=(0:Nat)) (r:=Sum.inl o38) (eS γ.1.2 γ.2)))) <|
  .leaf 16 [])
  (fun o38=>.run [.fcut 1 (.exit 2) [] [(bT (Ga.enc t_0) 41)] [0] [(1,.any),(63,.any),(64,.any),(65,jI (↑(0:Nat):Int))] [bS],oc] (fun γ=>k2 (rfl:(jI 0:AV)=jI (↑(0:Nat):Int)) (Gb (R9 t_0 (s:=(0:Nat)) (r:=Sum.inr (o38)) (eS γ.1.2 γ.2)))) <|
  .leaf 0 []))))
  (.run (bt::(cs 2 [])) (fun γ=>Gb (Gu (Gw γ.2))) <|
  .leaf r1 [])
def QU (t_0:Ga):Option Int:=(V8 t_0).den
theorem Jy (t_0:Ga) (r:Int) (h:QU t_0=some r):G5 Tryz.prog GT 81 [.agg (Ga.enc t_0)] (jI r) []:=
 G5.of_ht 400 (V8 t_0) (fun (r:Int)=>jI r) (fun (r:Int)=>[]) (by kernel_rfl) h
def Zn (l_0:(List Gi)) (name_1:(List UInt8)):Nat→HT (Nat⊕(Int⊕Unit)) True
 | k5=>.run (cs 3 [oa]) (fun _=>He) <|
  .sp ((↑k5:Int)<(↑l_0.length:Int))
  (.run [bt] (fun γ=>Gb (dT γ.2)) <|
  .bd (l_0[k5]?) fun x8=>.run (cs 2 [.op none (.i k5),oc,.op none (.v [.str x8.Name]),oc,oa]) (fun γ=>k2 (ir γ.2) (k2 (GC (f:=Gi.enc) (z:=2) (fun _=>rfl) γ.2) (Gb (GL (f:=Gi.enc) (z:=3) (j:=k5) (a:=0) (n:=1) (fun _=>rfl) γ.2 (by decide) rfl)))) <|
  .sp (x8.Name=name_1)
  (.run (bt::(cs 2 [])) (fun γ=>Gb (Gp γ.2)) <|
  .leaf (Sum.inr (Sum.inl (↑k5:Int))) [])
  (.run [bf] (fun γ=>Gb (Gw γ.2)) <|
  .gd (GP .i64 ((↑k5:Int)+1)) <| .run [oc,ow,oc] (fun γ=>Gb γ.2) <|
  .leaf (Sum.inl (k5+1)) []))
  (.run [bf] (fun γ=>Gb (dF γ.2)) <|
  .leaf (Sum.inr (Sum.inr (()))) [])
def M1 (l_0:(List Gi)) (name_1:(List UInt8)):Nat→Option (Nat⊕(Int⊕Unit)):=fun s=>(Zn l_0 name_1 s).den
def GjF (l_0:(List Gi)) (name_1:(List UInt8)):Nat→PS:=fun s=>(20,[(0,.lst (fl Gi.enc l_0) l_0.length),(1,.str name_1),(5,jI (↑s:Int))],[])
def Gkb:(Int⊕Unit)→Hm:=fun q=>match q with | Sum.inl o=>.ret | Sum.inr (o)=>(.exit 0)
def Gkw (l_0:(List Gi)) (name_1:(List UInt8)):(Int⊕Unit)→List (Nat×AV):=fun q=>match q with | Sum.inl o=>[(4,jI o)] | Sum.inr (o)=>[]
def GjO (l_0:(List Gi)) (name_1:(List UInt8)):(Int⊕Unit)→List G6:=fun q=>match q with | Sum.inl o=>[] | Sum.inr (o)=>[]
theorem Gef (l_0:(List Gi)) (name_1:(List UInt8)) {s:Nat} {r:Int⊕Unit} (h:lp (M1 l_0 name_1) s=some r):GI Tryz.prog GT 0 (.loop (GO Tryz.prog 113 [1,0,1,0,0])) (GjF l_0 name_1 s).st (Gkb r) (PS.st (20,Gkw l_0 name_1 r,GjO l_0 name_1 r)):=
 GI.lp_ht 0 400 (GjF l_0 name_1) Gkb (fun q=>(20,Gkw l_0 name_1 q,GjO l_0 name_1 q)) (Zn l_0 name_1) (by intro k5; kernel_rfl) h
def GkZ (l_0:(List Gi)) (name_1:(List UInt8)):HT Int True:=.run (cs 2 []) (fun _=>He) <|
  .bd (lp (M1 l_0 name_1) (0:Nat)) fun qq=>.cs qq (fun o1=>.run [.fcut 0 .ret [(4,jI o1)] [] [] [(0,.any),(1,.any),(5,jI (↑(0:Nat):Int))] []] (fun γ=>k2 (rfl:(jI 0:AV)=jI (↑(0:Nat):Int)) (Gb (Gef l_0 name_1 (s:=(0:Nat)) (r:=Sum.inl o1) (eS γ.1.2 γ.2)))) <|
  .leaf o1 [])
  (fun o1=>.run [.fcut 0 (.exit 0) [] [] [] [(0,.any),(1,.any),(5,jI (↑(0:Nat):Int))] [],oc] (fun γ=>k2 (rfl:(jI 0:AV)=jI (↑(0:Nat):Int)) (Gb (Gef l_0 name_1 (s:=(0:Nat)) (r:=Sum.inr (o1)) (eS γ.1.2 γ.2)))) <|
  .leaf (-1) [])
def GgS (l_0:(List Gi)) (name_1:(List UInt8)):Option Int:=(GkZ l_0 name_1).den
theorem Ggi (l_0:(List Gi)) (name_1:(List UInt8)) (r:Int) (h:GgS l_0 name_1=some r):G5 Tryz.prog GT 113 [.lst (fl Gi.enc l_0) l_0.length,.str name_1] (jI r) []:=
 G5.of_ht 400 (GkZ l_0 name_1) (fun (r:Int)=>jI r) (fun (r:Int)=>[]) (by kernel_rfl) h
def Gin (t_0:Ga) (p_1:Gq):HT Int True:=.run (cs 3 []) (fun _=>He) <|
  .bd (GgS t_0.Systems p_1.System) fun r1=>.run (cs 4 ((.ret none [.any,.any] (jI r1) [])::(cs 2 (oa::(cs 3 [oa]))))) (fun γ=>Gb (Ggi t_0.Systems p_1.System r1 γ.2)) <|
  .sp (p_1.Kind=(1:Int))
  (.run [bt] (fun γ=>Gb (Gp γ.2)) <|
  .sp (r1≥(0:Int))
  (.gd ((0:Int)≤r1) <| .bd (t_0.Systems[r1.toNat]?) fun x6=>.run (cs 2 (tc::(cs 2 ((.op none (.i r1.toNat))::oc::(.op none (.v [.bool x6.Closed]))::(cs 5 []))))) (fun γ=>k2 (dT γ.1.1.2) (k2 (ix γ.1.2 γ.2) (k2 (GC (f:=Gi.enc) (z:=2) (fun _=>rfl) γ.2) (Gb (GL (f:=Gi.enc) (z:=3) (j:=r1.toNat) (a:=1) (n:=1) (fun _=>rfl) γ.2 (by decide) rfl))))) <|
  .sp (x6.Closed=true)
  (.run [bt,oc] (fun γ=>Gb ((Gu (Gs γ.2)):(!(!x6.Closed))=true)) <|
  .leaf 16 [])
  (.run [bf,oc] (fun γ=>Gb ((Gs (Gu (eq_false_of_ne_true γ.2))):(!(!x6.Closed))=false)) <|
  .leaf 0 []))
  (.run (cs 2 (oF::(cs 10 [bt,oc]))) (fun γ=>k2 (dF γ.2) (Gb (rfl:true=true))) <|
  .leaf 16 []))
  (.run (bf::(cs 2 [oa])) (fun γ=>Gb (Gw γ.2)) <|
  .sp (p_1.Kind=(4:Int))
  (.run [bf] (fun γ=>Gb (Gs (Gp γ.2))) <|
  .sp (r1≥(0:Int))
  (.run (cs 2 (tc::(cs 6 [bf,oc]))) (fun γ=>k2 (dT γ.2) (Gb (rfl:false=false))) <|
  .leaf 0 [])
  (.run (cs 2 (oF::oc::oa::(cs 4 []))) (fun γ=>Gb (dF γ.2)) <|
  .sp (p_1.System=[])
  (.run [bf,oc] (fun γ=>Gb (Gs (Gp γ.2))) <|
  .leaf 0 [])
  (.run [bt,oc] (fun γ=>Gb (Gu (Gw γ.2))) <|
  .leaf 16 [])))
  (.run [bt] (fun γ=>Gb (Gu (Gw γ.2))) <|
  .sp (r1≥(0:Int))
  (.gd ((0:Int)≤r1) <| .bd (t_0.Systems[r1.toNat]?) fun x14=>.run (cs 2 (tc::(cs 2 ((.op none (.i r1.toNat))::oc::(.op none (.v [.bool x14.Closed]))::(cs 4 []))))) (fun γ=>k2 (dT γ.1.1.2) (k2 (ix γ.1.2 γ.2) (k2 (GC (f:=Gi.enc) (z:=2) (fun _=>rfl) γ.2) (Gb (GL (f:=Gi.enc) (z:=3) (j:=r1.toNat) (a:=1) (n:=1) (fun _=>rfl) γ.2 (by decide) rfl))))) <|
  .sp (x14.Closed=true)
  (.run [bf,oc] (fun γ=>Gb ((Gs γ.2):(!x14.Closed)=false)) <|
  .leaf 0 [])
  (.run [bt,oc] (fun γ=>Gb ((Gu (eq_false_of_ne_true γ.2)):(!x14.Closed)=true)) <|
  .leaf 16 []))
  (.run (cs 2 (oF::(cs 9 [bt,oc]))) (fun γ=>k2 (dF γ.2) (Gb (rfl:true=true))) <|
  .leaf 16 [])))
def GjU (t_0:Ga) (p_1:Gq):Option Int:=(Gin t_0 p_1).den
theorem Gpa (t_0:Ga) (p_1:Gq) (r:Int) (h:GjU t_0 p_1=some r):G5 Tryz.prog GT 114 [.agg (Ga.enc t_0),.agg (Gq.enc p_1)] (jI r) []:=
 G5.of_ht 400 (Gin t_0 p_1) (fun (r:Int)=>jI r) (fun (r:Int)=>[]) (by kernel_rfl) h
def Xy (t_0:Ga):Nat→HT (Nat⊕(Int⊕Unit)) True
 | k4=>.run (cs 4 [oa]) (fun _=>He) <|
  .sp ((↑k4:Int)<(↑t_0.Systems.length:Int))
  (.run [bt] (fun γ=>Gb (dT γ.2)) <|
  .bd (t_0.Systems[k4]?) fun x23=>.run (cs 3 ((.op none (.i k4))::(.op none (.v [.str x23.Name,.bool x23.Closed,jI x23.Most]))::(cs 2 []))) (fun γ=>k2 (ir γ.2) (k2 (GC (f:=Gi.enc) (z:=2) (fun _=>rfl) γ.2) (Gb (GU (f:=Gi.enc) (z:=3) (j:=k4) (fun _=>rfl) γ.2 rfl)))) <|
  .bd (MK x23.Name) fun r25=>.run (cs 2 [.ret none [.any] (.bool r25) [],oc]) (fun γ=>Gb (HW x23.Name r25 γ.2)) <|
  .sp (r25=true)
  (.run [bf] (fun γ=>Gb ((Gs γ.2):(!r25)=false)) <|
  .gd (k4≤t_0.Systems.length) <| .bd (GgS (List.take k4 t_0.Systems) x23.Name) fun r29=>.run (cs 3 ((.op none (.s 0 k4))::(.trp (.eqt (.t 37) (.lst (fl Gi.enc (List.take k4 t_0.Systems)) ((List.take k4 t_0.Systems).length))))::(cs 2 [.ret none [.any,.any] (jI r29) [],oa]))) (fun γ=>k2 (rfl:(↑k4:Int)=((k4:Nat):Int)) (k2 (⟨Nat.zero_le _,γ.1.2⟩:0≤k4∧k4≤t_0.Systems.length) (k2 ((VW (Ri (f:=Gi.enc) (z:=3) (fun _=>rfl) _ _) (by rw [List.length_take]; omega)):(.lst (List.take (k4*3) (fl Gi.enc t_0.Systems)) k4:AV)=.lst (fl Gi.enc (List.take k4 t_0.Systems)) ((List.take k4 t_0.Systems).length)) (Gb (Ggi (List.take k4 t_0.Systems) x23.Name r29 γ.2))))) <|
  .sp (r29≥(0:Int))
  (.run [bt,oc] (fun γ=>Gb (dT γ.2)) <|
  .leaf (Sum.inr (Sum.inl 9)) [0])
  (.run [bf] (fun γ=>Gb (dF γ.2)) <|
  .sp (x23.Most<(0:Int))
  (.run (cs 2 (oa::oc::tc::(cs 12 [bt,oc]))) (fun γ=>k2 (dT γ.2) (Gb (rfl:true=true))) <|
  .leaf (Sum.inr (Sum.inl 12)) [0])
  (.sp (x23.Most>(2147483648:Int))
  (.run (cs 2 (oa::oc::oF::oc::oa::(cs 2 (tc::(cs 7 [bt,oc]))))) (fun γ=>k2 (dF γ.1.2) (k2 (dT γ.2) (Gb (rfl:true=true)))) <|
  .leaf (Sum.inr (Sum.inl 12)) [0])
  (.sp (x23.Closed=true)
  (.run (cs 2 (oa::oc::oF::oc::oa::(cs 2 (oF::(cs 2 (tc::oc::oa::(cs 2 []))))))) (fun γ=>k2 (dF γ.1.1.2) (k2 (dF γ.1.2) (Gb γ.2))) <|
  .sp (x23.Most=(0:Int))
  (.run [bt,oc] (fun γ=>Gb (Gp γ.2)) <|
  .leaf (Sum.inr (Sum.inl 12)) [0])
  (.run [bf] (fun γ=>Gb (Gw γ.2)) <|
  .gd (GP .i64 ((↑k4:Int)+1)) <| .run [oc,ow,oc] (fun γ=>Gb γ.2) <|
  .leaf (Sum.inl (k4+1)) [0]))
  (.run (cs 2 (oa::oc::oF::oc::oa::(cs 2 (oF::(cs 2 (oF::(cs 4 [bf]))))))) (fun γ=>k2 (dF γ.1.1.2) (k2 (dF γ.1.2) (k2 ((eq_false_of_ne_true γ.2):x23.Closed=false) (Gb (rfl:false=false))))) <|
  .gd (GP .i64 ((↑k4:Int)+1)) <| .run [oc,ow,oc] (fun γ=>Gb γ.2) <|
  .leaf (Sum.inl (k4+1)) [0])))))
  (.run [bt,oc] (fun γ=>Gb ((Gu (eq_false_of_ne_true γ.2)):(!r25)=true)) <|
  .leaf (Sum.inr (Sum.inl 6)) [0]))
  (.run [bf] (fun γ=>Gb (dF γ.2)) <|
  .leaf (Sum.inr (Sum.inr (()))) [0])
def Mp (t_0:Ga):Nat→Option (Nat⊕(Int⊕Unit)):=fun s=>(Xy t_0 s).den
def Gho (t_0:Ga):Nat→PS:=fun s=>(78,[(1,.ptr 0 0),(4,jI (↑s:Int))],[(bT (Ga.enc t_0) 41)])
def GhW:(Int⊕Unit)→Hm:=fun q=>match q with | Sum.inl o=>.ret | Sum.inr (o)=>(.exit 0)
def Ghr (t_0:Ga):(Int⊕Unit)→List (Nat×AV):=fun q=>match q with | Sum.inl o=>[(2,jI o)] | Sum.inr (o)=>[(1,.ptr 0 0)]
def GhN (t_0:Ga):(Int⊕Unit)→List G6:=fun q=>match q with | Sum.inl o=>[(bT (Ga.enc t_0) 41)] | Sum.inr (o)=>[(bT (Ga.enc t_0) 41)]
theorem GcJ (t_0:Ga) {s:Nat} {r:Int⊕Unit} (h:lp (Mp t_0) s=some r):GI Tryz.prog GT 1 (.loop (GO Tryz.prog 50 [1,1,1,0,1,0,0])) (Gho t_0 s).st (GhW r) (PS.st (78,Ghr t_0 r,GhN t_0 r)):=
 GI.lp_ht 1 400 (Gho t_0) GhW (fun q=>(78,Ghr t_0 q,GhN t_0 q)) (Xy t_0) (by intro k4; kernel_rfl) h
def UJ (t_0:Ga):Nat→HT (Nat⊕(Int⊕Unit)) True
 | k6=>.run (cs 5 [oa]) (fun _=>He) <|
  .sp ((↑k6:Int)<(↑t_0.Net.Points.length:Int))
  (.run [bt] (fun γ=>Gb (dT γ.2)) <|
  .bd (t_0.Net.Points[k6]?) fun x47=>.bd (GjU t_0 x47) fun r49=>.run (cs 5 ((.op none (.i k6))::(.op none (.v [.str x47.Name,jI x47.Kind,.str x47.System]))::(.ret none [.any,.any] (jI r49) [])::(cs 2 [oa]))) (fun γ=>k2 (ir γ.1.2) (k2 (GC (f:=Gq.enc) (z:=2) (fun _=>rfl) γ.1.2) (k2 (GU (f:=Gq.enc) (z:=3) (j:=k6) (fun _=>rfl) γ.1.2 rfl) (Gb (Gpa t_0 x47 r49 γ.2))))) <|
  .sp (r49=(0:Int))
  (.run [bf] (fun γ=>Gb (Gs (Gp γ.2))) <|
  .gd (GP .i64 ((↑k6:Int)+1)) <| .run [oc,ow,oc] (fun γ=>Gb γ.2) <|
  .leaf (Sum.inl (k6+1)) [0])
  (.run (bt::(cs 2 [])) (fun γ=>Gb (Gu (Gw γ.2))) <|
  .leaf (Sum.inr (Sum.inl r49)) [0]))
  (.run [bf] (fun γ=>Gb (dF γ.2)) <|
  .leaf (Sum.inr (Sum.inr (()))) [0])
def KS (t_0:Ga):Nat→Option (Nat⊕(Int⊕Unit)):=fun s=>(UJ t_0 s).den
def GgA (t_0:Ga):Nat→PS:=fun s=>(78,[(1,.ptr 0 0),(6,jI (↑s:Int))],[(bT (Ga.enc t_0) 41)])
def Gfi:(Int⊕Unit)→Hm:=fun q=>match q with | Sum.inl o=>.ret | Sum.inr (o)=>(.exit 2)
def GeL (t_0:Ga):(Int⊕Unit)→List (Nat×AV):=fun q=>match q with | Sum.inl o=>[(2,jI o)] | Sum.inr (o)=>[]
def Gfd (t_0:Ga):(Int⊕Unit)→List G6:=fun q=>match q with | Sum.inl o=>[(bT (Ga.enc t_0) 41)] | Sum.inr (o)=>[(bT (Ga.enc t_0) 41)]
theorem GaY (t_0:Ga) {s:Nat} {r:Int⊕Unit} (h:lp (KS t_0) s=some r):GI Tryz.prog GT 1 (.loop (GO Tryz.prog 50 [1,1,1,1,0,1,0,0])) (GgA t_0 s).st (Gfi r) (PS.st (78,GeL t_0 r,Gfd t_0 r)):=
 GI.lp_ht 1 400 (GgA t_0) Gfi (fun q=>(78,GeL t_0 q,Gfd t_0 q)) (UJ t_0) (by intro k6; kernel_rfl) h
def GiS (t_0:Ga):HT Int True:=.run (cs 2 []) (fun _=>He) <|
  .bd (Ggy t_0.Net) fun r1=>.run (cs 2 ((.ret none [.any] (jI r1) [])::(cs 2 [oa]))) (fun γ=>Gb (Gkf t_0.Net r1 γ.2)) <|
  .sp (r1=(0:Int))
  (.run (bf::(cs 3 [oa])) (fun γ=>Gb (Gs (Gp γ.2))) <|
  .sp ((↑t_0.Systems.length:Int)>(64:Int))
  (.run [bt,oc] (fun γ=>Gb (dT γ.2)) <|
  .leaf 3 [])
  (.run [bf,oc] (fun γ=>Gb (dF γ.2)) <|
  .bd (lp (Mp t_0) (0:Nat)) fun qq=>.cs qq (fun o5=>.run [.fcut 1 .ret [(2,jI o5)] [(bT (Ga.enc t_0) 41)] [0] [(1,.any),(4,jI (↑(0:Nat):Int))] [bS]] (fun γ=>k2 (rfl:(jI 0:AV)=jI (↑(0:Nat):Int)) (Gb (GcJ t_0 (s:=(0:Nat)) (r:=Sum.inl o5) (eS γ.1.2 γ.2)))) <|
  .leaf o5 [])
  (fun o5=>.run [.fcut 1 (.exit 0) [(1,.ptr 0 0)] [(bT (Ga.enc t_0) 41)] [0] [(1,.any),(4,jI (↑(0:Nat):Int))] [bS],oc] (fun γ=>k2 (rfl:(jI 0:AV)=jI (↑(0:Nat):Int)) (Gb (GcJ t_0 (s:=(0:Nat)) (r:=Sum.inr (o5)) (eS γ.1.2 γ.2)))) <|
  .bd (lp (KS t_0) (0:Nat)) fun qq=>.cs qq (fun o38=>.run [.fcut 1 .ret [(2,jI o38)] [(bT (Ga.enc t_0) 41)] [0] [(1,.any),(6,jI (↑(0:Nat):Int))] [bS]] (fun γ=>k2 (rfl:(jI 0:AV)=jI (↑(0:Nat):Int)) (Gb (GaY t_0 (s:=(0:Nat)) (r:=Sum.inl o38) (eS γ.1.2 γ.2)))) <|
  .leaf o38 [])
  (fun o38=>.run [.fcut 1 (.exit 2) [] [(bT (Ga.enc t_0) 41)] [0] [(1,.any),(6,jI (↑(0:Nat):Int))] [bS],oc] (fun γ=>k2 (rfl:(jI 0:AV)=jI (↑(0:Nat):Int)) (Gb (GaY t_0 (s:=(0:Nat)) (r:=Sum.inr (o38)) (eS γ.1.2 γ.2)))) <|
  .leaf 0 []))))
  (.run (bt::(cs 2 [])) (fun γ=>Gb (Gu (Gw γ.2))) <|
  .leaf r1 [])
def Ge2 (t_0:Ga):Option Int:=(GiS t_0).den
theorem Vd (t_0:Ga) (r:Int) (h:Ge2 t_0=some r):G5 Tryz.prog GT 50 [.agg (Ga.enc t_0)] (jI r) []:=
 G5.of_ht 400 (GiS t_0) (fun (r:Int)=>jI r) (fun (r:Int)=>[]) (by kernel_rfl) h
end
set_option maxHeartbeats 4000000
noncomputable section
def Gph (name:List UInt8) (y:Gi):Bool:=decide (y.Name=name)
def Gw4:Gi:=⟨[],false,0⟩
def GcL (l:List Gi) (name:List UInt8):Gi×Bool:=match l.find? (Gph name) with | some y=>(y,true) | none=>(Gw4,false)
theorem VX (l:List Gi) (hl:Sm l) (name:List UInt8):M5 l name=some (GcL l name):=by
 simp only [M5,YB,d1,d2,d3,d4,d5,d6,d7,eN,eM]
 have key:lp (Js l name) 0=some (HL (GK (ixG (Gph name)) 0 l)):=by
  refine GQ (fun k x hx=>?_) ?_
  ·have hk:=Hg hx
   have i1:GP .i64 ((k:Int)+1):=sm1 hl hk
   have hkl:(k:Int)<(l.length:Int):=by omega
   simp only [Js,MG,d1,d2,d3,d4,d5,d6,d7,eN,eM,hx,Option.bind_some,i1,if_true,hkl,ixG,Gph,decide_eq_true_eq]
   by_cases e:x.Name=name <;> simp only [e,if_true,if_false,KC]
  ·simp only [Js,MG,d3,d6,d1]
   rw [if_neg (by omega)]
 rw [key]
 unfold GcL
 rcases VY (p:=Gph name) l with ⟨j,y,h1,h2,h3⟩ | ⟨h1,h3⟩
 ·rw [h1,h3]
  simp only [HL,Option.bind_some,eN,Int.toNat_natCast,h2]
  rw [if_neg (by omega),if_pos (by omega)]
 ·rw [h1,h3]; rfl
theorem Gci (l:List Gi) (hl:Sm l) (name:List UInt8):∃ r,GgS l name=some r∧(0≤r↔(GcL l name).2=true)∧(0≤r→l[r.toNat]?=some (GcL l name).1):=by
 simp only [GgS,GkZ,d1,d2,d3,d4,d5,d6,d7,eN,eM]
 have key:lp (M1 l name) 0=some (HL (GK (ixG (Gph name)) 0 l)):=by
  refine GQ (fun k x hx=>?_) ?_
  ·have hk:=Hg hx
   have i1:GP .i64 ((k:Int)+1):=sm1 hl hk
   have hkl:(k:Int)<(l.length:Int):=by omega
   simp only [M1,Zn,d1,d2,d3,d4,d5,d6,d7,eN,eM,hx,Option.bind_some,i1,if_true,hkl,ixG,Gph,decide_eq_true_eq]
   by_cases e:x.Name=name <;> simp only [e,if_true,if_false,KC]
  ·simp only [M1,Zn,d3,d6,d1]
   rw [if_neg (by omega)]
 rw [key]
 unfold GcL
 rcases VY (p:=Gph name) l with ⟨j,y,h1,h2,h3⟩ | ⟨h1,h3⟩
 ·rw [h1,h3]
  exact ⟨j,rfl,by simp,fun _=>by simpa using h2⟩
 ·rw [h1,h3]
  exact ⟨-1,rfl,by simp,fun h=>absurd h (by omega)⟩
def GeH (l:List Gi) (p:Gq):Bool:=
 if p.Kind=2∨p.Kind=3 then (GcL l p.System).2&&(GcL l p.System).1.Closed
 else if p.Kind=1 then (GcL l p.System).2&&!(GcL l p.System).1.Closed
 else (GcL l p.System).2||decide (p.System=[])
theorem GkI (l:List Gi) (hl:Sm l) (p:Gq):Xx l p=some (GeH l p):=by
 simp only [Xx,Yr,d1,d2,d3,d4,d5,d6,d7,eN,eM,VX l hl,Option.bind_some]
 clear hl
 unfold GeH
 generalize GcL l p.System=q
 obtain ⟨y,b⟩:=q
 cases b <;> cases h:y.Closed <;> grind
theorem Gnh (t:Ga) (hl:Sm t.Systems) (p:Gq) (hk:1≤p.Kind∧p.Kind≤4):GjU t p=some (if GeH t.Systems p then 0 else 16):=by
 obtain ⟨r,h1,h2,h3⟩:=Gci t.Systems hl p.System
 simp only [GjU,Gin,d1,d2,d3,d4,d5,d6,d7,eN,eM,h1,Option.bind_some]
 clear hl h1
 unfold GeH
 generalize GcL t.Systems p.System=q at h2 h3
 obtain ⟨y,b⟩:=q
 by_cases hr:0≤r
 ·simp only [h3 hr,Option.bind_some]
  cases b <;> cases h:y.Closed <;> grind
 ·cases b <;> cases h:y.Closed <;> grind
def GoX (l:List Gi) (k:Nat) (x:Gi):Option Int:=
 if HE x.Name=false then some 6 else if (GcL (l.take k) x.Name).2 then some 9 else if x.Most<0∨x.Most>2147483648∨(x.Closed=true∧x.Most=0) then some 12 else none
def GiL (t:Ga):Int:=
 if GeG t.Net≠0 then GeG t.Net else if t.Systems.length>64 then 3 else ((GK (GoX t.Systems) 0 t.Systems).or (GK (fun _ x=>if GeH t.Systems x then none else some 16) 0 t.Net.Points)).getD 0
theorem GwU {l:List Gq} {k:Nat} {x:Gq} {r:Int} (h:ptR l k x=some r):r≠0:=by unfold ptR at h; grind
theorem GgL {n:Gc} (h:GeG n=0):n.Points.length≤64∧n.Links.length≤128∧∀ (k:Nat) (x:Gq),n.Points[k]?=some x→1≤x.Kind∧x.Kind≤4:=by
 unfold GeG at h
 split at h
 ·cases h
 ·refine ⟨by omega,by omega,fun k x hx=>?_⟩
  cases he:GK (ptR n.Points) 0 n.Points with
  | some r=>
   rw [he] at h
   simp only [Option.some_or,Option.getD_some] at h
   obtain ⟨i,y,h1,h2⟩:=Qa he
   exact absurd h (GwU h2)
  | none=>
   have:=Zz he k x hx
   unfold ptR at this
   grind
theorem GbY (t:Ga):QU t=some (GiL t):=by
 simp only [QU,V8,d1,d2,d3,d4,d5,d6,d7,eN,eM,Ggh,Option.bind_some]
 unfold GiL
 by_cases h0:GeG t.Net=0
 rotate_left
 ·rw [if_neg h0,if_pos h0]
 rw [if_pos h0,if_neg (show ¬ (GeG t.Net≠0) from fun h=>h h0)]
 by_cases h1:t.Systems.length>64
 ·rw [if_pos (by omega),if_pos h1]
 rw [if_neg (by omega),if_neg h1]
 have hs:Sm t.Systems:=by show _≤_; omega
 obtain ⟨hp0,_,_⟩:=GgL h0
 have hp:Sm t.Net.Points:=by show _≤_; omega
 have k1:lp (Jb t) 0=some (HL (GK (GoX t.Systems) 0 t.Systems)):=by
  refine GQ (fun k x hx=>?_) ?_
  ·have hk:=Hg hx
   have i1:GP .i64 ((k:Int)+1):=sm1 hs hk
   have hkl:(k:Int)<(t.Systems.length:Int):=by omega
   have hkl2:k≤t.Systems.length:=by omega
   have hst:Sm (t.Systems.take k):=by show _≤_; rw [List.length_take]; omega
   simp only [Jb,K9,d1,d2,d3,d4,d5,d6,d7,eN,eM,hx,Option.bind_some,JF,VX _ hst,i1,if_true,hkl,hkl2,GoX]
   clear i1 hs hp hst hkl hkl2
   grind [KC]
  ·simp only [Jb,K9,d3,d6,d1]
   rw [if_neg (by omega)]
 have k2:lp (H7 t) 0=some (HL (GK (fun _ x=>if GeH t.Systems x then none else some ()) 0 t.Net.Points)):=by
  refine GQ (fun k x hx=>?_) ?_
  ·have hk:=Hg hx
   have i1:GP .i64 ((k:Int)+1):=sm1 hp hk
   have hkl:(k:Int)<(t.Net.Points.length:Int):=by omega
   simp only [H7,KF,d1,d2,d3,d4,d5,d6,d7,eN,eM,hx,Option.bind_some,GkI _ hs,i1,if_true,hkl]
   clear i1 hs hp
   grind [KC]
  ·simp only [H7,KF,d3,d6,d1]
   rw [if_neg (by omega)]
 have k3:∀ (m:List Gq) (k:Nat),GK (fun _ x=>if GeH t.Systems x then none else some (16:Int)) k m=(GK (fun _ x=>if GeH t.Systems x then none else some ()) k m).map fun _=>16:=by
  intro m
  induction m with
  | nil=>intro k; rfl
  | cons x m ih=>intro k; unfold GK; cases GeH t.Systems x <;> simp [ih]
 rw [k1]
 cases GK (GoX t.Systems) 0 t.Systems with
 | some r=>rfl
 | none=>
  simp only [HL,Option.bind_some,eM,k2,Option.none_or,k3]
  cases GK (fun _ x=>if GeH t.Systems x then none else some ()) 0 t.Net.Points <;> rfl
theorem GeZ (t:Ga):Ge2 t=some (GiL t):=by
 simp only [Ge2,GiS,d1,d2,d3,d4,d5,d6,d7,eN,eM,Gfx,Option.bind_some]
 unfold GiL
 by_cases h0:GeG t.Net=0
 rotate_left
 ·rw [if_neg h0,if_pos h0]
 rw [if_pos h0,if_neg (show ¬ (GeG t.Net≠0) from fun h=>h h0)]
 by_cases h1:t.Systems.length>64
 ·rw [if_pos (by omega),if_pos h1]
 rw [if_neg (by omega),if_neg h1]
 have hs:Sm t.Systems:=by show _≤_; omega
 obtain ⟨hp0,_,hkd⟩:=GgL h0
 have hp:Sm t.Net.Points:=by show _≤_; omega
 have k1:lp (Mp t) 0=some (HL (GK (GoX t.Systems) 0 t.Systems)):=by
  refine GQ (fun k x hx=>?_) ?_
  ·have hk:=Hg hx
   have i1:GP .i64 ((k:Int)+1):=sm1 hs hk
   have hkl:(k:Int)<(t.Systems.length:Int):=by omega
   have hkl2:k≤t.Systems.length:=by omega
   have hst:Sm (t.Systems.take k):=by show _≤_; rw [List.length_take]; omega
   obtain ⟨r,h1,h2,_⟩:=Gci (t.Systems.take k) hst x.Name
   simp only [Mp,Xy,d1,d2,d3,d4,d5,d6,d7,eN,eM,hx,Option.bind_some,K3,h1,i1,if_true,hkl,hkl2,GoX]
   clear i1 hs hp hst hkl hkl2 h1 hkd
   grind [KC]
  ·simp only [Mp,Xy,d3,d6,d1]
   rw [if_neg (by omega)]
 have k2:lp (KS t) 0=some (HL (GK (fun _ x=>if GeH t.Systems x then none else some 16) 0 t.Net.Points)):=by
  refine GQ (fun k x hx=>?_) ?_
  ·have hk:=Hg hx
   have i1:GP .i64 ((k:Int)+1):=sm1 hp hk
   have hkl:(k:Int)<(t.Net.Points.length:Int):=by omega
   simp only [KS,UJ,d1,d2,d3,d4,d5,d6,d7,eN,eM,hx,Option.bind_some,Gnh t hs x (hkd k x hx),i1,if_true,hkl]
   clear i1 hs hp
   grind [KC]
  ·simp only [KS,UJ,d3,d6,d1]
   rw [if_neg (by omega)]
 rw [k1]
 cases GK (GoX t.Systems) 0 t.Systems with
 | some r=>rfl
 | none=>
  simp only [HL,Option.bind_some,eM,k2,Option.none_or]
  cases GK (fun _ x=>if GeH t.Systems x then none else some (16:Int)) 0 t.Net.Points <;> rfl
end
end Go.Proofs.YtnlaiahcemckkaaGreatDoor.Av
