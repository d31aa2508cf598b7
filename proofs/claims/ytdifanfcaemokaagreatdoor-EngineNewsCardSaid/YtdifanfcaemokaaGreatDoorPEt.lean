import Derived.Test.YtdifanfcaemokaaGreatDoorPEg
open Prod (fst)
open Int (tdiv tmod)
set_option maxHeartbeats 4000000
set_option maxRecDepth 100000
set_option linter.unusedVariables false
set_option linter.unusedSimpArgs false
namespace Go.Proofs.YtdifanfcaemokaaGreatDoor.Av
noncomputable section
open Go Go.Proofs
def Ql (l_0:(List Gm)) (name_1:(List UInt8)):Nat→HT (Nat⊕(Int⊕Unit)) True
 | k8=>.run [oa] (fun _=>Hg) <|
  .sp ((↑k8:Int)<(↑l_0.length:Int))
  (.run (bt::(cs 2 [])) (fun γ=>Gb (dT γ.2)) <|
  .bd (l_0[k8]?) fun x8=>.run (cs 3 ((oN (.i k8))::(oN (.v [.str x8.Name,.bool x8.Closed,jI x8.Most]))::(cs 6 [oa,oc]))) (fun γ=>k2 (ir γ.2) (k2 (GD (f:=Gm.enc) (z:=2) (fun _=>rfl) γ.2) (Gb (GX (f:=Gm.enc) (z:=3) (j:=k8) (fun _=>rfl) γ.2 rfl)))) <|
  .sp (x8.Name=name_1)
  (.run (bt::(cs 2 [])) (fun γ=>Gb (Gu γ.2)) <|
  .leaf (.inr (.inl (↑k8:Int))) [0])
  (.run [bf] (fun γ=>Gb (Gz γ.2)) <|
  .gd (GS .i64 ((↑k8:Int)+1)) <| .run [ow,oc] (fun γ=>Gb γ.2) <|
  .leaf (.inl (k8+1)) [0]))
  (.run [bf] (fun γ=>Gb (dF γ.2)) <|
  .leaf (.inr (.inr (()))) [0])
def JM (l_0:(List Gm)) (name_1:(List UInt8)):Nat→Option (Nat⊕(Int⊕Unit)):=fun s=>(Ql l_0 name_1 s).den
def GbV (l_0:(List Gm)) (name_1:(List UInt8)):Nat→PS:=fun s=>(19,[(0,.lst (fl Gm.enc l_0) l_0.length),(1,.fn (.func 277) [] [.ptr 0 0]),(7,jI (↑l_0.length:Int)),(8,jI (↑s:Int))],[(bT [.str name_1] 9)])
def GbX:(Int⊕Unit)→Hm:=fun q=>match q with | Sum.inl o=>.ret | Sum.inr (o)=>(.exit 0)
def GbW (l_0:(List Gm)) (name_1:(List UInt8)):(Int⊕Unit)→List (Nat×AV):=fun q=>match q with | Sum.inl o=>[(4,jI o)] | Sum.inr (o)=>[]
def GbU (l_0:(List Gm)) (name_1:(List UInt8)):(Int⊕Unit)→List Hb:=fun _=>[(bT [.str name_1] 9)]
theorem XU (l_0:(List Gm)) (name_1:(List UInt8)) {s:Nat} {r:Int⊕Unit} (h:lp (JM l_0 name_1) s=some r):DT 1 (.loop (GK Tryz.prog 276 [1,0,1,0,0])) (GbV l_0 name_1 s).st (GbX r) (PS.st (19,GbW l_0 name_1 r,GbU l_0 name_1 r)):=
 GN.lp_ht 1 400 (GbV l_0 name_1) GbX (fun q=>(19,GbW l_0 name_1 q,GbU l_0 name_1 q)) (Ql l_0 name_1) (by intro k8; kernel_rfl) h
def ZI (l_0:(List Gm)) (name_1:(List UInt8)):HT (Gm×Bool) True:=.run (cs 3 []) (fun _=>Hg) <|
  .bd (lp (JM l_0 name_1) (0:Nat)) fun qq=>.cs qq (fun o1=>.run (cs 7 ((.fcut 1 .ret [(4,jI o1)] [(bT [.str name_1] 9)] [0] [(0,.any),(1,.any),(7,.any),(8,jI (↑(0:Nat):Int))] [bS])::(cs 2 [oa]))) (fun γ=>k2 (rfl:(jI 0:AV)=jI (↑(0:Nat):Int)) (Gb (XU l_0 name_1 (s:=(0:Nat)) (r:=Sum.inl o1) (eS γ.1.2 γ.2)))) <|
  .sp (o1<(0:Int))
  (.run (bt::(cs 3 [])) (fun γ=>Gb (dT γ.2)) <|
  .leaf ((⟨([]:List UInt8),false,0⟩:Gm),false) [])
  (.run [bf] (fun γ=>Gb (dF γ.2)) <|
  .gd ((0:Int)≤o1) <| .bd (l_0[o1.toNat]?) fun x14=>.run (cs 2 ((oN (.i o1.toNat))::(oN (.v [.str x14.Name,.bool x14.Closed,jI x14.Most]))::(cs 2 []))) (fun γ=>k2 (ix γ.1.2 γ.2) (k2 (GD (f:=Gm.enc) (z:=2) (fun _=>rfl) γ.2) (Gb (GX (f:=Gm.enc) (z:=3) (j:=o1.toNat) (fun _=>rfl) γ.2 rfl)))) <|
  .leaf (x14,true) []))
  (fun o1=>.run (cs 7 ((.fcut 1 (.exit 0) [] [(bT [.str name_1] 9)] [0] [(0,.any),(1,.any),(7,.any),(8,jI (↑(0:Nat):Int))] [bS])::(cs 4 (bt::(cs 3 []))))) (fun γ=>k2 (rfl:(jI 0:AV)=jI (↑(0:Nat):Int)) (k2 (XU l_0 name_1 (s:=(0:Nat)) (r:=Sum.inr (o1)) (eS γ.1.2 γ.2)) (Gb tT))) <|
  .leaf ((⟨([]:List UInt8),false,0⟩:Gm),false) [])
def QA (l_0:(List Gm)) (name_1:(List UInt8)):Option (Gm×Bool):=(ZI l_0 name_1).den
theorem Xt (l_0:(List Gm)) (name_1:(List UInt8)) (r:(Gm×Bool)) (h:QA l_0 name_1=some r):RT 204 [.lst (fl Gm.enc l_0) l_0.length,.str name_1] (.tup [.agg (Gm.enc r.1),.bool r.2]) []:=
 HA.of_ht 400 (ZI l_0 name_1) (fun (r:(Gm×Bool))=>.tup [.agg (Gm.enc r.1),.bool r.2]) (fun (r:(Gm×Bool))=>[]) (by kernel_rfl) h
def ZJ (l_0:(List Gm)) (p_1:Gr):HT Bool True:=.run (cs 2 []) (fun _=>Hg) <|
  .bd (QA l_0 p_1.System) fun r1=>.run (cs 3 ((rN [.any,.any] (.tup [.agg (Gm.enc r1.1),.bool r1.2]) [])::(cs 9 [oa,oc]))) (fun γ=>Gb (Xt l_0 p_1.System r1 γ.2)) <|
  .sp (p_1.Kind=(2:Int))
  (.run [bt,oc] (fun γ=>Gb (Gu γ.2)) <|
  .sp (r1.2=true)
  (.run (cs 2 (tc::(cs 5 []))) (fun γ=>Gb γ.2) <|
  .leaf (r1.1.Closed==true) [])
  (.run (cs 2 (oF::(cs 5 []))) (fun γ=>Gb ((Ja γ.2):r1.2=false)) <|
  .leaf false []))
  (.run [bf,oa,oc] (fun γ=>Gb (Gz γ.2)) <|
  .sp (p_1.Kind=(3:Int))
  (.run [bt,oc] (fun γ=>Gb (Gu γ.2)) <|
  .sp (r1.2=true)
  (.run (cs 2 (tc::(cs 5 []))) (fun γ=>Gb γ.2) <|
  .leaf (r1.1.Closed==true) [])
  (.run (cs 2 (oF::(cs 5 []))) (fun γ=>Gb ((Ja γ.2):r1.2=false)) <|
  .leaf false []))
  (.run [bf,oa,oc] (fun γ=>Gb (Gz γ.2)) <|
  .sp (p_1.Kind=(1:Int))
  (.run [bt] (fun γ=>Gb (Gu γ.2)) <|
  .sp (r1.2=true)
  (.run (cs 2 (tc::(cs 5 []))) (fun γ=>Gb γ.2) <|
  .leaf (r1.1.Closed==false) [])
  (.run (cs 2 (oF::(cs 5 []))) (fun γ=>Gb ((Ja γ.2):r1.2=false)) <|
  .leaf false []))
  (.run [bf] (fun γ=>Gb (Gz γ.2)) <|
  .sp (r1.2=true)
  (.run (cs 2 (tc::(cs 4 []))) (fun γ=>Gb γ.2) <|
  .leaf true [])
  (.run (cs 2 (oF::oc::oa::(cs 2 []))) (fun γ=>Gb ((Ja γ.2):r1.2=false)) <|
  .leaf (p_1.System==[]) []))))
def YK (l_0:(List Gm)) (p_1:Gr):Option Bool:=(ZJ l_0 p_1).den
theorem Gl3 (l_0:(List Gm)) (p_1:Gr) (r:Bool) (h:YK l_0 p_1=some r):RT 205 [.lst (fl Gm.enc l_0) l_0.length,.agg (Gr.enc p_1)] (.bool r) []:=
 HA.of_ht 400 (ZJ l_0 p_1) (fun (r:Bool)=>.bool r) (fun (r:Bool)=>[]) (by kernel_rfl) h
def MD (t_0:Ga):Nat→HT (Nat⊕(Int⊕Unit)) True
 | k23=>.run [oa] (fun _=>Hg) <|
  .sp ((↑k23:Int)<(↑t_0.Systems.length:Int))
  (.run [bt] (fun γ=>Gb (dT γ.2)) <|
  .bd (t_0.Systems[k23]?) fun x23=>.run (oc::(oN (.i k23))::(oN (.v [.str x23.Name,.bool x23.Closed,jI x23.Most]))::(cs 3 [])) (fun γ=>k2 (ir γ.2) (k2 (GD (f:=Gm.enc) (z:=2) (fun _=>rfl) γ.2) (Gb (GX (f:=Gm.enc) (z:=3) (j:=k23) (fun _=>rfl) γ.2 rfl)))) <|
  .bd (HS x23.Name) fun r25=>.run (cs 2 [rN [.any] (.bool r25) [],oc]) (fun γ=>Gb (Hh x23.Name r25 γ.2)) <|
  .sp (r25=true)
  (.run [bf] (fun γ=>Gb ((Gx γ.2):(!r25)=false)) <|
  .gd (k23≤t_0.Systems.length) <| .bd (QA (List.take k23 t_0.Systems) x23.Name) fun r29=>.run (cs 3 ((oN (.s 0 k23))::(.trp (.eqt (.t 36) (.lst (fl Gm.enc (List.take k23 t_0.Systems)) ((List.take k23 t_0.Systems).length))))::(cs 2 ((rN [.any,.any] (.tup [.agg (Gm.enc r29.1),.bool r29.2]) [])::(cs 7 []))))) (fun γ=>k2 (rfl:(↑k23:Int)=((k23:Nat):Int)) (k2 (⟨Nat.zero_le _,γ.1.2⟩:0≤k23∧k23≤t_0.Systems.length) (k2 ((Ya (RS (f:=Gm.enc) (z:=3) (fun _=>rfl) _ _) (by rw [List.length_take]; omega)):(.lst (List.take (k23*3) (fl Gm.enc t_0.Systems)) k23:AV)=.lst (fl Gm.enc (List.take k23 t_0.Systems)) ((List.take k23 t_0.Systems).length)) (Gb (Xt (List.take k23 t_0.Systems) x23.Name r29 γ.2))))) <|
  .sp (r29.2=true)
  (.run [bt,oc] (fun γ=>Gb γ.2) <|
  .leaf (.inr (.inl 9)) [0])
  (.run [bf] (fun γ=>Gb ((Ja γ.2):r29.2=false)) <|
  .sp (x23.Most<(0:Int))
  (.run (cs 2 (oa::oc::tc::(cs 12 [bt,oc]))) (fun γ=>k2 (dT γ.2) (Gb tT)) <|
  .leaf (.inr (.inl 12)) [0])
  (.sp (x23.Most>(2147483648:Int))
  (.run (cs 2 (oa::oc::oF::oc::oa::(cs 2 (tc::(cs 7 [bt,oc]))))) (fun γ=>k2 (dF γ.1.2) (k2 (dT γ.2) (Gb tT))) <|
  .leaf (.inr (.inl 12)) [0])
  (.sp (x23.Closed=true)
  (.run (cs 2 (oa::oc::oF::oc::oa::(cs 2 (oF::(cs 2 (tc::oc::oa::(cs 2 []))))))) (fun γ=>k2 (dF γ.1.1.2) (k2 (dF γ.1.2) (Gb γ.2))) <|
  .sp (x23.Most=(0:Int))
  (.run [bt,oc] (fun γ=>Gb (Gu γ.2)) <|
  .leaf (.inr (.inl 12)) [0])
  (.run [bf] (fun γ=>Gb (Gz γ.2)) <|
  .gd (GS .i64 ((↑k23:Int)+1)) <| .run [ow,oc] (fun γ=>Gb γ.2) <|
  .leaf (.inl (k23+1)) [0]))
  (.run (cs 2 (oa::oc::oF::oc::oa::(cs 2 (oF::(cs 2 (oF::(cs 4 [bf]))))))) (fun γ=>k2 (dF γ.1.1.2) (k2 (dF γ.1.2) (k2 ((Ja γ.2):x23.Closed=false) (Gb fF)))) <|
  .gd (GS .i64 ((↑k23:Int)+1)) <| .run [ow,oc] (fun γ=>Gb γ.2) <|
  .leaf (.inl (k23+1)) [0])))))
  (.run [bt,oc] (fun γ=>Gb ((Gy (Ja γ.2)):(!r25)=true)) <|
  .leaf (.inr (.inl 6)) [0]))
  (.run [bf] (fun γ=>Gb (dF γ.2)) <|
  .leaf (.inr (.inr (()))) [0])
def Jx (t_0:Ga):Nat→Option (Nat⊕(Int⊕Unit)):=fun s=>(MD t_0 s).den
def Gab (t_0:Ga):Nat→PS:=fun s=>(75,[(1,.ptr 0 0),(21,.lst (fl Gm.enc t_0.Systems) t_0.Systems.length),(22,jI (↑t_0.Systems.length:Int)),(23,jI (↑s:Int))],[(bT (Ga.enc t_0) 28)])
def Gad:(Int⊕Unit)→Hm:=fun q=>match q with | Sum.inl o=>.ret | Sum.inr (o)=>(.exit 0)
def Gac (t_0:Ga):(Int⊕Unit)→List (Nat×AV):=fun q=>match q with | Sum.inl o=>[(2,jI o)] | Sum.inr (o)=>[(1,.ptr 0 0)]
def Gaa (t_0:Ga):(Int⊕Unit)→List Hb:=fun _=>[(bT (Ga.enc t_0) 28)]
theorem Xr (t_0:Ga) {s:Nat} {r:Int⊕Unit} (h:lp (Jx t_0) s=some r):DT 1 (.loop (GK Tryz.prog 128 [1,1,1,0,1,0,0])) (Gab t_0 s).st (Gad r) (PS.st (75,Gac t_0 r,Gaa t_0 r)):=
 GN.lp_ht 1 400 (Gab t_0) Gad (fun q=>(75,Gac t_0 q,Gaa t_0 q)) (MD t_0) (by intro k23; kernel_rfl) h
def Mn (t_0:Ga):Nat→HT (Nat⊕(Unit⊕Unit)) True
 | k65=>.run [oa] (fun _=>Hg) <|
  .sp ((↑k65:Int)<(↑t_0.Net.Points.length:Int))
  (.run [bt] (fun γ=>Gb (dT γ.2)) <|
  .bd (t_0.Net.Points[k65]?) fun x47=>.run ((oN (.i k65))::(oN (.v [.str x47.Name,jI x47.Kind,.str x47.System]))::(cs 2 [])) (fun γ=>k2 (ir γ.2) (k2 (GD (f:=Gr.enc) (z:=2) (fun _=>rfl) γ.2) (Gb (GX (f:=Gr.enc) (z:=3) (j:=k65) (fun _=>rfl) γ.2 rfl)))) <|
  .bd (YK t_0.Systems x47) fun r49=>.run (cs 3 [rN [.any,.any] (.bool r49) [],oc]) (fun γ=>Gb (Gl3 t_0.Systems x47 r49 γ.2)) <|
  .sp (r49=true)
  (.run [bf] (fun γ=>Gb ((Gx γ.2):(!r49)=false)) <|
  .gd (GS .i64 ((↑k65:Int)+1)) <| .run [ow,oc] (fun γ=>Gb γ.2) <|
  .leaf (.inl (k65+1)) [0])
  (.run [bt,oc] (fun γ=>Gb ((Gy (Ja γ.2)):(!r49)=true)) <|
  .leaf (.inr (.inl ())) [0]))
  (.run [bf] (fun γ=>Gb (dF γ.2)) <|
  .leaf (.inr (.inr (()))) [0])
def Jo (t_0:Ga):Nat→Option (Nat⊕(Unit⊕Unit)):=fun s=>(Mn t_0 s).den
def Zp (t_0:Ga):Nat→PS:=fun s=>(75,[(1,.ptr 0 0),(63,.lst (fl Gr.enc t_0.Net.Points) t_0.Net.Points.length),(64,jI (↑t_0.Net.Points.length:Int)),(65,jI (↑s:Int))],[(bT (Ga.enc t_0) 28)])
def Zr:(Unit⊕Unit)→Hm:=fun q=>match q with | Sum.inl o=>.ret | Sum.inr (o)=>(.exit 2)
def Zq (t_0:Ga):(Unit⊕Unit)→List (Nat×AV):=fun q=>match q with | Sum.inl o=>[(2,jI 16)] | Sum.inr (o)=>[]
def Zo (t_0:Ga):(Unit⊕Unit)→List Hb:=fun _=>[(bT (Ga.enc t_0) 28)]
theorem Vs (t_0:Ga) {s:Nat} {r:Unit⊕Unit} (h:lp (Jo t_0) s=some r):DT 1 (.loop (GK Tryz.prog 128 [1,1,1,1,0,1,0,0])) (Zp t_0 s).st (Zr r) (PS.st (75,Zq t_0 r,Zo t_0 r)):=
 GN.lp_ht 1 400 (Zp t_0) Zr (fun q=>(75,Zq t_0 q,Zo t_0 q)) (Mn t_0) (by intro k65; kernel_rfl) h
def Yg (t_0:Ga):HT Int True:=.run (cs 2 []) (fun _=>Hg) <|
  .bd (Y1 t_0.Net) fun r1=>.run (cs 2 ((rN [.any] (jI r1) [])::(cs 2 [oa]))) (fun γ=>Gb (GfN t_0.Net r1 γ.2)) <|
  .sp (r1=(0:Int))
  (.run (bf::(cs 3 [oa])) (fun γ=>Gb (Gx (Gu γ.2))) <|
  .sp ((↑t_0.Systems.length:Int)>(64:Int))
  (.run [bt,oc] (fun γ=>Gb (dT γ.2)) <|
  .leaf 3 [])
  (.run (bf::(cs 4 [])) (fun γ=>Gb (dF γ.2)) <|
  .bd (lp (Jx t_0) (0:Nat)) fun qq=>.cs qq (fun o5=>.run [.fcut 1 .ret [(2,jI o5)] [(bT (Ga.enc t_0) 28)] [0] [(1,.any),(21,.any),(22,.any),(23,jI (↑(0:Nat):Int))] [bS]] (fun γ=>k2 (rfl:(jI 0:AV)=jI (↑(0:Nat):Int)) (Gb (Xr t_0 (s:=(0:Nat)) (r:=Sum.inl o5) (eS γ.1.2 γ.2)))) <|
  .leaf o5 [])
  (fun o5=>.run ((.fcut 1 (.exit 0) [(1,.ptr 0 0)] [(bT (Ga.enc t_0) 28)] [0] [(1,.any),(21,.any),(22,.any),(23,jI (↑(0:Nat):Int))] [bS])::(cs 5 [])) (fun γ=>k2 (rfl:(jI 0:AV)=jI (↑(0:Nat):Int)) (Gb (Xr t_0 (s:=(0:Nat)) (r:=Sum.inr (o5)) (eS γ.1.2 γ.2)))) <|
  .bd (lp (Jo t_0) (0:Nat)) fun qq=>.cs qq (fun o38=>.run [.fcut 1 .ret [(2,jI 16)] [(bT (Ga.enc t_0) 28)] [0] [(1,.any),(63,.any),(64,.any),(65,jI (↑(0:Nat):Int))] [bS]] (fun γ=>k2 (rfl:(jI 0:AV)=jI (↑(0:Nat):Int)) (Gb (Vs t_0 (s:=(0:Nat)) (r:=Sum.inl o38) (eS γ.1.2 γ.2)))) <|
  .leaf 16 [])
  (fun o38=>.run [.fcut 1 (.exit 2) [] [(bT (Ga.enc t_0) 28)] [0] [(1,.any),(63,.any),(64,.any),(65,jI (↑(0:Nat):Int))] [bS],oc] (fun γ=>k2 (rfl:(jI 0:AV)=jI (↑(0:Nat):Int)) (Gb (Vs t_0 (s:=(0:Nat)) (r:=Sum.inr (o38)) (eS γ.1.2 γ.2)))) <|
  .leaf 0 []))))
  (.run (bt::(cs 2 [])) (fun γ=>Gb (Gy (Gz γ.2))) <|
  .leaf r1 [])
def Ry (t_0:Ga):Option Int:=(Yg t_0).den
theorem JS (t_0:Ga) (r:Int) (h:Ry t_0=some r):RT 128 [.agg (Ga.enc t_0)] (jI r) []:=
 HA.of_ht 400 (Yg t_0) (fun (r:Int)=>jI r) (fun (r:Int)=>[]) (by kernel_rfl) h
def Gam (l_0:(List Gm)) (name_1:(List UInt8)):Nat→HT (Nat⊕(Int⊕Unit)) True
 | k5=>.run (cs 3 [oa]) (fun _=>Hg) <|
  .sp ((↑k5:Int)<(↑l_0.length:Int))
  (.run [bt] (fun γ=>Gb (dT γ.2)) <|
  .bd (l_0[k5]?) fun x8=>.run (cs 2 [oN (.i k5),oc,oN (.v [.str x8.Name]),oc,oa]) (fun γ=>k2 (ir γ.2) (k2 (GD (f:=Gm.enc) (z:=2) (fun _=>rfl) γ.2) (Gb (GL (f:=Gm.enc) (z:=3) (j:=k5) (a:=0) (n:=1) (fun _=>rfl) γ.2 (by decide) rfl)))) <|
  .sp (x8.Name=name_1)
  (.run (bt::(cs 2 [])) (fun γ=>Gb (Gu γ.2)) <|
  .leaf (.inr (.inl (↑k5:Int))) [])
  (.run [bf] (fun γ=>Gb (Gz γ.2)) <|
  .gd (GS .i64 ((↑k5:Int)+1)) <| .run [oc,ow,oc] (fun γ=>Gb γ.2) <|
  .leaf (.inl (k5+1)) []))
  (.run [bf] (fun γ=>Gb (dF γ.2)) <|
  .leaf (.inr (.inr (()))) [])
def Qq (l_0:(List Gm)) (name_1:(List UInt8)):Nat→Option (Nat⊕(Int⊕Unit)):=fun s=>(Gam l_0 name_1 s).den
def Gle (l_0:(List Gm)) (name_1:(List UInt8)):Nat→PS:=fun s=>(20,[(0,.lst (fl Gm.enc l_0) l_0.length),(1,.str name_1),(5,jI (↑s:Int))],[])
def Glg:(Int⊕Unit)→Hm:=fun q=>match q with | Sum.inl o=>.ret | Sum.inr (o)=>(.exit 0)
def Glf (l_0:(List Gm)) (name_1:(List UInt8)):(Int⊕Unit)→List (Nat×AV):=fun q=>match q with | Sum.inl o=>[(4,jI o)] | Sum.inr (o)=>[]
def Gld (l_0:(List Gm)) (name_1:(List UInt8)):(Int⊕Unit)→List Hb:=fun _=>[]
theorem GfJ (l_0:(List Gm)) (name_1:(List UInt8)) {s:Nat} {r:Int⊕Unit} (h:lp (Qq l_0 name_1) s=some r):DT 0 (.loop (GK Tryz.prog 95 [1,0,1,0,0])) (Gle l_0 name_1 s).st (Glg r) (PS.st (20,Glf l_0 name_1 r,Gld l_0 name_1 r)):=
 GN.lp_ht 0 400 (Gle l_0 name_1) Glg (fun q=>(20,Glf l_0 name_1 q,Gld l_0 name_1 q)) (Gam l_0 name_1) (by intro k5; kernel_rfl) h
def Gmu (l_0:(List Gm)) (name_1:(List UInt8)):HT Int True:=.run (cs 2 []) (fun _=>Hg) <|
  .bd (lp (Qq l_0 name_1) (0:Nat)) fun qq=>.cs qq (fun o1=>.run [.fcut 0 .ret [(4,jI o1)] [] [] [(0,.any),(1,.any),(5,jI (↑(0:Nat):Int))] []] (fun γ=>k2 (rfl:(jI 0:AV)=jI (↑(0:Nat):Int)) (Gb (GfJ l_0 name_1 (s:=(0:Nat)) (r:=Sum.inl o1) (eS γ.1.2 γ.2)))) <|
  .leaf o1 [])
  (fun o1=>.run [.fcut 0 (.exit 0) [] [] [] [(0,.any),(1,.any),(5,jI (↑(0:Nat):Int))] [],oc] (fun γ=>k2 (rfl:(jI 0:AV)=jI (↑(0:Nat):Int)) (Gb (GfJ l_0 name_1 (s:=(0:Nat)) (r:=Sum.inr (o1)) (eS γ.1.2 γ.2)))) <|
  .leaf (-1) [])
def Gim (l_0:(List Gm)) (name_1:(List UInt8)):Option Int:=(Gmu l_0 name_1).den
theorem Gg2 (l_0:(List Gm)) (name_1:(List UInt8)) (r:Int) (h:Gim l_0 name_1=some r):RT 95 [.lst (fl Gm.enc l_0) l_0.length,.str name_1] (jI r) []:=
 HA.of_ht 400 (Gmu l_0 name_1) (fun (r:Int)=>jI r) (fun (r:Int)=>[]) (by kernel_rfl) h
def Gkc (t_0:Ga) (p_1:Gr):HT Int True:=.run (cs 3 []) (fun _=>Hg) <|
  .bd (Gim t_0.Systems p_1.System) fun r1=>.run (cs 4 ((rN [.any,.any] (jI r1) [])::(cs 2 (oa::(cs 3 [oa]))))) (fun γ=>Gb (Gg2 t_0.Systems p_1.System r1 γ.2)) <|
  .sp (p_1.Kind=(1:Int))
  (.run [bt] (fun γ=>Gb (Gu γ.2)) <|
  .sp (r1≥(0:Int))
  (.gd ((0:Int)≤r1) <| .bd (t_0.Systems[r1.toNat]?) fun x6=>.run (cs 2 (tc::(cs 2 ((oN (.i r1.toNat))::oc::(oN (.v [.bool x6.Closed]))::(cs 5 []))))) (fun γ=>k2 (dT γ.1.1.2) (k2 (ix γ.1.2 γ.2) (k2 (GD (f:=Gm.enc) (z:=2) (fun _=>rfl) γ.2) (Gb (GL (f:=Gm.enc) (z:=3) (j:=r1.toNat) (a:=1) (n:=1) (fun _=>rfl) γ.2 (by decide) rfl))))) <|
  .sp (x6.Closed=true)
  (.run [bt,oc] (fun γ=>Gb ((Gy (Gx γ.2)):(!(!x6.Closed))=true)) <|
  .leaf 16 [])
  (.run [bf,oc] (fun γ=>Gb ((Gx (Gy (Ja γ.2))):(!(!x6.Closed))=false)) <|
  .leaf 0 []))
  (.run (cs 2 (oF::(cs 10 [bt,oc]))) (fun γ=>k2 (dF γ.2) (Gb tT)) <|
  .leaf 16 []))
  (.run (bf::(cs 2 [oa])) (fun γ=>Gb (Gz γ.2)) <|
  .sp (p_1.Kind=(4:Int))
  (.run [bf] (fun γ=>Gb (Gx (Gu γ.2))) <|
  .sp (r1≥(0:Int))
  (.run (cs 2 (tc::(cs 6 [bf,oc]))) (fun γ=>k2 (dT γ.2) (Gb fF)) <|
  .leaf 0 [])
  (.run (cs 2 (oF::oc::oa::(cs 4 []))) (fun γ=>Gb (dF γ.2)) <|
  .sp (p_1.System=[])
  (.run [bf,oc] (fun γ=>Gb (Gx (Gu γ.2))) <|
  .leaf 0 [])
  (.run [bt,oc] (fun γ=>Gb (Gy (Gz γ.2))) <|
  .leaf 16 [])))
  (.run [bt] (fun γ=>Gb (Gy (Gz γ.2))) <|
  .sp (r1≥(0:Int))
  (.gd ((0:Int)≤r1) <| .bd (t_0.Systems[r1.toNat]?) fun x14=>.run (cs 2 (tc::(cs 2 ((oN (.i r1.toNat))::oc::(oN (.v [.bool x14.Closed]))::(cs 4 []))))) (fun γ=>k2 (dT γ.1.1.2) (k2 (ix γ.1.2 γ.2) (k2 (GD (f:=Gm.enc) (z:=2) (fun _=>rfl) γ.2) (Gb (GL (f:=Gm.enc) (z:=3) (j:=r1.toNat) (a:=1) (n:=1) (fun _=>rfl) γ.2 (by decide) rfl))))) <|
  .sp (x14.Closed=true)
  (.run [bf,oc] (fun γ=>Gb ((Gx γ.2):(!x14.Closed)=false)) <|
  .leaf 0 [])
  (.run [bt,oc] (fun γ=>Gb ((Gy (Ja γ.2)):(!x14.Closed)=true)) <|
  .leaf 16 []))
  (.run (cs 2 (oF::(cs 9 [bt,oc]))) (fun γ=>k2 (dF γ.2) (Gb tT)) <|
  .leaf 16 [])))
def Glh (t_0:Ga) (p_1:Gr):Option Int:=(Gkc t_0 p_1).den
theorem Grx (t_0:Ga) (p_1:Gr) (r:Int) (h:Glh t_0 p_1=some r):RT 96 [.agg (Ga.enc t_0),.agg (Gr.enc p_1)] (jI r) []:=
 HA.of_ht 400 (Gkc t_0 p_1) (fun (r:Int)=>jI r) (fun (r:Int)=>[]) (by kernel_rfl) h
def Yq (t_0:Ga):Nat→HT (Nat⊕(Int⊕Unit)) True
 | k4=>.run (cs 4 [oa]) (fun _=>Hg) <|
  .sp ((↑k4:Int)<(↑t_0.Systems.length:Int))
  (.run [bt] (fun γ=>Gb (dT γ.2)) <|
  .bd (t_0.Systems[k4]?) fun x23=>.run (cs 3 ((oN (.i k4))::(oN (.v [.str x23.Name,.bool x23.Closed,jI x23.Most]))::(cs 2 []))) (fun γ=>k2 (ir γ.2) (k2 (GD (f:=Gm.enc) (z:=2) (fun _=>rfl) γ.2) (Gb (GX (f:=Gm.enc) (z:=3) (j:=k4) (fun _=>rfl) γ.2 rfl)))) <|
  .bd (M8 x23.Name) fun r25=>.run (cs 2 [rN [.any] (.bool r25) [],oc]) (fun γ=>Gb (Jc x23.Name r25 γ.2)) <|
  .sp (r25=true)
  (.run [bf] (fun γ=>Gb ((Gx γ.2):(!r25)=false)) <|
  .gd (k4≤t_0.Systems.length) <| .bd (Gim (List.take k4 t_0.Systems) x23.Name) fun r29=>.run (cs 3 ((oN (.s 0 k4))::(.trp (.eqt (.t 37) (.lst (fl Gm.enc (List.take k4 t_0.Systems)) ((List.take k4 t_0.Systems).length))))::(cs 2 [rN [.any,.any] (jI r29) [],oa]))) (fun γ=>k2 (rfl:(↑k4:Int)=((k4:Nat):Int)) (k2 (⟨Nat.zero_le _,γ.1.2⟩:0≤k4∧k4≤t_0.Systems.length) (k2 ((Ya (RS (f:=Gm.enc) (z:=3) (fun _=>rfl) _ _) (by rw [List.length_take]; omega)):(.lst (List.take (k4*3) (fl Gm.enc t_0.Systems)) k4:AV)=.lst (fl Gm.enc (List.take k4 t_0.Systems)) ((List.take k4 t_0.Systems).length)) (Gb (Gg2 (List.take k4 t_0.Systems) x23.Name r29 γ.2))))) <|
  .sp (r29≥(0:Int))
  (.run [bt,oc] (fun γ=>Gb (dT γ.2)) <|
  .leaf (.inr (.inl 9)) [0])
  (.run [bf] (fun γ=>Gb (dF γ.2)) <|
  .sp (x23.Most<(0:Int))
  (.run (cs 2 (oa::oc::tc::(cs 12 [bt,oc]))) (fun γ=>k2 (dT γ.2) (Gb tT)) <|
  .leaf (.inr (.inl 12)) [0])
  (.sp (x23.Most>(2147483648:Int))
  (.run (cs 2 (oa::oc::oF::oc::oa::(cs 2 (tc::(cs 7 [bt,oc]))))) (fun γ=>k2 (dF γ.1.2) (k2 (dT γ.2) (Gb tT))) <|
  .leaf (.inr (.inl 12)) [0])
  (.sp (x23.Closed=true)
  (.run (cs 2 (oa::oc::oF::oc::oa::(cs 2 (oF::(cs 2 (tc::oc::oa::(cs 2 []))))))) (fun γ=>k2 (dF γ.1.1.2) (k2 (dF γ.1.2) (Gb γ.2))) <|
  .sp (x23.Most=(0:Int))
  (.run [bt,oc] (fun γ=>Gb (Gu γ.2)) <|
  .leaf (.inr (.inl 12)) [0])
  (.run [bf] (fun γ=>Gb (Gz γ.2)) <|
  .gd (GS .i64 ((↑k4:Int)+1)) <| .run [oc,ow,oc] (fun γ=>Gb γ.2) <|
  .leaf (.inl (k4+1)) [0]))
  (.run (cs 2 (oa::oc::oF::oc::oa::(cs 2 (oF::(cs 2 (oF::(cs 4 [bf]))))))) (fun γ=>k2 (dF γ.1.1.2) (k2 (dF γ.1.2) (k2 ((Ja γ.2):x23.Closed=false) (Gb fF)))) <|
  .gd (GS .i64 ((↑k4:Int)+1)) <| .run [oc,ow,oc] (fun γ=>Gb γ.2) <|
  .leaf (.inl (k4+1)) [0])))))
  (.run [bt,oc] (fun γ=>Gb ((Gy (Ja γ.2)):(!r25)=true)) <|
  .leaf (.inr (.inl 6)) [0]))
  (.run [bf] (fun γ=>Gb (dF γ.2)) <|
  .leaf (.inr (.inr (()))) [0])
def MR (t_0:Ga):Nat→Option (Nat⊕(Int⊕Unit)):=fun s=>(Yq t_0 s).den
def GiT (t_0:Ga):Nat→PS:=fun s=>(78,[(1,.ptr 0 0),(4,jI (↑s:Int))],[(bT (Ga.enc t_0) 28)])
def GiV:(Int⊕Unit)→Hm:=fun q=>match q with | Sum.inl o=>.ret | Sum.inr (o)=>(.exit 0)
def GiU (t_0:Ga):(Int⊕Unit)→List (Nat×AV):=fun q=>match q with | Sum.inl o=>[(2,jI o)] | Sum.inr (o)=>[(1,.ptr 0 0)]
def GiS (t_0:Ga):(Int⊕Unit)→List Hb:=fun _=>[(bT (Ga.enc t_0) 28)]
theorem Gem (t_0:Ga) {s:Nat} {r:Int⊕Unit} (h:lp (MR t_0) s=some r):DT 1 (.loop (GK Tryz.prog 29 [1,1,1,0,1,0,0])) (GiT t_0 s).st (GiV r) (PS.st (78,GiU t_0 r,GiS t_0 r)):=
 GN.lp_ht 1 400 (GiT t_0) GiV (fun q=>(78,GiU t_0 q,GiS t_0 q)) (Yq t_0) (by intro k4; kernel_rfl) h
def V2 (t_0:Ga):Nat→HT (Nat⊕(Int⊕Unit)) True
 | k6=>.run (cs 5 [oa]) (fun _=>Hg) <|
  .sp ((↑k6:Int)<(↑t_0.Net.Points.length:Int))
  (.run [bt] (fun γ=>Gb (dT γ.2)) <|
  .bd (t_0.Net.Points[k6]?) fun x47=>.bd (Glh t_0 x47) fun r49=>.run (cs 5 ((oN (.i k6))::(oN (.v [.str x47.Name,jI x47.Kind,.str x47.System]))::(rN [.any,.any] (jI r49) [])::(cs 2 [oa]))) (fun γ=>k2 (ir γ.1.2) (k2 (GD (f:=Gr.enc) (z:=2) (fun _=>rfl) γ.1.2) (k2 (GX (f:=Gr.enc) (z:=3) (j:=k6) (fun _=>rfl) γ.1.2 rfl) (Gb (Grx t_0 x47 r49 γ.2))))) <|
  .sp (r49=(0:Int))
  (.run [bf] (fun γ=>Gb (Gx (Gu γ.2))) <|
  .gd (GS .i64 ((↑k6:Int)+1)) <| .run [oc,ow,oc] (fun γ=>Gb γ.2) <|
  .leaf (.inl (k6+1)) [0])
  (.run (bt::(cs 2 [])) (fun γ=>Gb (Gy (Gz γ.2))) <|
  .leaf (.inr (.inl r49)) [0]))
  (.run [bf] (fun γ=>Gb (dF γ.2)) <|
  .leaf (.inr (.inr (()))) [0])
def K9 (t_0:Ga):Nat→Option (Nat⊕(Int⊕Unit)):=fun s=>(V2 t_0 s).den
def GgY (t_0:Ga):Nat→PS:=fun s=>(78,[(1,.ptr 0 0),(6,jI (↑s:Int))],[(bT (Ga.enc t_0) 28)])
def Gg0:(Int⊕Unit)→Hm:=fun q=>match q with | Sum.inl o=>.ret | Sum.inr (o)=>(.exit 2)
def GgZ (t_0:Ga):(Int⊕Unit)→List (Nat×AV):=fun q=>match q with | Sum.inl o=>[(2,jI o)] | Sum.inr (o)=>[]
def GgX (t_0:Ga):(Int⊕Unit)→List Hb:=fun _=>[(bT (Ga.enc t_0) 28)]
theorem Gcw (t_0:Ga) {s:Nat} {r:Int⊕Unit} (h:lp (K9 t_0) s=some r):DT 1 (.loop (GK Tryz.prog 29 [1,1,1,1,0,1,0,0])) (GgY t_0 s).st (Gg0 r) (PS.st (78,GgZ t_0 r,GgX t_0 r)):=
 GN.lp_ht 1 400 (GgY t_0) Gg0 (fun q=>(78,GgZ t_0 q,GgX t_0 q)) (V2 t_0) (by intro k6; kernel_rfl) h
def Gkb (t_0:Ga):HT Int True:=.run (cs 2 []) (fun _=>Hg) <|
  .bd (Ggr t_0.Net) fun r1=>.run (cs 2 ((rN [.any] (jI r1) [])::(cs 2 [oa]))) (fun γ=>Gb (Gk3 t_0.Net r1 γ.2)) <|
  .sp (r1=(0:Int))
  (.run (bf::(cs 3 [oa])) (fun γ=>Gb (Gx (Gu γ.2))) <|
  .sp ((↑t_0.Systems.length:Int)>(64:Int))
  (.run [bt,oc] (fun γ=>Gb (dT γ.2)) <|
  .leaf 3 [])
  (.run [bf,oc] (fun γ=>Gb (dF γ.2)) <|
  .bd (lp (MR t_0) (0:Nat)) fun qq=>.cs qq (fun o5=>.run [.fcut 1 .ret [(2,jI o5)] [(bT (Ga.enc t_0) 28)] [0] [(1,.any),(4,jI (↑(0:Nat):Int))] [bS]] (fun γ=>k2 (rfl:(jI 0:AV)=jI (↑(0:Nat):Int)) (Gb (Gem t_0 (s:=(0:Nat)) (r:=Sum.inl o5) (eS γ.1.2 γ.2)))) <|
  .leaf o5 [])
  (fun o5=>.run [.fcut 1 (.exit 0) [(1,.ptr 0 0)] [(bT (Ga.enc t_0) 28)] [0] [(1,.any),(4,jI (↑(0:Nat):Int))] [bS],oc] (fun γ=>k2 (rfl:(jI 0:AV)=jI (↑(0:Nat):Int)) (Gb (Gem t_0 (s:=(0:Nat)) (r:=Sum.inr (o5)) (eS γ.1.2 γ.2)))) <|
  .bd (lp (K9 t_0) (0:Nat)) fun qq=>.cs qq (fun o38=>.run [.fcut 1 .ret [(2,jI o38)] [(bT (Ga.enc t_0) 28)] [0] [(1,.any),(6,jI (↑(0:Nat):Int))] [bS]] (fun γ=>k2 (rfl:(jI 0:AV)=jI (↑(0:Nat):Int)) (Gb (Gcw t_0 (s:=(0:Nat)) (r:=Sum.inl o38) (eS γ.1.2 γ.2)))) <|
  .leaf o38 [])
  (fun o38=>.run [.fcut 1 (.exit 2) [] [(bT (Ga.enc t_0) 28)] [0] [(1,.any),(6,jI (↑(0:Nat):Int))] [bS],oc] (fun γ=>k2 (rfl:(jI 0:AV)=jI (↑(0:Nat):Int)) (Gb (Gcw t_0 (s:=(0:Nat)) (r:=Sum.inr (o38)) (eS γ.1.2 γ.2)))) <|
  .leaf 0 []))))
  (.run (bt::(cs 2 [])) (fun γ=>Gb (Gy (Gz γ.2))) <|
  .leaf r1 [])
def GgW (t_0:Ga):Option Int:=(Gkb t_0).den
theorem V3 (t_0:Ga) (r:Int) (h:GgW t_0=some r):RT 29 [.agg (Ga.enc t_0)] (jI r) []:=
 HA.of_ht 400 (Gkb t_0) (fun (r:Int)=>jI r) (fun (r:Int)=>[]) (by kernel_rfl) h
end
set_option maxHeartbeats 4000000
noncomputable section
def Gr4 (name:List UInt8) (y:Gm):Bool:=decide (y.Name=name)
def GAt:Gm:=⟨[],false,0⟩
def GeZ (l:List Gm) (name:List UInt8):Gm×Bool:=match l.find? (Gr4 name) with | some y=>(y,true) | none=>(GAt,false)
theorem Yh (l:List Gm) (hl:Sm l) (name:List UInt8):QA l name=some (GeZ l name):=by
 simp only [QA,ZI,dA,eN,eM]
 have key:lp (JM l name) 0=some (HQ (GJ (ixG (Gr4 name)) 0 l)):=by
  refine GP (fun k x hx=>?_) ?_
  ·have hk:=Hl hx
   have i1:GS .i64 ((k:Int)+1):=sm1 hl hk
   have hkl:(k:Int)<(l.length:Int):=by omega
   simp only [JM,Ql,dA,eN,eM,hx,Hd,i1,if_true,hkl,ixG,Gr4,decide_eq_true_eq]
   by_cases e:x.Name=name <;> simp only [e,if_true,if_false,K0]
  ·simp only [JM,Ql,d3,d6,d1]
   rw [if_neg (by omega)]
 rw [key]
 unfold GeZ
 rcases X3 (p:=Gr4 name) l with ⟨j,y,h1,h2,h3⟩ | ⟨h1,h3⟩
 ·rw [h1,h3]
  simp only [HQ,Hd,eN,Int.toNat_natCast,h2]
  rw [if_neg (by omega),if_pos (by omega)]
 ·rw [h1,h3]; rfl
theorem GdS (l:List Gm) (hl:Sm l) (name:List UInt8):∃ r,Gim l name=some r∧(0≤r↔(GeZ l name).2=true)∧(0≤r→l[r.toNat]?=some (GeZ l name).1):=by
 simp only [Gim,Gmu,dA,eN,eM]
 have key:lp (Qq l name) 0=some (HQ (GJ (ixG (Gr4 name)) 0 l)):=by
  refine GP (fun k x hx=>?_) ?_
  ·have hk:=Hl hx
   have i1:GS .i64 ((k:Int)+1):=sm1 hl hk
   have hkl:(k:Int)<(l.length:Int):=by omega
   simp only [Qq,Gam,dA,eN,eM,hx,Hd,i1,if_true,hkl,ixG,Gr4,decide_eq_true_eq]
   by_cases e:x.Name=name <;> simp only [e,if_true,if_false,K0]
  ·simp only [Qq,Gam,d3,d6,d1]
   rw [if_neg (by omega)]
 rw [key]
 unfold GeZ
 rcases X3 (p:=Gr4 name) l with ⟨j,y,h1,h2,h3⟩ | ⟨h1,h3⟩
 ·rw [h1,h3]
  exact ⟨j,rfl,by simp,fun _=>by simpa using h2⟩
 ·rw [h1,h3]
  exact ⟨-1,rfl,by simp,fun h=>absurd h (by omega)⟩
def Gf7 (l:List Gm) (p:Gr):Bool:=
 if p.Kind=2∨p.Kind=3 then (GeZ l p.System).2&&(GeZ l p.System).1.Closed
 else if p.Kind=1 then (GeZ l p.System).2&&!(GeZ l p.System).1.Closed
 else (GeZ l p.System).2||decide (p.System=[])
theorem GmY (l:List Gm) (hl:Sm l) (p:Gr):YK l p=some (Gf7 l p):=by
 simp only [YK,ZJ,dA,eN,eM,Yh l hl,Hd]
 clear hl
 unfold Gf7
 generalize GeZ l p.System=q
 obtain ⟨y,b⟩:=q
 cases b <;> cases h:y.Closed <;> grind
theorem Gpc (t:Ga) (hl:Sm t.Systems) (p:Gr) (hk:1≤p.Kind∧p.Kind≤4):Glh t p=some (if Gf7 t.Systems p then 0 else 16):=by
 obtain ⟨r,h1,h2,h3⟩:=GdS t.Systems hl p.System
 simp only [Glh,Gkc,dA,eN,eM,h1,Hd]
 clear hl h1
 unfold Gf7
 generalize GeZ t.Systems p.System=q at h2 h3
 obtain ⟨y,b⟩:=q
 by_cases hr:0≤r
 ·simp only [h3 hr,Hd]
  cases b <;> cases h:y.Closed <;> grind
 ·cases b <;> cases h:y.Closed <;> grind
def Gr5 (l:List Gm) (k:Nat) (x:Gm):Option Int:=
 if HR x.Name=false then some 6 else if (GeZ (l.take k) x.Name).2 then some 9 else if x.Most<0∨x.Most>2147483648∨(x.Closed=true∧x.Most=0) then some 12 else none
def GkB (t:Ga):Int:=
 if Gf9 t.Net≠0 then Gf9 t.Net else if t.Systems.length>64 then 3 else ((GJ (Gr5 t.Systems) 0 t.Systems).or (GJ (fun _ x=>if Gf7 t.Systems x then none else some 16) 0 t.Net.Points)).getD 0
theorem GAr {l:List Gr} {k:Nat} {x:Gr} {r:Int} (h:ptR l k x=some r):r≠0:=by unfold ptR at h; grind
theorem Giq {n:Gf} (h:Gf9 n=0):n.Points.length≤64∧n.Links.length≤128∧∀ (k:Nat) (x:Gr),n.Points[k]?=some x→1≤x.Kind∧x.Kind≤4:=by
 unfold Gf9 at h
 split at h
 ·cases h
 ·refine ⟨by omega,by omega,fun k x hx=>?_⟩
  cases he:GJ (ptR n.Points) 0 n.Points with
  | some r=>
   rw [he] at h
   simp only [Option.some_or,Option.getD_some] at h
   obtain ⟨i,y,h1,h2⟩:=RH he
   exact absurd h (GAr h2)
  | none=>
   have:=MI he k x hx
   unfold ptR at this
   grind
theorem Gdy (t:Ga):Ry t=some (GkB t):=by
 simp only [Ry,Yg,dA,eN,eM,GhJ,Hd]
 unfold GkB
 by_cases h0:Gf9 t.Net=0
 rotate_left
 ·rw [if_neg h0,if_pos h0]
 rw [if_pos h0,if_neg (show ¬ (Gf9 t.Net≠0) from fun h=>h h0)]
 by_cases h1:t.Systems.length>64
 ·rw [if_pos (by omega),if_pos h1]
 rw [if_neg (by omega),if_neg h1]
 have hs:Sm t.Systems:=by show _≤_; omega
 obtain ⟨hp0,_,_⟩:=Giq h0
 have hp:Sm t.Net.Points:=by show _≤_; omega
 have k1:lp (Jx t) 0=some (HQ (GJ (Gr5 t.Systems) 0 t.Systems)):=by
  refine GP (fun k x hx=>?_) ?_
  ·have hk:=Hl hx
   have i1:GS .i64 ((k:Int)+1):=sm1 hs hk
   have hkl:(k:Int)<(t.Systems.length:Int):=by omega
   have hkl2:k≤t.Systems.length:=by omega
   have hst:Sm (t.Systems.take k):=by show _≤_; rw [List.length_take]; omega
   simp only [Jx,MD,dA,eN,eM,hx,Hd,JX,Yh _ hst,i1,if_true,hkl,hkl2,Gr5]
   clear i1 hs hp hst hkl hkl2
   grind [K0]
  ·simp only [Jx,MD,d3,d6,d1]
   rw [if_neg (by omega)]
 have k2:lp (Jo t) 0=some (HQ (GJ (fun _ x=>if Gf7 t.Systems x then none else some ()) 0 t.Net.Points)):=by
  refine GP (fun k x hx=>?_) ?_
  ·have hk:=Hl hx
   have i1:GS .i64 ((k:Int)+1):=sm1 hp hk
   have hkl:(k:Int)<(t.Net.Points.length:Int):=by omega
   simp only [Jo,Mn,dA,eN,eM,hx,Hd,GmY _ hs,i1,if_true,hkl]
   clear i1 hs hp
   grind [K0]
  ·simp only [Jo,Mn,d3,d6,d1]
   rw [if_neg (by omega)]
 have k3:∀ (m:List Gr) (k:Nat),GJ (fun _ x=>if Gf7 t.Systems x then none else some (16:Int)) k m=(GJ (fun _ x=>if Gf7 t.Systems x then none else some ()) k m).map fun _=>16:=by
  intro m
  induction m with
  | nil=>intro k; rfl
  | cons x m ih=>intro k; unfold GJ; cases Gf7 t.Systems x <;> simp [ih]
 rw [k1]
 cases GJ (Gr5 t.Systems) 0 t.Systems with
 | some r=>rfl
 | none=>
  simp only [HQ,Hd,eM,k2,Option.none_or,k3]
  cases GJ (fun _ x=>if Gf7 t.Systems x then none else some ()) 0 t.Net.Points <;> rfl
theorem GhR (t:Ga):GgW t=some (GkB t):=by
 simp only [GgW,Gkb,dA,eN,eM,GhQ,Hd]
 unfold GkB
 by_cases h0:Gf9 t.Net=0
 rotate_left
 ·rw [if_neg h0,if_pos h0]
 rw [if_pos h0,if_neg (show ¬ (Gf9 t.Net≠0) from fun h=>h h0)]
 by_cases h1:t.Systems.length>64
 ·rw [if_pos (by omega),if_pos h1]
 rw [if_neg (by omega),if_neg h1]
 have hs:Sm t.Systems:=by show _≤_; omega
 obtain ⟨hp0,_,hkd⟩:=Giq h0
 have hp:Sm t.Net.Points:=by show _≤_; omega
 have k1:lp (MR t) 0=some (HQ (GJ (Gr5 t.Systems) 0 t.Systems)):=by
  refine GP (fun k x hx=>?_) ?_
  ·have hk:=Hl hx
   have i1:GS .i64 ((k:Int)+1):=sm1 hs hk
   have hkl:(k:Int)<(t.Systems.length:Int):=by omega
   have hkl2:k≤t.Systems.length:=by omega
   have hst:Sm (t.Systems.take k):=by show _≤_; rw [List.length_take]; omega
   obtain ⟨r,h1,h2,_⟩:=GdS (t.Systems.take k) hst x.Name
   simp only [MR,Yq,dA,eN,eM,hx,Hd,Ms,h1,i1,if_true,hkl,hkl2,Gr5]
   clear i1 hs hp hst hkl hkl2 h1 hkd
   grind [K0]
  ·simp only [MR,Yq,d3,d6,d1]
   rw [if_neg (by omega)]
 have k2:lp (K9 t) 0=some (HQ (GJ (fun _ x=>if Gf7 t.Systems x then none else some 16) 0 t.Net.Points)):=by
  refine GP (fun k x hx=>?_) ?_
  ·have hk:=Hl hx
   have i1:GS .i64 ((k:Int)+1):=sm1 hp hk
   have hkl:(k:Int)<(t.Net.Points.length:Int):=by omega
   simp only [K9,V2,dA,eN,eM,hx,Hd,Gpc t hs x (hkd k x hx),i1,if_true,hkl]
   clear i1 hs hp
   grind [K0]
  ·simp only [K9,V2,d3,d6,d1]
   rw [if_neg (by omega)]
 rw [k1]
 cases GJ (Gr5 t.Systems) 0 t.Systems with
 | some r=>rfl
 | none=>
  simp only [HQ,Hd,eM,k2,Option.none_or]
  cases GJ (fun _ x=>if Gf7 t.Systems x then none else some (16:Int)) 0 t.Net.Points <;> rfl
end
end Go.Proofs.YtdifanfcaemokaaGreatDoor.Av
