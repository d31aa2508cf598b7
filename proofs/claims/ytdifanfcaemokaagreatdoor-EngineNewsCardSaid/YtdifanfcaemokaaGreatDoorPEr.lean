import Derived.Test.YtdifanfcaemokaaGreatDoorPEd
open Prod (fst)
open Int (tdiv tmod)
set_option maxHeartbeats 4000000
set_option maxRecDepth 100000
set_option linter.unusedVariables false
set_option linter.unusedSimpArgs false
namespace Go.Proofs.YtdifanfcaemokaaGreatDoor.Av
noncomputable section
open Go Go.Proofs
def QX (l_0:(List GA)):(Nat×(List Bool))→HT ((Nat×(List Bool))⊕((Int×(List Bool))⊕(List Bool))) True
 | (k11,b0)=>.run [oa] (fun _=>Hg) <|
  .sp ((↑k11:Int)<(↑l_0.length:Int))
  (.run [bt] (fun γ=>Gb (dT γ.2)) <|
  .bd (l_0[k11]?) fun x30=>.run ((oN (.i k11))::(oN (.v [jI x30.Kind,jI x30.Part]))::(cs 2 [])) (fun γ=>k2 (ir γ.2) (k2 (GD (f:=GA.enc) (z:=1) (fun _=>rfl) γ.2) (Gb (GX (f:=GA.enc) (z:=2) (j:=k11) (fun _=>rfl) γ.2 rfl)))) <|
  .sp (x30.Kind<(0:Int))
  (.run (cs 2 (oa::oc::tc::(cs 13 [bt,oc]))) (fun γ=>k2 (dT γ.2) (Gb tT)) <|
  .leaf (.inr (.inl (1,b0))) [0])
  (.sp (x30.Kind>(3:Int))
  (.run (cs 2 (oa::oc::oF::oc::oa::(cs 2 (tc::(cs 8 [bt,oc]))))) (fun γ=>k2 (dF γ.1.2) (k2 (dT γ.2) (Gb tT))) <|
  .leaf (.inr (.inl (1,b0))) [0])
  (.sp (x30.Part<(0:Int))
  (.run (cs 2 (oa::oc::oF::oc::oa::(cs 2 (oF::oc::oa::(cs 2 (tc::(cs 3 [bt,oc]))))))) (fun γ=>k2 (dF γ.1.1.2) (k2 (dF γ.1.2) (k2 (dT γ.2) (Gb tT)))) <|
  .leaf (.inr (.inl (1,b0))) [0])
  (.run (cs 2 (oa::oc::oF::oc::oa::(cs 2 (oF::oc::oa::(cs 2 [oF,oc,oa,oc]))))) (fun γ=>k2 (dF γ.1.1.2) (k2 (dF γ.1.2) (Gb (dF γ.2)))) <|
  .sp (x30.Part>(1000:Int))
  (.run [bt,oc] (fun γ=>Gb (dT γ.2)) <|
  .leaf (.inr (.inl (1,b0))) [0])
  (.run [bf] (fun γ=>Gb (dF γ.2)) <|
  .gd ((0:Int)≤x30.Kind) <| .gd ((Int.toNat x30.Kind)<4) <| .bd (b0[(Int.toNat x30.Kind)]?) fun x38=>.run (cs 2 [oN (.i (Int.toNat x30.Kind)),oN (.v [.bool x38])]) (fun γ=>k2 (iy γ.1.1.2 γ.1.2) (Gb (Gu7 γ.2))) <|
  .sp (x38=true)
  (.run [bt,oc] (fun γ=>Gb γ.2) <|
  .leaf (.inr (.inl (9,b0))) [0])
  (.run (bf::(cs 2 [oN (.i (Int.toNat x30.Kind)),oa,.tr (.eqc 0 (fl Kn (List.set b0 (Int.toNat x30.Kind) true)))])) (fun γ=>k2 ((Ja γ.2):x38=false) (k2 (iy (G0 γ) γ.1.1.2) (k2 (Gr2 γ.1.2) (Gb (Gr3 true γ.1.2))))) <|
  .gd (GS .i64 ((↑k11:Int)+1)) <| .run [ow,oc] (fun γ=>Gb γ.2) <|
  .leaf (.inl ((k11+1),(List.set b0 (Int.toNat x30.Kind) true))) [0]))))))
  (.run [bf] (fun γ=>Gb (dF γ.2)) <|
  .leaf (.inr (.inr (b0))) [0])
def Ka (l_0:(List GA)):(Nat×(List Bool))→Option ((Nat×(List Bool))⊕((Int×(List Bool))⊕(List Bool))):=fun s=>(QX l_0 s).den
def Gde (l_0:(List GA)):(Nat×(List Bool))→PS:=fun s=>(41,[(3,.ptr 0 0),(9,.lst (fl GA.enc l_0) l_0.length),(10,jI (↑l_0.length:Int)),(11,jI (↑s.1:Int))],[(bT (fl Kn s.2) 375)])
def Gdg:((Int×(List Bool))⊕(List Bool))→Hm:=fun q=>match q with | Sum.inl o=>.ret | Sum.inr (o)=>(.exit 0)
def Gdf (l_0:(List GA)):((Int×(List Bool))⊕(List Bool))→List (Nat×AV):=fun q=>match q with | Sum.inl o=>[(2,jI o.1)] | Sum.inr (o)=>[]
def Gdd (l_0:(List GA)):((Int×(List Bool))⊕(List Bool))→List Hb:=fun q=>match q with | Sum.inl o=>[(bT (fl Kn o.2) 375)] | Sum.inr (o)=>[(bT (fl Kn o) 375)]
theorem Zb (l_0:(List GA)) {s:(Nat×(List Bool))} {r:(Int×(List Bool))⊕(List Bool)} (h:lp (Ka l_0) s=some r):DT 1 (.loop (GK Tryz.prog 146 [1,1,1,0,1,0,0])) (Gde l_0 s).st (Gdg r) (PS.st (41,Gdf l_0 r,Gdd l_0 r)):=
 GN.lp_ht 1 400 (Gde l_0) Gdg (fun q=>(41,Gdf l_0 q,Gdd l_0 q)) (QX l_0) (by rintro ⟨k11,b0⟩; kernel_rfl) h
def GbK (l_0:(List GA)):HT Int True:=.run (cs 3 [oa]) (fun _=>Hg) <|
  .sp ((↑l_0.length:Int)>(12:Int))
  (.run [bt,oc] (fun γ=>Gb (dT γ.2)) <|
  .leaf 3 [])
  (.run (bf::(cs 4 [])) (fun γ=>Gb (dF γ.2)) <|
  .bd (lp (Ka l_0) ((0:Nat),([false,false,false,false]:(List Bool)))) fun qq=>.cs qq (fun o2=>.run [.fcut 1 .ret [(2,jI o2.1)] [(bT (fl Kn o2.2) 375)] [0] [(3,.any),(9,.any),(10,.any),(11,jI (↑(0:Nat):Int))] [(bT (fl Kn ([false,false,false,false]:(List Bool))) 375)]] (fun γ=>k2 (rfl:(jI 0:AV)=jI (↑(0:Nat):Int)) (k2 (rfl:((bT [.bool false,.bool false,.bool false,.bool false] 375):Hb)=KO [0] (bT (fl Kn ([false,false,false,false]:(List Bool))) 375)) (Gb (Zb l_0 (s:=((0:Nat),([false,false,false,false]:(List Bool)))) (r:=Sum.inl o2) (eS γ.1.2 γ.2))))) <|
  .leaf o2.1 [])
  (fun o2=>.run [.fcut 1 (.exit 0) [] [(bT (fl Kn o2) 375)] [0] [(3,.any),(9,.any),(10,.any),(11,jI (↑(0:Nat):Int))] [(bT (fl Kn ([false,false,false,false]:(List Bool))) 375)],oc] (fun γ=>k2 (rfl:(jI 0:AV)=jI (↑(0:Nat):Int)) (k2 (rfl:((bT [.bool false,.bool false,.bool false,.bool false] 375):Hb)=KO [0] (bT (fl Kn ([false,false,false,false]:(List Bool))) 375)) (Gb (Zb l_0 (s:=((0:Nat),([false,false,false,false]:(List Bool)))) (r:=Sum.inr (o2)) (eS γ.1.2 γ.2))))) <|
  .leaf 0 []))
def Gay (l_0:(List GA)):Option Int:=(GbK l_0).den
theorem GeW (l_0:(List GA)) (r:Int) (h:Gay l_0=some r):RT 146 [.lst (fl GA.enc l_0) l_0.length] (jI r) []:=
 HA.of_ht 400 (GbK l_0) (fun (r:Int)=>jI r) (fun (r:Int)=>[]) (by kernel_rfl) h
def QV (w_0:GO):Nat→HT (Nat⊕(Unit⊕Unit)) True
 | k20=>.run [oa] (fun _=>Hg) <|
  .sp ((↑k20:Int)<(↑w_0.Days.length:Int))
  (.run [bt] (fun γ=>Gb (dT γ.2)) <|
  .bd (w_0.Days[k20]?) fun x11=>.run [oN (.i k20),vI x11,oc] (fun γ=>k2 (ir γ.2) (k2 (GD (f:=GU) (z:=0) (fun _=>rfl) γ.2) (Gb (H3 γ.2)))) <|
  .sp (x11<(1:Int))
  (.run (oc::oa::oc::tc::(cs 2 [bt,oc])) (fun γ=>k2 (dT γ.2) (Gb tT)) <|
  .leaf (.inr (.inl ())) [0])
  (.run [oc,oa,oc,oF,oa,oc] (fun γ=>Gb (dF γ.2)) <|
  .sp (x11>(4096:Int))
  (.run [bt,oc] (fun γ=>Gb (dT γ.2)) <|
  .leaf (.inr (.inl ())) [0])
  (.run [bf] (fun γ=>Gb (dF γ.2)) <|
  .gd (GS .i64 ((↑k20:Int)+1)) <| .run [ow,oc] (fun γ=>Gb γ.2) <|
  .leaf (.inl (k20+1)) [0])))
  (.run [bf] (fun γ=>Gb (dF γ.2)) <|
  .leaf (.inr (.inr (()))) [0])
def J8 (w_0:GO):Nat→Option (Nat⊕(Unit⊕Unit)):=fun s=>(QV w_0 s).den
def Gc2 (w_0:GO):Nat→PS:=fun s=>(53,[(1,.ptr 0 0),(18,.lst (fl GU w_0.Days) w_0.Days.length),(19,jI (↑w_0.Days.length:Int)),(20,jI (↑s:Int))],[(bT (GO.enc w_0) 43)])
def Gc4:(Unit⊕Unit)→Hm:=fun q=>match q with | Sum.inl o=>.ret | Sum.inr (o)=>(.exit 0)
def Gc3 (w_0:GO):(Unit⊕Unit)→List (Nat×AV):=fun q=>match q with | Sum.inl o=>[(2,jI 1)] | Sum.inr (o)=>[(1,.ptr 0 0)]
def Gc1 (w_0:GO):(Unit⊕Unit)→List Hb:=fun _=>[(bT (GO.enc w_0) 43)]
theorem Y3 (w_0:GO) {s:Nat} {r:Unit⊕Unit} (h:lp (J8 w_0) s=some r):DT 1 (.loop (GK Tryz.prog 148 [1,1,0,1,0,0])) (Gc2 w_0 s).st (Gc4 r) (PS.st (53,Gc3 w_0 r,Gc1 w_0 r)):=
 GN.lp_ht 1 400 (Gc2 w_0) Gc4 (fun q=>(53,Gc3 w_0 q,Gc1 w_0 q)) (QV w_0) (by intro k20; kernel_rfl) h
def Qd (w_0:GO):Nat→HT (Nat⊕(Unit⊕Unit)) True
 | k34=>.run [oa] (fun _=>Hg) <|
  .sp ((↑k34:Int)<(↑w_0.Fees.length:Int))
  (.run [bt] (fun γ=>Gb (dT γ.2)) <|
  .bd (w_0.Fees[k34]?) fun x24=>.run [oN (.i k34),vI x24,oc] (fun γ=>k2 (ir γ.2) (k2 (GD (f:=GU) (z:=0) (fun _=>rfl) γ.2) (Gb (H3 γ.2)))) <|
  .sp (x24<(0:Int))
  (.run (oc::oa::oc::tc::(cs 2 [bt,oc])) (fun γ=>k2 (dT γ.2) (Gb tT)) <|
  .leaf (.inr (.inl ())) [0])
  (.run [oc,oa,oc,oF,oa,oc] (fun γ=>Gb (dF γ.2)) <|
  .sp (x24>(2147483648:Int))
  (.run [bt,oc] (fun γ=>Gb (dT γ.2)) <|
  .leaf (.inr (.inl ())) [0])
  (.run [bf] (fun γ=>Gb (dF γ.2)) <|
  .gd (GS .i64 ((↑k34:Int)+1)) <| .run [ow,oc] (fun γ=>Gb γ.2) <|
  .leaf (.inl (k34+1)) [0])))
  (.run [bf] (fun γ=>Gb (dF γ.2)) <|
  .leaf (.inr (.inr (()))) [0])
def JH (w_0:GO):Nat→Option (Nat⊕(Unit⊕Unit)):=fun s=>(Qd w_0 s).den
def Gbo (w_0:GO):Nat→PS:=fun s=>(53,[(1,.ptr 0 0),(32,.lst (fl GU w_0.Fees) w_0.Fees.length),(33,jI (↑w_0.Fees.length:Int)),(34,jI (↑s:Int))],[(bT (GO.enc w_0) 43)])
def Gbq:(Unit⊕Unit)→Hm:=fun q=>match q with | Sum.inl o=>.ret | Sum.inr (o)=>(.exit 2)
def Gbp (w_0:GO):(Unit⊕Unit)→List (Nat×AV):=fun q=>match q with | Sum.inl o=>[(2,jI 13)] | Sum.inr (o)=>[(1,.ptr 0 0)]
def Gbn (w_0:GO):(Unit⊕Unit)→List Hb:=fun _=>[(bT (GO.enc w_0) 43)]
theorem XK (w_0:GO) {s:Nat} {r:Unit⊕Unit} (h:lp (JH w_0) s=some r):DT 1 (.loop (GK Tryz.prog 148 [1,1,1,0,1,0,0])) (Gbo w_0 s).st (Gbq r) (PS.st (53,Gbp w_0 r,Gbn w_0 r)):=
 GN.lp_ht 1 400 (Gbo w_0) Gbq (fun q=>(53,Gbp w_0 q,Gbn w_0 q)) (Qd w_0) (by intro k34; kernel_rfl) h
def Gbr (w_0:GO):HT Int True:=.run (cs 2 []) (fun _=>Hg) <|
  .sp ((↑w_0.Days.length:Int)=(4:Int))
  (.run (cs 3 (oa::oc::oF::(cs 2 [oa,oc]))) (fun γ=>Gb (Gx (Gu γ.2))) <|
  .sp ((↑w_0.Fees.length:Int)=(4:Int))
  (.run (bf::(cs 4 [])) (fun γ=>Gb (Gx (Gu γ.2))) <|
  .bd (lp (J8 w_0) (0:Nat)) fun qq=>.cs qq (fun o3=>.run [.fcut 1 .ret [(2,jI 1)] [(bT (GO.enc w_0) 43)] [0] [(1,.any),(18,.any),(19,.any),(20,jI (↑(0:Nat):Int))] [bS]] (fun γ=>k2 (rfl:(jI 0:AV)=jI (↑(0:Nat):Int)) (Gb (Y3 w_0 (s:=(0:Nat)) (r:=Sum.inl o3) (eS γ.1.2 γ.2)))) <|
  .leaf 1 [])
  (fun o3=>.run ((.fcut 1 (.exit 0) [(1,.ptr 0 0)] [(bT (GO.enc w_0) 43)] [0] [(1,.any),(18,.any),(19,.any),(20,jI (↑(0:Nat):Int))] [bS])::(cs 4 [])) (fun γ=>k2 (rfl:(jI 0:AV)=jI (↑(0:Nat):Int)) (Gb (Y3 w_0 (s:=(0:Nat)) (r:=Sum.inr (o3)) (eS γ.1.2 γ.2)))) <|
  .bd (lp (JH w_0) (0:Nat)) fun qq=>.cs qq (fun o16=>.run [.fcut 1 .ret [(2,jI 13)] [(bT (GO.enc w_0) 43)] [0] [(1,.any),(32,.any),(33,.any),(34,jI (↑(0:Nat):Int))] [bS]] (fun γ=>k2 (rfl:(jI 0:AV)=jI (↑(0:Nat):Int)) (Gb (XK w_0 (s:=(0:Nat)) (r:=Sum.inl o16) (eS γ.1.2 γ.2)))) <|
  .leaf 13 [])
  (fun o16=>.run [.fcut 1 (.exit 2) [(1,.ptr 0 0)] [(bT (GO.enc w_0) 43)] [0] [(1,.any),(32,.any),(33,.any),(34,jI (↑(0:Nat):Int))] [bS]] (fun γ=>k2 (rfl:(jI 0:AV)=jI (↑(0:Nat):Int)) (Gb (XK w_0 (s:=(0:Nat)) (r:=Sum.inr (o16)) (eS γ.1.2 γ.2)))) <|
  .sp (w_0.Limit<(1:Int))
  (.run (cs 2 (oa::oc::tc::(cs 3 [bt,oc]))) (fun γ=>k2 (dT γ.2) (Gb tT)) <|
  .leaf 12 [])
  (.run (cs 2 [oa,oc,oF,oc,oa,oc]) (fun γ=>Gb (dF γ.2)) <|
  .sp (w_0.Limit≥(795364:Int))
  (.run [bt,oc] (fun γ=>Gb (dT γ.2)) <|
  .leaf 12 [])
  (.run [bf,oc] (fun γ=>Gb (dF γ.2)) <|
  .leaf 0 [])))))
  (.run [bt,oc] (fun γ=>Gb (Gy (Gz γ.2))) <|
  .leaf 3 []))
  (.run (cs 3 (oa::oc::tc::(cs 4 [bt,oc]))) (fun γ=>k2 (Gy (Gz γ.2)) (Gb tT)) <|
  .leaf 3 [])
def Gaw (w_0:GO):Option Int:=(Gbr w_0).den
theorem Yb (w_0:GO) (r:Int) (h:Gaw w_0=some r):RT 148 [.agg (GO.enc w_0)] (jI r) []:=
 HA.of_ht 400 (Gbr w_0) (fun (r:Int)=>jI r) (fun (r:Int)=>[]) (by kernel_rfl) h
def QZ (l_0:(List Gq)):(Nat×(List (Int×Bool)))→HT ((Nat×(List (Int×Bool)))⊕((Int×(List (Int×Bool)))⊕(List (Int×Bool)))) True
 | (k12,b0)=>.run [oa] (fun _=>Hg) <|
  .sp ((↑k12:Int)<(↑l_0.length:Int))
  (.run [bt] (fun γ=>Gb (dT γ.2)) <|
  .bd (l_0[k12]?) fun x42=>.run ((oN (.i k12))::(oN (.v [jI x42.Purpose,jI x42.Seconds,jI x42.Least]))::(cs 2 [])) (fun γ=>k2 (ir γ.2) (k2 (GD (f:=Gq.enc) (z:=2) (fun _=>rfl) γ.2) (Gb (GX (f:=Gq.enc) (z:=3) (j:=k12) (fun _=>rfl) γ.2 rfl)))) <|
  .sp (x42.Purpose<(1:Int))
  (.run (cs 2 (oa::oc::tc::(cs 3 [bt,oc]))) (fun γ=>k2 (dT γ.2) (Gb tT)) <|
  .leaf (.inr (.inl (1,b0))) [0])
  (.run (cs 2 [oa,oc,oF,oc,oa,oc]) (fun γ=>Gb (dF γ.2)) <|
  .sp (x42.Purpose>(4:Int))
  (.run [bt,oc] (fun γ=>Gb (dT γ.2)) <|
  .leaf (.inr (.inl (1,b0))) [0])
  (.run [bf] (fun γ=>Gb (dF γ.2)) <|
  .sp (((X8 fst b0 x42.Purpose).isSome)=true)
  (.bd (X8 fst b0 x42.Purpose) fun q47=>.run (cs 3 [oN (.v [.bool q47.2])]) (fun γ=>Gb ((Mq Xi (k:=x42.Purpose) (Gnt x42.Purpose) γ.2):Jp (List.map Kx b0) (jI x42.Purpose)=some (.bool q47.2))) <|
  .sp (q47.2=true)
  (.run [bt,oc] (fun γ=>Gb γ.2) <|
  .leaf (.inr (.inl (9,b0))) [0])
  (.run (bf::(cs 4 [.tr (.mp 0 (List.map Kx (Jb fst b0 (x42.Purpose,true))))])) (fun γ=>k2 ((Ja γ.2):q47.2=false) (Gb ((List.Perm.of_eq (YJ (κ:=fst) Xi b0 (x42.Purpose,true))):List.Perm (ZD (List.map Kx b0) (jI x42.Purpose) (.bool true)) (List.map Kx (Jb fst b0 (x42.Purpose,true)))))) <|
  .sp (x42.Seconds<(0:Int))
  (.run (cs 2 (oa::oc::tc::(cs 13 [bt,oc]))) (fun γ=>k2 (dT γ.2) (Gb tT)) <|
  .leaf (.inr (.inl (12,(Jb fst b0 (x42.Purpose,true))))) [0])
  (.sp (x42.Seconds>(68719476736:Int))
  (.run (cs 2 (oa::oc::oF::oc::oa::(cs 2 (tc::(cs 8 [bt,oc]))))) (fun γ=>k2 (dF γ.1.2) (k2 (dT γ.2) (Gb tT))) <|
  .leaf (.inr (.inl (12,(Jb fst b0 (x42.Purpose,true))))) [0])
  (.sp (x42.Least<(0:Int))
  (.run (cs 2 (oa::oc::oF::oc::oa::(cs 2 (oF::oc::oa::(cs 2 (tc::(cs 3 [bt,oc]))))))) (fun γ=>k2 (dF γ.1.1.2) (k2 (dF γ.1.2) (k2 (dT γ.2) (Gb tT)))) <|
  .leaf (.inr (.inl (12,(Jb fst b0 (x42.Purpose,true))))) [0])
  (.run (cs 2 (oa::oc::oF::oc::oa::(cs 2 (oF::oc::oa::(cs 2 [oF,oc,oa,oc]))))) (fun γ=>k2 (dF γ.1.1.2) (k2 (dF γ.1.2) (Gb (dF γ.2)))) <|
  .sp (x42.Least>(68719476736:Int))
  (.run [bt,oc] (fun γ=>Gb (dT γ.2)) <|
  .leaf (.inr (.inl (12,(Jb fst b0 (x42.Purpose,true))))) [0])
  (.run [bf] (fun γ=>Gb (dF γ.2)) <|
  .gd (GS .i64 ((↑k12:Int)+1)) <| .run [ow,oc] (fun γ=>Gb γ.2) <|
  .leaf (.inl ((k12+1),(Jb fst b0 (x42.Purpose,true)))) [0]))))))
  (.run (cs 3 ((oN (.b false))::bf::(cs 4 [.tr (.mp 0 (List.map Kx (Jb fst b0 (x42.Purpose,true))))]))) (fun γ=>k2 ((X9 Xi (k:=x42.Purpose) (Gnt x42.Purpose) (Gio γ.2)):Jp (List.map Kx b0) (jI x42.Purpose)=none) (k2 fF (Gb ((List.Perm.of_eq (YJ (κ:=fst) Xi b0 (x42.Purpose,true))):List.Perm (ZD (List.map Kx b0) (jI x42.Purpose) (.bool true)) (List.map Kx (Jb fst b0 (x42.Purpose,true))))))) <|
  .sp (x42.Seconds<(0:Int))
  (.run (cs 2 (oa::oc::tc::(cs 13 [bt,oc]))) (fun γ=>k2 (dT γ.2) (Gb tT)) <|
  .leaf (.inr (.inl (12,(Jb fst b0 (x42.Purpose,true))))) [0])
  (.sp (x42.Seconds>(68719476736:Int))
  (.run (cs 2 (oa::oc::oF::oc::oa::(cs 2 (tc::(cs 8 [bt,oc]))))) (fun γ=>k2 (dF γ.1.2) (k2 (dT γ.2) (Gb tT))) <|
  .leaf (.inr (.inl (12,(Jb fst b0 (x42.Purpose,true))))) [0])
  (.sp (x42.Least<(0:Int))
  (.run (cs 2 (oa::oc::oF::oc::oa::(cs 2 (oF::oc::oa::(cs 2 (tc::(cs 3 [bt,oc]))))))) (fun γ=>k2 (dF γ.1.1.2) (k2 (dF γ.1.2) (k2 (dT γ.2) (Gb tT)))) <|
  .leaf (.inr (.inl (12,(Jb fst b0 (x42.Purpose,true))))) [0])
  (.run (cs 2 (oa::oc::oF::oc::oa::(cs 2 (oF::oc::oa::(cs 2 [oF,oc,oa,oc]))))) (fun γ=>k2 (dF γ.1.1.2) (k2 (dF γ.1.2) (Gb (dF γ.2)))) <|
  .sp (x42.Least>(68719476736:Int))
  (.run [bt,oc] (fun γ=>Gb (dT γ.2)) <|
  .leaf (.inr (.inl (12,(Jb fst b0 (x42.Purpose,true))))) [0])
  (.run [bf] (fun γ=>Gb (dF γ.2)) <|
  .gd (GS .i64 ((↑k12:Int)+1)) <| .run [ow,oc] (fun γ=>Gb γ.2) <|
  .leaf (.inl ((k12+1),(Jb fst b0 (x42.Purpose,true)))) [0]))))))))
  (.run [bf] (fun γ=>Gb (dF γ.2)) <|
  .leaf (.inr (.inr (b0))) [0])
def Jl (l_0:(List Gq)):(Nat×(List (Int×Bool)))→Option ((Nat×(List (Int×Bool)))⊕((Int×(List (Int×Bool)))⊕(List (Int×Bool)))):=fun s=>(QZ l_0 s).den
def Gdh (l_0:(List Gq)):(Nat×(List (Int×Bool)))→PS:=fun s=>(50,[(3,.mapr 0),(10,.lst (fl Gq.enc l_0) l_0.length),(11,jI (↑l_0.length:Int)),(12,jI (↑s.1:Int))],[(bM (.i .i64) (List.map Kx s.2))])
def Gdj:((Int×(List (Int×Bool)))⊕(List (Int×Bool)))→Hm:=fun q=>match q with | Sum.inl o=>.ret | Sum.inr (o)=>(.exit 0)
def Gdi (l_0:(List Gq)):((Int×(List (Int×Bool)))⊕(List (Int×Bool)))→List (Nat×AV):=fun q=>match q with | Sum.inl o=>[(2,jI o.1)] | Sum.inr (o)=>[]
def Xl (l_0:(List Gq)):((Int×(List (Int×Bool)))⊕(List (Int×Bool)))→List Hb:=fun q=>match q with | Sum.inl o=>[(bM (.i .i64) (List.map Kx o.2))] | Sum.inr (o)=>[(bM (.i .i64) (List.map Kx o))]
theorem Zc (l_0:(List Gq)) {s:(Nat×(List (Int×Bool)))} {r:(Int×(List (Int×Bool)))⊕(List (Int×Bool))} (h:lp (Jl l_0) s=some r):DT 1 (.loop (GK Tryz.prog 150 [1,1,1,0,1,0,0])) (Gdh l_0 s).st (Gdj r) (PS.st (50,Gdi l_0 r,Xl l_0 r)):=
 GN.lp_ht 1 400 (Gdh l_0) Gdj (fun q=>(50,Gdi l_0 q,Xl l_0 q)) (QZ l_0) (by rintro ⟨k12,b0⟩; kernel_rfl) h
def GbL (l_0:(List Gq)):HT Int True:=.run (cs 3 [oa]) (fun _=>Hg) <|
  .sp ((↑l_0.length:Int)>(4:Int))
  (.run [bt,oc] (fun γ=>Gb (dT γ.2)) <|
  .leaf 3 [])
  (.run (bf::(cs 5 [])) (fun γ=>Gb (dF γ.2)) <|
  .bd (lp (Jl l_0) ((0:Nat),([]:List (Int×Bool)))) fun qq=>.cs qq (fun o2=>.run [.fcut 1 .ret [(2,jI o2.1)] (Xl l_0 (Sum.inl o2)) [0] [(3,.any),(10,.any),(11,.any),(12,jI (↑(0:Nat):Int))] [bS]] (fun γ=>k2 (rfl:(jI 0:AV)=jI (↑(0:Nat):Int)) (Gb (Zc l_0 (s:=((0:Nat),([]:List (Int×Bool)))) (r:=Sum.inl o2) (eS γ.1.2 γ.2)))) <|
  .leaf o2.1 [])
  (fun o2=>.run [.fcut 1 (.exit 0) [] [(bM (.i .i64) (List.map Kx o2))] [0] [(3,.any),(10,.any),(11,.any),(12,jI (↑(0:Nat):Int))] [bS],oc] (fun γ=>k2 (rfl:(jI 0:AV)=jI (↑(0:Nat):Int)) (Gb (Zc l_0 (s:=((0:Nat),([]:List (Int×Bool)))) (r:=Sum.inr (o2)) (eS γ.1.2 γ.2)))) <|
  .leaf 0 []))
def Gaz (l_0:(List Gq)):Option Int:=(GbL l_0).den
theorem GeX (l_0:(List Gq)) (r:Int) (h:Gaz l_0=some r):RT 150 [.lst (fl Gq.enc l_0) l_0.length] (jI r) []:=
 HA.of_ht 400 (GbL l_0) (fun (r:Int)=>jI r) (fun (r:Int)=>[]) (by kernel_rfl) h
def Xg (l_0:(List GA)) (k3:Nat):Nat→HT (Nat⊕(Unit⊕Unit)) True
 | k4=>.run (cs 2 [oa]) (fun _=>Hg) <|
  .sp ((↑k4:Int)<(↑k3:Int))
  (.run [bt] (fun γ=>Gb (dT γ.2)) <|
  .bd (l_0[k4]?) fun x42=>.bd (l_0[k3]?) fun x44=>.run (cs 2 ((oN (.i k4))::oc::(oN (.v [jI x42.Kind]))::(cs 2 [oN (.i k3),oc,oN (.v [jI x44.Kind]),oa]))) (fun γ=>k2 (ir γ.1.2) (k2 (GD (f:=GA.enc) (z:=1) (fun _=>rfl) γ.1.2) (k2 (GL (f:=GA.enc) (z:=2) (j:=k4) (a:=0) (n:=1) (fun _=>rfl) γ.1.2 (by decide) rfl) (k2 (ir γ.2) (k2 (GD (f:=GA.enc) (z:=1) (fun _=>rfl) γ.2) (Gb (GL (f:=GA.enc) (z:=2) (j:=k3) (a:=0) (n:=1) (fun _=>rfl) γ.2 (by decide) rfl))))))) <|
  .sp (x42.Kind=x44.Kind)
  (.run [bt,oc] (fun γ=>Gb (Gu γ.2)) <|
  .leaf (.inr (.inl ())) [])
  (.run [bf] (fun γ=>Gb (Gz γ.2)) <|
  .gd (GS .i64 ((↑k4:Int)+1)) <| .run [oc,ow,oc] (fun γ=>Gb γ.2) <|
  .leaf (.inl (k4+1)) []))
  (.run [bf] (fun γ=>Gb (dF γ.2)) <|
  .leaf (.inr (.inr (()))) [])
def Mg (l_0:(List GA)) (k3:Nat):Nat→Option (Nat⊕(Unit⊕Unit)):=fun s=>(Xg l_0 k3 s).den
def Ghz (l_0:(List GA)) (k3:Nat):Nat→PS:=fun s=>(60,[(0,.lst (fl GA.enc l_0) l_0.length),(3,jI (↑k3:Int)),(4,jI (↑s:Int))],[])
def GhA:(Unit⊕Unit)→Hm:=fun q=>match q with | Sum.inl o=>.ret | Sum.inr (o)=>(.exit 2)
def Gbd (l_0:(List GA)) (k3:Nat):(Unit⊕Unit)→List (Nat×AV):=fun q=>match q with | Sum.inl o=>[(2,jI 9)] | Sum.inr (o)=>[(0,.lst (fl GA.enc l_0) l_0.length),(3,jI (↑k3:Int))]
def Ghy (l_0:(List GA)) (k3:Nat):(Unit⊕Unit)→List Hb:=fun _=>[]
theorem GcV (l_0:(List GA)) (k3:Nat) {s:Nat} {r:Unit⊕Unit} (h:lp (Mg l_0 k3) s=some r):DT 0 (.loop (GK Tryz.prog 39 [1,1,0,1,0,0,1,0,0,1,1,0,0])) (Ghz l_0 k3 s).st (GhA r) (PS.st (60,Gbd l_0 k3 r,Ghy l_0 k3 r)):=
 GN.lp_ht 0 400 (Ghz l_0 k3) GhA (fun q=>(60,Gbd l_0 k3 q,Ghy l_0 k3 q)) (Xg l_0 k3) (by intro k4; kernel_rfl) h
def YD (l_0:(List GA)):Nat→HT (Nat⊕(Int⊕Unit)) True
 | k3=>.run (cs 3 [oa]) (fun _=>Hg) <|
  .sp ((↑k3:Int)<(↑l_0.length:Int))
  (.run [bt] (fun γ=>Gb (dT γ.2)) <|
  .bd (l_0[k3]?) fun x27=>.sp (x27.Kind<(0:Int))
  (.run (cs 2 ((oN (.i k3))::oc::(oN (.v [jI x27.Kind]))::oa::oc::tc::(cs 22 [bt,oc]))) (fun γ=>k2 (ir γ.1.2) (k2 (GD (f:=GA.enc) (z:=1) (fun _=>rfl) γ.1.2) (k2 (GL (f:=GA.enc) (z:=2) (j:=k3) (a:=0) (n:=1) (fun _=>rfl) γ.1.2 (by decide) rfl) (k2 (dT γ.2) (Gb tT))))) <|
  .leaf (.inr (.inl 1)) [])
  (.sp (x27.Kind>(3:Int))
  (.run (cs 2 ((oN (.i k3))::oc::(oN (.v [jI x27.Kind]))::oa::oc::oF::oc::(oN (.i k3))::oc::(oN (.v [jI x27.Kind]))::oa::(cs 2 (tc::(cs 14 [bt,oc]))))) (fun γ=>k2 (ir γ.1.1.2) (k2 (GD (f:=GA.enc) (z:=1) (fun _=>rfl) γ.1.1.2) (k2 (GL (f:=GA.enc) (z:=2) (j:=k3) (a:=0) (n:=1) (fun _=>rfl) γ.1.1.2 (by decide) rfl) (k2 (dF γ.1.2) (k2 (ir γ.1.1.2) (k2 (GD (f:=GA.enc) (z:=1) (fun _=>rfl) γ.1.1.2) (k2 (GL (f:=GA.enc) (z:=2) (j:=k3) (a:=0) (n:=1) (fun _=>rfl) γ.1.1.2 (by decide) rfl) (k2 (dT γ.2) (Gb tT))))))))) <|
  .leaf (.inr (.inl 1)) [])
  (.sp (x27.Part<(0:Int))
  (.run (cs 2 ((oN (.i k3))::oc::(oN (.v [jI x27.Kind]))::oa::oc::oF::oc::(oN (.i k3))::oc::(oN (.v [jI x27.Kind]))::oa::(cs 2 (oF::oc::(oN (.i k3))::oc::(oN (.v [jI x27.Part]))::oa::(cs 2 (tc::(cs 6 [bt,oc]))))))) (fun γ=>k2 (ir (G0 γ)) (k2 (GD (f:=GA.enc) (z:=1) (fun _=>rfl) (G0 γ)) (k2 (GL (f:=GA.enc) (z:=2) (j:=k3) (a:=0) (n:=1) (fun _=>rfl) (G0 γ) (by decide) rfl) (k2 (dF γ.1.1.2) (k2 (ir (G0 γ)) (k2 (GD (f:=GA.enc) (z:=1) (fun _=>rfl) (G0 γ)) (k2 (GL (f:=GA.enc) (z:=2) (j:=k3) (a:=0) (n:=1) (fun _=>rfl) (G0 γ) (by decide) rfl) (k2 (dF γ.1.2) (k2 (ir (G0 γ)) (k2 (GD (f:=GA.enc) (z:=1) (fun _=>rfl) (G0 γ)) (k2 (GL (f:=GA.enc) (z:=2) (j:=k3) (a:=1) (n:=1) (fun _=>rfl) (G0 γ) (by decide) rfl) (k2 (dT γ.2) (Gb tT))))))))))))) <|
  .leaf (.inr (.inl 1)) [])
  (.run (cs 2 ((oN (.i k3))::oc::(oN (.v [jI x27.Kind]))::oa::oc::oF::oc::(oN (.i k3))::oc::(oN (.v [jI x27.Kind]))::oa::(cs 2 (oF::oc::(oN (.i k3))::oc::(oN (.v [jI x27.Part]))::oa::(cs 2 [oF,oc,oN (.i k3),oc,oN (.v [jI x27.Part]),oa,oc]))))) (fun γ=>k2 (ir (G0 γ)) (k2 (GD (f:=GA.enc) (z:=1) (fun _=>rfl) (G0 γ)) (k2 (GL (f:=GA.enc) (z:=2) (j:=k3) (a:=0) (n:=1) (fun _=>rfl) (G0 γ) (by decide) rfl) (k2 (dF γ.1.1.2) (k2 (ir (G0 γ)) (k2 (GD (f:=GA.enc) (z:=1) (fun _=>rfl) (G0 γ)) (k2 (GL (f:=GA.enc) (z:=2) (j:=k3) (a:=0) (n:=1) (fun _=>rfl) (G0 γ) (by decide) rfl) (k2 (dF γ.1.2) (k2 (ir (G0 γ)) (k2 (GD (f:=GA.enc) (z:=1) (fun _=>rfl) (G0 γ)) (k2 (GL (f:=GA.enc) (z:=2) (j:=k3) (a:=1) (n:=1) (fun _=>rfl) (G0 γ) (by decide) rfl) (k2 (dF γ.2) (k2 (ir (G0 γ)) (k2 (GD (f:=GA.enc) (z:=1) (fun _=>rfl) (G0 γ)) (Gb (GL (f:=GA.enc) (z:=2) (j:=k3) (a:=1) (n:=1) (fun _=>rfl) (G0 γ) (by decide) rfl)))))))))))))))) <|
  .sp (x27.Part>(1000:Int))
  (.run [bt,oc] (fun γ=>Gb (dT γ.2)) <|
  .leaf (.inr (.inl 1)) [])
  (.run [bf,oc] (fun γ=>Gb (dF γ.2)) <|
  .bd (lp (Mg l_0 k3) (0:Nat)) fun qq=>.cs qq (fun o33=>.run [.fcut 0 .ret [(2,jI 9)] [] [] [(0,.any),(3,.any),(4,jI (↑(0:Nat):Int))] []] (fun γ=>k2 (rfl:(jI 0:AV)=jI (↑(0:Nat):Int)) (Gb (GcV l_0 k3 (s:=(0:Nat)) (r:=Sum.inl o33) (eS γ.1.2 γ.2)))) <|
  .leaf (.inr (.inl 9)) [])
  (fun o33=>.run [.fcut 0 (.exit 2) (Gbd l_0 k3 (Sum.inr (o33))) [] [] [(0,.any),(3,.any),(4,jI (↑(0:Nat):Int))] []] (fun γ=>k2 (rfl:(jI 0:AV)=jI (↑(0:Nat):Int)) (Gb (GcV l_0 k3 (s:=(0:Nat)) (r:=Sum.inr (o33)) (eS γ.1.2 γ.2)))) <|
  .gd (GS .i64 ((↑k3:Int)+1)) <| .run [oc,ow,oc] (fun γ=>Gb γ.2) <|
  .leaf (.inl (k3+1)) []))))))
  (.run [bf] (fun γ=>Gb (dF γ.2)) <|
  .leaf (.inr (.inr (()))) [])
def MZ (l_0:(List GA)):Nat→Option (Nat⊕(Int⊕Unit)):=fun s=>(YD l_0 s).den
def GjA (l_0:(List GA)):Nat→PS:=fun s=>(60,[(0,.lst (fl GA.enc l_0) l_0.length),(3,jI (↑s:Int))],[])
def GjC:(Int⊕Unit)→Hm:=fun q=>match q with | Sum.inl o=>.ret | Sum.inr (o)=>(.exit 0)
def GjB (l_0:(List GA)):(Int⊕Unit)→List (Nat×AV):=fun q=>match q with | Sum.inl o=>[(2,jI o)] | Sum.inr (o)=>[]
def Gjz (l_0:(List GA)):(Int⊕Unit)→List Hb:=fun _=>[]
theorem GeN (l_0:(List GA)) {s:Nat} {r:Int⊕Unit} (h:lp (MZ l_0) s=some r):DT 0 (.loop (GK Tryz.prog 39 [1,1,0,1,0,0])) (GjA l_0 s).st (GjC r) (PS.st (60,GjB l_0 r,Gjz l_0 r)):=
 GN.lp_ht 0 400 (GjA l_0) GjC (fun q=>(60,GjB l_0 q,Gjz l_0 q)) (YD l_0) (by intro k3; kernel_rfl) h
def Gkr (l_0:(List GA)):HT Int True:=.run (cs 3 [oa]) (fun _=>Hg) <|
  .sp ((↑l_0.length:Int)>(12:Int))
  (.run [bt,oc] (fun γ=>Gb (dT γ.2)) <|
  .leaf 3 [])
  (.run [bf,oc] (fun γ=>Gb (dF γ.2)) <|
  .bd (lp (MZ l_0) (0:Nat)) fun qq=>.cs qq (fun o2=>.run [.fcut 0 .ret [(2,jI o2)] [] [] [(0,.any),(3,jI (↑(0:Nat):Int))] []] (fun γ=>k2 (rfl:(jI 0:AV)=jI (↑(0:Nat):Int)) (Gb (GeN l_0 (s:=(0:Nat)) (r:=Sum.inl o2) (eS γ.1.2 γ.2)))) <|
  .leaf o2 [])
  (fun o2=>.run [.fcut 0 (.exit 0) [] [] [] [(0,.any),(3,jI (↑(0:Nat):Int))] [],oc] (fun γ=>k2 (rfl:(jI 0:AV)=jI (↑(0:Nat):Int)) (Gb (GeN l_0 (s:=(0:Nat)) (r:=Sum.inr (o2)) (eS γ.1.2 γ.2)))) <|
  .leaf 0 []))
def Gbc (l_0:(List GA)):Option Int:=(Gkr l_0).den
theorem Gat (l_0:(List GA)) (r:Int) (h:Gbc l_0=some r):RT 39 [.lst (fl GA.enc l_0) l_0.length] (jI r) []:=
 HA.of_ht 400 (Gkr l_0) (fun (r:Int)=>jI r) (fun (r:Int)=>[]) (by kernel_rfl) h
def YB (w_0:GO):Nat→HT (Nat⊕(Unit⊕Unit)) True
 | k3=>.run [oc,oa] (fun _=>Hg) <|
  .sp ((↑k3:Int)<(4:Int))
  (.run [bt] (fun γ=>Gb (dT γ.2)) <|
  .bd (w_0.Days[k3]?) fun x11=>.sp (x11<(1:Int))
  (.run (cs 3 ((oN (.i k3))::(vI x11)::oa::oc::tc::(cs 6 [bt,oc]))) (fun γ=>k2 (ir γ.1.2) (k2 (GD (f:=GU) (z:=0) (fun _=>rfl) γ.1.2) (k2 (H3 γ.1.2) (k2 (dT γ.2) (Gb tT))))) <|
  .leaf (.inr (.inl ())) [0])
  (.run (cs 3 ((oN (.i k3))::(vI x11)::oa::oc::oF::(cs 2 [oN (.i k3),vI x11,oa,oc]))) (fun γ=>k2 (ir γ.1.2) (k2 (GD (f:=GU) (z:=0) (fun _=>rfl) γ.1.2) (k2 (H3 γ.1.2) (k2 (dF γ.2) (k2 (ir γ.1.2) (k2 (GD (f:=GU) (z:=0) (fun _=>rfl) γ.1.2) (Gb (H3 γ.1.2)))))))) <|
  .sp (x11>(4096:Int))
  (.run [bt,oc] (fun γ=>Gb (dT γ.2)) <|
  .leaf (.inr (.inl ())) [0])
  (.run [bf] (fun γ=>Gb (dF γ.2)) <|
  .gd (GS .i64 ((↑k3:Int)+1)) <| .run [oc,ow,oc] (fun γ=>Gb γ.2) <|
  .leaf (.inl (k3+1)) [0])))
  (.run [bf] (fun γ=>Gb (dF γ.2)) <|
  .leaf (.inr (.inr (()))) [0])
def MX (w_0:GO):Nat→Option (Nat⊕(Unit⊕Unit)):=fun s=>(YB w_0 s).den
def Gjs (w_0:GO):Nat→PS:=fun s=>(59,[(1,.ptr 0 0),(3,jI (↑s:Int))],[(bT (GO.enc w_0) 43)])
def Gju:(Unit⊕Unit)→Hm:=fun q=>match q with | Sum.inl o=>.ret | Sum.inr (o)=>(.exit 0)
def Gjt (w_0:GO):(Unit⊕Unit)→List (Nat×AV):=fun q=>match q with | Sum.inl o=>[(2,jI 1)] | Sum.inr (o)=>[(1,.ptr 0 0)]
def Gjr (w_0:GO):(Unit⊕Unit)→List Hb:=fun _=>[(bT (GO.enc w_0) 43)]
theorem GeL (w_0:GO) {s:Nat} {r:Unit⊕Unit} (h:lp (MX w_0) s=some r):DT 1 (.loop (GK Tryz.prog 40 [1,1,0,1,0,0])) (Gjs w_0 s).st (Gju r) (PS.st (59,Gjt w_0 r,Gjr w_0 r)):=
 GN.lp_ht 1 400 (Gjs w_0) Gju (fun q=>(59,Gjt w_0 q,Gjr w_0 q)) (YB w_0) (by intro k3; kernel_rfl) h
def Xe (w_0:GO):Nat→HT (Nat⊕(Unit⊕Unit)) True
 | k4=>.run [oc,oa] (fun _=>Hg) <|
  .sp ((↑k4:Int)<(4:Int))
  (.run [bt] (fun γ=>Gb (dT γ.2)) <|
  .bd (w_0.Fees[k4]?) fun x24=>.sp (x24<(0:Int))
  (.run (cs 3 ((oN (.i k4))::(vI x24)::oa::oc::tc::(cs 6 [bt,oc]))) (fun γ=>k2 (ir γ.1.2) (k2 (GD (f:=GU) (z:=0) (fun _=>rfl) γ.1.2) (k2 (H3 γ.1.2) (k2 (dT γ.2) (Gb tT))))) <|
  .leaf (.inr (.inl ())) [0])
  (.run (cs 3 ((oN (.i k4))::(vI x24)::oa::oc::oF::(cs 2 [oN (.i k4),vI x24,oa,oc]))) (fun γ=>k2 (ir γ.1.2) (k2 (GD (f:=GU) (z:=0) (fun _=>rfl) γ.1.2) (k2 (H3 γ.1.2) (k2 (dF γ.2) (k2 (ir γ.1.2) (k2 (GD (f:=GU) (z:=0) (fun _=>rfl) γ.1.2) (Gb (H3 γ.1.2)))))))) <|
  .sp (x24>(2147483648:Int))
  (.run [bt,oc] (fun γ=>Gb (dT γ.2)) <|
  .leaf (.inr (.inl ())) [0])
  (.run [bf] (fun γ=>Gb (dF γ.2)) <|
  .gd (GS .i64 ((↑k4:Int)+1)) <| .run [oc,ow,oc] (fun γ=>Gb γ.2) <|
  .leaf (.inl (k4+1)) [0])))
  (.run [bf] (fun γ=>Gb (dF γ.2)) <|
  .leaf (.inr (.inr (()))) [0])
def Me (w_0:GO):Nat→Option (Nat⊕(Unit⊕Unit)):=fun s=>(Xe w_0 s).den
def Ghs (w_0:GO):Nat→PS:=fun s=>(59,[(1,.ptr 0 0),(4,jI (↑s:Int))],[(bT (GO.enc w_0) 43)])
def Ghu:(Unit⊕Unit)→Hm:=fun q=>match q with | Sum.inl o=>.ret | Sum.inr (o)=>(.exit 2)
def Ght (w_0:GO):(Unit⊕Unit)→List (Nat×AV):=fun q=>match q with | Sum.inl o=>[(2,jI 13)] | Sum.inr (o)=>[(1,.ptr 0 0)]
def Ghr (w_0:GO):(Unit⊕Unit)→List Hb:=fun _=>[(bT (GO.enc w_0) 43)]
theorem GcT (w_0:GO) {s:Nat} {r:Unit⊕Unit} (h:lp (Me w_0) s=some r):DT 1 (.loop (GK Tryz.prog 40 [1,1,1,0,1,0,0])) (Ghs w_0 s).st (Ghu r) (PS.st (59,Ght w_0 r,Ghr w_0 r)):=
 GN.lp_ht 1 400 (Ghs w_0) Ghu (fun q=>(59,Ght w_0 q,Ghr w_0 q)) (Xe w_0) (by intro k4; kernel_rfl) h
def Gkp (w_0:GO):HT Int True:=.run (cs 2 []) (fun _=>Hg) <|
  .sp ((↑w_0.Days.length:Int)=(4:Int))
  (.run (cs 3 (oa::oc::oF::(cs 2 [oa,oc]))) (fun γ=>Gb (Gx (Gu γ.2))) <|
  .sp ((↑w_0.Fees.length:Int)=(4:Int))
  (.run [bf,oc] (fun γ=>Gb (Gx (Gu γ.2))) <|
  .bd (lp (MX w_0) (0:Nat)) fun qq=>.cs qq (fun o3=>.run [.fcut 1 .ret [(2,jI 1)] [(bT (GO.enc w_0) 43)] [0] [(1,.any),(3,jI (↑(0:Nat):Int))] [bS]] (fun γ=>k2 (rfl:(jI 0:AV)=jI (↑(0:Nat):Int)) (Gb (GeL w_0 (s:=(0:Nat)) (r:=Sum.inl o3) (eS γ.1.2 γ.2)))) <|
  .leaf 1 [])
  (fun o3=>.run [.fcut 1 (.exit 0) [(1,.ptr 0 0)] [(bT (GO.enc w_0) 43)] [0] [(1,.any),(3,jI (↑(0:Nat):Int))] [bS],oc] (fun γ=>k2 (rfl:(jI 0:AV)=jI (↑(0:Nat):Int)) (Gb (GeL w_0 (s:=(0:Nat)) (r:=Sum.inr (o3)) (eS γ.1.2 γ.2)))) <|
  .bd (lp (Me w_0) (0:Nat)) fun qq=>.cs qq (fun o16=>.run [.fcut 1 .ret [(2,jI 13)] [(bT (GO.enc w_0) 43)] [0] [(1,.any),(4,jI (↑(0:Nat):Int))] [bS]] (fun γ=>k2 (rfl:(jI 0:AV)=jI (↑(0:Nat):Int)) (Gb (GcT w_0 (s:=(0:Nat)) (r:=Sum.inl o16) (eS γ.1.2 γ.2)))) <|
  .leaf 13 [])
  (fun o16=>.run [.fcut 1 (.exit 2) [(1,.ptr 0 0)] [(bT (GO.enc w_0) 43)] [0] [(1,.any),(4,jI (↑(0:Nat):Int))] [bS]] (fun γ=>k2 (rfl:(jI 0:AV)=jI (↑(0:Nat):Int)) (Gb (GcT w_0 (s:=(0:Nat)) (r:=Sum.inr (o16)) (eS γ.1.2 γ.2)))) <|
  .sp (w_0.Limit<(1:Int))
  (.run (cs 2 (oa::oc::tc::(cs 3 [bt,oc]))) (fun γ=>k2 (dT γ.2) (Gb tT)) <|
  .leaf 12 [])
  (.run (cs 2 [oa,oc,oF,oc,oa,oc]) (fun γ=>Gb (dF γ.2)) <|
  .sp (w_0.Limit>(795363:Int))
  (.run [bt,oc] (fun γ=>Gb (dT γ.2)) <|
  .leaf 12 [])
  (.run [bf,oc] (fun γ=>Gb (dF γ.2)) <|
  .leaf 0 [])))))
  (.run [bt,oc] (fun γ=>Gb (Gy (Gz γ.2))) <|
  .leaf 3 []))
  (.run (cs 3 (oa::oc::tc::(cs 4 [bt,oc]))) (fun γ=>k2 (Gy (Gz γ.2)) (Gb tT)) <|
  .leaf 3 [])
def Ga9 (w_0:GO):Option Int:=(Gkp w_0).den
theorem Gar (w_0:GO) (r:Int) (h:Ga9 w_0=some r):RT 40 [.agg (GO.enc w_0)] (jI r) []:=
 HA.of_ht 400 (Gkp w_0) (fun (r:Int)=>jI r) (fun (r:Int)=>[]) (by kernel_rfl) h
def Xf (l_0:(List Gq)) (k3:Nat):Nat→HT (Nat⊕(Unit⊕Unit)) True
 | k4=>.run (cs 2 [oa]) (fun _=>Hg) <|
  .sp ((↑k4:Int)<(↑k3:Int))
  (.run [bt] (fun γ=>Gb (dT γ.2)) <|
  .bd (l_0[k4]?) fun x42=>.bd (l_0[k3]?) fun x44=>.run (cs 2 ((oN (.i k4))::oc::(oN (.v [jI x42.Purpose]))::(cs 2 [oN (.i k3),oc,oN (.v [jI x44.Purpose]),oa]))) (fun γ=>k2 (ir γ.1.2) (k2 (GD (f:=Gq.enc) (z:=2) (fun _=>rfl) γ.1.2) (k2 (GL (f:=Gq.enc) (z:=3) (j:=k4) (a:=0) (n:=1) (fun _=>rfl) γ.1.2 (by decide) rfl) (k2 (ir γ.2) (k2 (GD (f:=Gq.enc) (z:=2) (fun _=>rfl) γ.2) (Gb (GL (f:=Gq.enc) (z:=3) (j:=k3) (a:=0) (n:=1) (fun _=>rfl) γ.2 (by decide) rfl))))))) <|
  .sp (x42.Purpose=x44.Purpose)
  (.run [bt,oc] (fun γ=>Gb (Gu γ.2)) <|
  .leaf (.inr (.inl ())) [])
  (.run [bf] (fun γ=>Gb (Gz γ.2)) <|
  .gd (GS .i64 ((↑k4:Int)+1)) <| .run [oc,ow,oc] (fun γ=>Gb γ.2) <|
  .leaf (.inl (k4+1)) []))
  (.run [bf] (fun γ=>Gb (dF γ.2)) <|
  .leaf (.inr (.inr (()))) [])
def Mf (l_0:(List Gq)) (k3:Nat):Nat→Option (Nat⊕(Unit⊕Unit)):=fun s=>(Xf l_0 k3 s).den
def Ghw (l_0:(List Gq)) (k3:Nat):Nat→PS:=fun s=>(74,[(0,.lst (fl Gq.enc l_0) l_0.length),(3,jI (↑k3:Int)),(4,jI (↑s:Int))],[])
def Ghx:(Unit⊕Unit)→Hm:=fun q=>match q with | Sum.inl o=>.ret | Sum.inr (o)=>(.exit 2)
def Gbb (l_0:(List Gq)) (k3:Nat):(Unit⊕Unit)→List (Nat×AV):=fun q=>match q with | Sum.inl o=>[(2,jI 9)] | Sum.inr (o)=>[(0,.lst (fl Gq.enc l_0) l_0.length),(3,jI (↑k3:Int))]
def Ghv (l_0:(List Gq)) (k3:Nat):(Unit⊕Unit)→List Hb:=fun _=>[]
theorem GcU (l_0:(List Gq)) (k3:Nat) {s:Nat} {r:Unit⊕Unit} (h:lp (Mf l_0 k3) s=some r):DT 0 (.loop (GK Tryz.prog 41 [1,1,0,1,0,0,1,0,0,1,0,1,0,0])) (Ghw l_0 k3 s).st (Ghx r) (PS.st (74,Gbb l_0 k3 r,Ghv l_0 k3 r)):=
 GN.lp_ht 0 400 (Ghw l_0 k3) Ghx (fun q=>(74,Gbb l_0 k3 q,Ghv l_0 k3 q)) (Xf l_0 k3) (by intro k4; kernel_rfl) h
def YC (l_0:(List Gq)):Nat→HT (Nat⊕(Int⊕Unit)) True
 | k3=>.run (cs 3 [oa]) (fun _=>Hg) <|
  .sp ((↑k3:Int)<(↑l_0.length:Int))
  (.run [bt] (fun γ=>Gb (dT γ.2)) <|
  .bd (l_0[k3]?) fun x29=>.sp (x29.Purpose<(1:Int))
  (.run (cs 2 ((oN (.i k3))::oc::(oN (.v [jI x29.Purpose]))::oa::oc::tc::(cs 6 [bt,oc]))) (fun γ=>k2 (ir γ.1.2) (k2 (GD (f:=Gq.enc) (z:=2) (fun _=>rfl) γ.1.2) (k2 (GL (f:=Gq.enc) (z:=3) (j:=k3) (a:=0) (n:=1) (fun _=>rfl) γ.1.2 (by decide) rfl) (k2 (dT γ.2) (Gb tT))))) <|
  .leaf (.inr (.inl 1)) [])
  (.run (cs 2 [oN (.i k3),oc,oN (.v [jI x29.Purpose]),oa,oc,oF,oc,oN (.i k3),oc,oN (.v [jI x29.Purpose]),oa,oc]) (fun γ=>k2 (ir γ.1.2) (k2 (GD (f:=Gq.enc) (z:=2) (fun _=>rfl) γ.1.2) (k2 (GL (f:=Gq.enc) (z:=3) (j:=k3) (a:=0) (n:=1) (fun _=>rfl) γ.1.2 (by decide) rfl) (k2 (dF γ.2) (k2 (ir γ.1.2) (k2 (GD (f:=Gq.enc) (z:=2) (fun _=>rfl) γ.1.2) (Gb (GL (f:=Gq.enc) (z:=3) (j:=k3) (a:=0) (n:=1) (fun _=>rfl) γ.1.2 (by decide) rfl)))))))) <|
  .sp (x29.Purpose>(4:Int))
  (.run [bt,oc] (fun γ=>Gb (dT γ.2)) <|
  .leaf (.inr (.inl 1)) [])
  (.run [bf,oc] (fun γ=>Gb (dF γ.2)) <|
  .bd (lp (Mf l_0 k3) (0:Nat)) fun qq=>.cs qq (fun o33=>.run [.fcut 0 .ret [(2,jI 9)] [] [] [(0,.any),(3,.any),(4,jI (↑(0:Nat):Int))] []] (fun γ=>k2 (rfl:(jI 0:AV)=jI (↑(0:Nat):Int)) (Gb (GcU l_0 k3 (s:=(0:Nat)) (r:=Sum.inl o33) (eS γ.1.2 γ.2)))) <|
  .leaf (.inr (.inl 9)) [])
  (fun o33=>.run [.fcut 0 (.exit 2) (Gbb l_0 k3 (Sum.inr (o33))) [] [] [(0,.any),(3,.any),(4,jI (↑(0:Nat):Int))] []] (fun γ=>k2 (rfl:(jI 0:AV)=jI (↑(0:Nat):Int)) (Gb (GcU l_0 k3 (s:=(0:Nat)) (r:=Sum.inr (o33)) (eS γ.1.2 γ.2)))) <|
  .sp (x29.Seconds<(0:Int))
  (.run (cs 2 ((oN (.i k3))::oc::(oN (.v [jI x29.Seconds]))::oa::oc::tc::(cs 22 [bt,oc]))) (fun γ=>k2 (ir (RA γ)) (k2 (GD (f:=Gq.enc) (z:=2) (fun _=>rfl) (RA γ)) (k2 (GL (f:=Gq.enc) (z:=3) (j:=k3) (a:=1) (n:=1) (fun _=>rfl) (RA γ) (by decide) rfl) (k2 (dT γ.2) (Gb tT))))) <|
  .leaf (.inr (.inl 12)) [])
  (.sp (x29.Seconds>(68719476736:Int))
  (.run (cs 2 ((oN (.i k3))::oc::(oN (.v [jI x29.Seconds]))::oa::oc::oF::oc::(oN (.i k3))::oc::(oN (.v [jI x29.Seconds]))::oa::(cs 2 (tc::(cs 14 [bt,oc]))))) (fun γ=>k2 (ir (yA6 γ)) (k2 (GD (f:=Gq.enc) (z:=2) (fun _=>rfl) (yA6 γ)) (k2 (GL (f:=Gq.enc) (z:=3) (j:=k3) (a:=1) (n:=1) (fun _=>rfl) (yA6 γ) (by decide) rfl) (k2 (dF γ.1.2) (k2 (ir (yA6 γ)) (k2 (GD (f:=Gq.enc) (z:=2) (fun _=>rfl) (yA6 γ)) (k2 (GL (f:=Gq.enc) (z:=3) (j:=k3) (a:=1) (n:=1) (fun _=>rfl) (yA6 γ) (by decide) rfl) (k2 (dT γ.2) (Gb tT))))))))) <|
  .leaf (.inr (.inl 12)) [])
  (.sp (x29.Least<(0:Int))
  (.run (cs 2 ((oN (.i k3))::oc::(oN (.v [jI x29.Seconds]))::oa::oc::oF::oc::(oN (.i k3))::oc::(oN (.v [jI x29.Seconds]))::oa::(cs 2 (oF::oc::(oN (.i k3))::oc::(oN (.v [jI x29.Least]))::oa::(cs 2 (tc::(cs 6 [bt,oc]))))))) (fun γ=>k2 (ir (RB γ)) (k2 (GD (f:=Gq.enc) (z:=2) (fun _=>rfl) (RB γ)) (k2 (GL (f:=Gq.enc) (z:=3) (j:=k3) (a:=1) (n:=1) (fun _=>rfl) (RB γ) (by decide) rfl) (k2 (dF γ.1.1.2) (k2 (ir (RB γ)) (k2 (GD (f:=Gq.enc) (z:=2) (fun _=>rfl) (RB γ)) (k2 (GL (f:=Gq.enc) (z:=3) (j:=k3) (a:=1) (n:=1) (fun _=>rfl) (RB γ) (by decide) rfl) (k2 (dF γ.1.2) (k2 (ir (RB γ)) (k2 (GD (f:=Gq.enc) (z:=2) (fun _=>rfl) (RB γ)) (k2 (GL (f:=Gq.enc) (z:=3) (j:=k3) (a:=2) (n:=1) (fun _=>rfl) (RB γ) (by decide) rfl) (k2 (dT γ.2) (Gb tT))))))))))))) <|
  .leaf (.inr (.inl 12)) [])
  (.run (cs 2 ((oN (.i k3))::oc::(oN (.v [jI x29.Seconds]))::oa::oc::oF::oc::(oN (.i k3))::oc::(oN (.v [jI x29.Seconds]))::oa::(cs 2 (oF::oc::(oN (.i k3))::oc::(oN (.v [jI x29.Least]))::oa::(cs 2 [oF,oc,oN (.i k3),oc,oN (.v [jI x29.Least]),oa,oc]))))) (fun γ=>k2 (ir (RB γ)) (k2 (GD (f:=Gq.enc) (z:=2) (fun _=>rfl) (RB γ)) (k2 (GL (f:=Gq.enc) (z:=3) (j:=k3) (a:=1) (n:=1) (fun _=>rfl) (RB γ) (by decide) rfl) (k2 (dF γ.1.1.2) (k2 (ir (RB γ)) (k2 (GD (f:=Gq.enc) (z:=2) (fun _=>rfl) (RB γ)) (k2 (GL (f:=Gq.enc) (z:=3) (j:=k3) (a:=1) (n:=1) (fun _=>rfl) (RB γ) (by decide) rfl) (k2 (dF γ.1.2) (k2 (ir (RB γ)) (k2 (GD (f:=Gq.enc) (z:=2) (fun _=>rfl) (RB γ)) (k2 (GL (f:=Gq.enc) (z:=3) (j:=k3) (a:=2) (n:=1) (fun _=>rfl) (RB γ) (by decide) rfl) (k2 (dF γ.2) (k2 (ir (RB γ)) (k2 (GD (f:=Gq.enc) (z:=2) (fun _=>rfl) (RB γ)) (Gb (GL (f:=Gq.enc) (z:=3) (j:=k3) (a:=2) (n:=1) (fun _=>rfl) (RB γ) (by decide) rfl)))))))))))))))) <|
  .sp (x29.Least>(68719476736:Int))
  (.run [bt,oc] (fun γ=>Gb (dT γ.2)) <|
  .leaf (.inr (.inl 12)) [])
  (.run [bf] (fun γ=>Gb (dF γ.2)) <|
  .gd (GS .i64 ((↑k3:Int)+1)) <| .run [oc,ow,oc] (fun γ=>Gb γ.2) <|
  .leaf (.inl (k3+1)) []))))))))
  (.run [bf] (fun γ=>Gb (dF γ.2)) <|
  .leaf (.inr (.inr (()))) [])
def MY (l_0:(List Gq)):Nat→Option (Nat⊕(Int⊕Unit)):=fun s=>(YC l_0 s).den
def Gjw (l_0:(List Gq)):Nat→PS:=fun s=>(74,[(0,.lst (fl Gq.enc l_0) l_0.length),(3,jI (↑s:Int))],[])
def Gjy:(Int⊕Unit)→Hm:=fun q=>match q with | Sum.inl o=>.ret | Sum.inr (o)=>(.exit 0)
def Gjx (l_0:(List Gq)):(Int⊕Unit)→List (Nat×AV):=fun q=>match q with | Sum.inl o=>[(2,jI o)] | Sum.inr (o)=>[]
def Gjv (l_0:(List Gq)):(Int⊕Unit)→List Hb:=fun _=>[]
theorem GeM (l_0:(List Gq)) {s:Nat} {r:Int⊕Unit} (h:lp (MY l_0) s=some r):DT 0 (.loop (GK Tryz.prog 41 [1,1,0,1,0,0])) (Gjw l_0 s).st (Gjy r) (PS.st (74,Gjx l_0 r,Gjv l_0 r)):=
 GN.lp_ht 0 400 (Gjw l_0) Gjy (fun q=>(74,Gjx l_0 q,Gjv l_0 q)) (YC l_0) (by intro k3; kernel_rfl) h
def Gkq (l_0:(List Gq)):HT Int True:=.run (cs 3 [oa]) (fun _=>Hg) <|
  .sp ((↑l_0.length:Int)>(4:Int))
  (.run [bt,oc] (fun γ=>Gb (dT γ.2)) <|
  .leaf 3 [])
  (.run [bf,oc] (fun γ=>Gb (dF γ.2)) <|
  .bd (lp (MY l_0) (0:Nat)) fun qq=>.cs qq (fun o2=>.run [.fcut 0 .ret [(2,jI o2)] [] [] [(0,.any),(3,jI (↑(0:Nat):Int))] []] (fun γ=>k2 (rfl:(jI 0:AV)=jI (↑(0:Nat):Int)) (Gb (GeM l_0 (s:=(0:Nat)) (r:=Sum.inl o2) (eS γ.1.2 γ.2)))) <|
  .leaf o2 [])
  (fun o2=>.run [.fcut 0 (.exit 0) [] [] [] [(0,.any),(3,jI (↑(0:Nat):Int))] [],oc] (fun γ=>k2 (rfl:(jI 0:AV)=jI (↑(0:Nat):Int)) (Gb (GeM l_0 (s:=(0:Nat)) (r:=Sum.inr (o2)) (eS γ.1.2 γ.2)))) <|
  .leaf 0 []))
def Gba (l_0:(List Gq)):Option Int:=(Gkq l_0).den
theorem Gas (l_0:(List Gq)) (r:Int) (h:Gba l_0=some r):RT 41 [.lst (fl Gq.enc l_0) l_0.length] (jI r) []:=
 HA.of_ht 400 (Gkq l_0) (fun (r:Int)=>jI r) (fun (r:Int)=>[]) (by kernel_rfl) h
end
set_option maxHeartbeats 4000000
noncomputable section
def Gu5 (l:List GA) (k:Nat) (x:GA):Option Int:=
 if x.Kind<0∨x.Kind>3∨x.Part<0∨x.Part>1000 then some 1 else if (l.take k).any (fun y=>decide (y.Kind=x.Kind)) then some 9 else none
def Gr1 (l:List GA):Int:=if l.length>12 then 3 else (GJ (Gu5 l) 0 l).getD 0
theorem GnQ (l:List GA):Gay l=some (Gr1 l):=by
 simp only [Gay,GbK,dA,Gr1]
 by_cases hl:l.length>12
 ·rw [if_pos (by omega),if_pos hl]
 rw [if_neg (by omega),if_neg hl]
 have hs:Sm l:=by show _≤_; omega
 have key:=GhN (l:=l) (mk:=fun k b=>(k,b)) (step:=Ka l) (g:=Gu5 l) (out:=fst) (J:=fun _=>True)
  (fun k b=>b.length=4∧∀ n:Nat,n<4→b[n]?=some ((l.take k).any fun y=>decide (y.Kind=(n:Int))))
  (fun k x b hx hb=>?_) (fun b hb=>?_) (b:=[false,false,false,false]) (by constructor; rfl; intro n hn; match n,hn with | 0,_=>rfl | 1,_=>rfl | 2,_=>rfl | 3,_=>rfl)
 ·cases he:GJ (Gu5 l) 0 l with
  | some r=>
   obtain ⟨q,h1,h2⟩:=key.1 r he
   rw [h1]; simp only [Hd,eN,d1,Option.getD_some,h2]
  | none=>
   obtain ⟨q,h1,_⟩:=key.2 he
   rw [h1]; simp only [Hd,eM,d1,Option.getD_none]
 ·obtain ⟨hk,i1,i2,hkl,h1,h2⟩:=rd hs hx
  clear hs
  simp only [Ka,QX,dA,hx,Hd,i1,if_true,hkl,Gu5]
  clear i1 i2
  by_cases c1:x.Kind<0∨x.Kind>3∨x.Part<0∨x.Part>1000
  ·rw [if_pos c1]
   exact .inl ⟨1,(1,b),rfl,by grind,rfl⟩
  rw [if_neg c1]
  have c3:x.Kind.toNat<4:=by omega
  have hbn:=hb.2 x.Kind.toNat c3
  have c4:((x.Kind.toNat:Nat):Int)=x.Kind:=by omega
  rw [c4] at hbn
  rcases Hk ((l.take k).any fun y=>decide (y.Kind=x.Kind)) with hd | hd
  ·rw [hd] at hbn
   simp only [hd,if_true]
   exact .inl ⟨9,(9,b),rfl,by grind,rfl⟩
  ·rw [hd] at hbn
   simp only [hd,if_false,Bool.false_eq_true]
   refine .inr ⟨trivial,b.set x.Kind.toNat true,by grind,by rw [List.length_set]; exact hb.1,fun n hn=>?_⟩
   rw [List.getElem?_set,Ggi hx]
   by_cases e:x.Kind.toNat=n
   ·subst e
    rw [if_pos rfl,if_pos (by rw [hb.1]; exact c3),c4]
    simp
   ·rw [if_neg e,hb.2 n hn,show decide (x.Kind=(n:Int))=false from dF (by omega),Bool.or_false]
 ·refine ⟨b,?_,trivial⟩
  simp only [Ka,QX,d3,d6,d1]
  rw [if_neg (by omega)]
theorem Gpr (l:List GA):Gbc l=some (Gr1 l):=by
 simp only [Gbc,Gkr,dA,Gr1]
 by_cases hl:l.length>12
 ·rw [if_pos (by omega),if_pos hl]
 rw [if_neg (by omega),if_neg hl]
 have hs:Sm l:=by show _≤_; omega
 have key:lp (MZ l) 0=some (HQ (GJ (Gu5 l) 0 l)):=by
  refine GP (fun k x hx=>?_) ?_
  ·obtain ⟨hk,i1,i2,hkl,h1,h2⟩:=rd hs hx
   have hq:lp (Mg l k) 0=some (HQ (if (l.take k).any (fun y=>decide (y.Kind=x.Kind)) then some () else none)):=by
    rw [← Hq (l.take k) 0]
    refine JW (l:=l) (n:=k) (by omega) (fun j y hj hy=>?_) ?_
    ·obtain ⟨_,i3,_,_,_,_⟩:=rd hs hy
     have hjk:(j:Int)<(k:Int):=by omega
     simp only [Mg,Xg,dA,hx,hy,Hd,i3,if_true,hjk]
     clear i1 i2 i3 hs
     grind [K0]
    ·simp only [Mg,Xg,d3,d6,d1]
     rw [if_neg (by omega)]
   simp only [MZ,YD,dA,hx,hq,Hd,i1,if_true,hkl,Gu5]
   clear i1 i2 hs hq
   rcases Hk ((l.take k).any fun y=>decide (y.Kind=x.Kind)) with hh | hh <;> simp only [hh,HQ,eN,eM,if_true,if_false,Bool.false_eq_true] <;> grind [K0]
  ·simp only [MZ,YD,d3,d6,d1]
   rw [if_neg (by omega)]
 rw [key]
 cases GJ (Gu5 l) 0 l <;> rfl
def GoS (w:GO):Int:=
 if w.Days.length≠4∨w.Fees.length≠4 then 3 else if w.Days.any (fun x=>decide (x<1∨x>4096)) then 1
 else if w.Fees.any (fun x=>decide (x<0∨x>2147483648)) then 13 else if w.Limit<1∨w.Limit>795363 then 12 else 0
theorem GnJ (w:GO):Gaw w=some (GoS w):=by
 simp only [Gaw,Gbr,dA,GoS]
 by_cases h1:w.Days.length=4∧w.Fees.length=4
 rotate_left
 ·grind
 rw [if_pos (by omega),if_pos (by omega),if_neg (show ¬ (w.Days.length≠4∨w.Fees.length≠4) by omega)]
 have hd:Sm w.Days:=by show _≤_; omega
 have hf:Sm w.Fees:=by show _≤_; omega
 have k1:lp (J8 w) 0=some (HQ (if w.Days.any (fun x=>decide (x<1∨x>4096)) then some () else none)):=by
  rw [← Hq w.Days 0]
  refine GP (fun k x hx=>?_) ?_
  ·obtain ⟨hk,i1,i2,hkl,h1,h2⟩:=rd hd hx
   simp only [J8,QV,dA,hx,Hd,i1,if_true,hkl]
   clear i1 i2 hd hf
   grind [K0]
  ·simp only [J8,QV,d3,d6,d1]
   rw [if_neg (by omega)]
 have k2:lp (JH w) 0=some (HQ (if w.Fees.any (fun x=>decide (x<0∨x>2147483648)) then some () else none)):=by
  rw [← Hq w.Fees 0]
  refine GP (fun k x hx=>?_) ?_
  ·obtain ⟨hk,i1,i2,hkl,h1,h2⟩:=rd hf hx
   simp only [JH,Qd,dA,hx,Hd,i1,if_true,hkl]
   clear i1 i2 hd hf
   grind [K0]
  ·simp only [JH,Qd,d3,d6,d1]
   rw [if_neg (by omega)]
 simp only [k1,k2,Hd]
 clear hd hf k1 k2
 rcases Hk (w.Days.any fun x=>decide (x<1∨x>4096)) with ha | ha <;> rcases Hk (w.Fees.any fun x=>decide (x<0∨x>2147483648)) with hb | hb <;> simp only [ha,hb,HQ,eN,eM,Hd,if_true,if_false,Bool.false_eq_true] <;> clear ha hb <;> grind
theorem Gpp (w:GO):Ga9 w=some (GoS w):=by
 simp only [Ga9,Gkp,dA,GoS]
 by_cases h1:w.Days.length=4∧w.Fees.length=4
 rotate_left
 ·grind
 rw [if_pos (by omega),if_pos (by omega),if_neg (show ¬ (w.Days.length≠4∨w.Fees.length≠4) by omega)]
 have hd:Sm w.Days:=by show _≤_; omega
 have hf:Sm w.Fees:=by show _≤_; omega
 have k1:lp (MX w) 0=some (HQ (if w.Days.any (fun x=>decide (x<1∨x>4096)) then some () else none)):=by
  rw [← Hq w.Days 0]
  refine GP (fun k x hx=>?_) ?_
  ·obtain ⟨hk,i1,i2,hkl,h3,h2⟩:=rd hd hx
   have hk4:(k:Int)<4:=by omega
   simp only [MX,YB,dA,hx,Hd,i1,if_true,hk4]
   clear i1 i2 hd hf
   grind [K0]
  ·simp only [MX,YB,d3,d6,d1]
   rw [if_neg (by omega)]
 have k2:lp (Me w) 0=some (HQ (if w.Fees.any (fun x=>decide (x<0∨x>2147483648)) then some () else none)):=by
  rw [← Hq w.Fees 0]
  refine GP (fun k x hx=>?_) ?_
  ·obtain ⟨hk,i1,i2,hkl,h3,h2⟩:=rd hf hx
   have hk4:(k:Int)<4:=by omega
   simp only [Me,Xe,dA,hx,Hd,i1,if_true,hk4]
   clear i1 i2 hd hf
   grind [K0]
  ·simp only [Me,Xe,d3,d6,d1]
   rw [if_neg (by omega)]
 simp only [k1,k2,Hd]
 clear hd hf k1 k2
 rcases Hk (w.Days.any fun x=>decide (x<1∨x>4096)) with ha | ha <;> rcases Hk (w.Fees.any fun x=>decide (x<0∨x>2147483648)) with hb | hb <;> simp only [ha,hb,HQ,eN,eM,Hd,if_true,if_false,Bool.false_eq_true] <;> clear ha hb <;> grind
def Gs1 (l:List Gq) (k:Nat) (x:Gq):Option Int:=
 if x.Purpose<1∨x.Purpose>4 then some 1 else if (l.take k).any (fun y=>decide (y.Purpose=x.Purpose)) then some 9
 else if x.Seconds<0∨x.Seconds>68719476736∨x.Least<0∨x.Least>68719476736 then some 12 else none
def GrP (l:List Gq):Int:=if l.length>4 then 3 else (GJ (Gs1 l) 0 l).getD 0
theorem GnR (l:List Gq):Gaz l=some (GrP l):=by
 simp only [Gaz,GbL,dA,GrP]
 by_cases hl:l.length>4
 ·rw [if_pos (by omega),if_pos hl]
 rw [if_neg (by omega),if_neg hl]
 have hs:Sm l:=by show _≤_; omega
 have key:(∀ r,GJ (Gs1 l) 0 l=some r→∃ q,lp (Jl l) (0,[])=some (.inl q)∧q.1=r)∧(GJ (Gs1 l) 0 l=none→∃ q,lp (Jl l) (0,[])=some (.inr q)∧True):=by
  refine GlH (l:=l) (mk:=fun k b=>(k,b)) fst (fun _ x r b=>(r,if r=12 then Jb fst b (x.Purpose,true) else b)) (fun k x b=>Jb fst b (x.Purpose,true)) (fun _ _ _ _=>rfl)
   (fun k b=>GaO b (fun e=>(l.take k).any fun y=>decide (y.Purpose=e))) (fun k x b hx hb=>⟨?_,hb.put fun y=>Ggi hx _⟩) (fun b hb=>?_) (GaO.nil fun k=>rfl)
  ·obtain ⟨hk,i1,i2,hkl,h1,h2⟩:=rd hs hx
   have hb:=hb x.Purpose
   simp only at hb
   simp only [Jl,QZ,dA,hx,Hd,i1,if_true,hkl,hb,Gs1]
   clear i1 i2 hs hb
   rcases Hk ((l.take k).any fun y=>decide (y.Purpose=x.Purpose)) with hh | hh <;>
    simp only [hh,Option.isSome_some,Option.isSome_none,Hd,if_true,if_false,Bool.false_eq_true] <;> grind [GwU]
  ·refine ⟨b,?_,trivial⟩
   simp only [Jl,QZ,d3,d6,d1]
   rw [if_neg (by omega)]
 cases he:GJ (Gs1 l) 0 l with
 | some r=>
  obtain ⟨q,h1,h2⟩:=key.1 r he
  rw [h1]; simp only [Hd,eN,d1,Option.getD_some,h2]
 | none=>
  obtain ⟨q,h1,_⟩:=key.2 he
  rw [h1]; simp only [Hd,eM,d1,Option.getD_none]
theorem Gpq (l:List Gq):Gba l=some (GrP l):=by
 simp only [Gba,Gkq,dA,GrP]
 by_cases hl:l.length>4
 ·rw [if_pos (by omega),if_pos hl]
 rw [if_neg (by omega),if_neg hl]
 have hs:Sm l:=by show _≤_; omega
 have key:lp (MY l) 0=some (HQ (GJ (Gs1 l) 0 l)):=by
  refine GP (fun k x hx=>?_) ?_
  ·obtain ⟨hk,i1,i2,hkl,h1,h2⟩:=rd hs hx
   have hq:lp (Mf l k) 0=some (HQ (if (l.take k).any (fun y=>decide (y.Purpose=x.Purpose)) then some () else none)):=by
    rw [← Hq (l.take k) 0]
    refine JW (l:=l) (n:=k) (by omega) (fun j y hj hy=>?_) ?_
    ·obtain ⟨_,i3,_,_,_,_⟩:=rd hs hy
     have hjk:(j:Int)<(k:Int):=by omega
     simp only [Mf,Xf,dA,hx,hy,Hd,i3,if_true,hjk]
     clear i1 i2 i3 hs
     grind [K0]
    ·simp only [Mf,Xf,d3,d6,d1]
     rw [if_neg (by omega)]
   simp only [MY,YC,dA,hx,hq,Hd,i1,if_true,hkl,Gs1]
   clear i1 i2 hs hq
   rcases Hk ((l.take k).any fun y=>decide (y.Purpose=x.Purpose)) with hh | hh <;> simp only [hh,HQ,eN,eM,if_true,if_false,Bool.false_eq_true] <;> grind [K0]
  ·simp only [MY,YC,d3,d6,d1]
   rw [if_neg (by omega)]
 rw [key]
 cases GJ (Gs1 l) 0 l <;> rfl
end
end Go.Proofs.YtdifanfcaemokaaGreatDoor.Av
