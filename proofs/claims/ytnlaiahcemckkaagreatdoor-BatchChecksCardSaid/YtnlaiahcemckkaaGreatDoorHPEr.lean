import Derived.Test.YtnlaiahcemckkaaGreatDoorHPEd
open Prod (fst)
open Int (tdiv tmod)
set_option maxHeartbeats 4000000
set_option maxRecDepth 100000
set_option linter.unusedVariables false
set_option linter.unusedSimpArgs false
namespace Go.Proofs.YtnlaiahcemckkaaGreatDoor.Av
noncomputable section
open Go Go.Proofs
def Qj (l_0:(List GA)):(Nat×(List Bool))→HT ((Nat×(List Bool))⊕((Int×(List Bool))⊕(List Bool))) True
 | (k11,b0)=>.run [oa] (fun _=>He) <|
  .sp ((↑k11:Int)<(↑l_0.length:Int))
  (.run [bt] (fun γ=>Gb (dT γ.2)) <|
  .bd (l_0[k11]?) fun x30=>.run ((.op none (.i k11))::(.op none (.v [jI x30.Kind,jI x30.Part]))::(cs 2 [])) (fun γ=>k2 (ir γ.2) (k2 (GC (f:=GA.enc) (z:=1) (fun _=>rfl) γ.2) (Gb (GU (f:=GA.enc) (z:=2) (j:=k11) (fun _=>rfl) γ.2 rfl)))) <|
  .sp (x30.Kind<(0:Int))
  (.run (cs 2 (oa::oc::tc::(cs 13 [bt,oc]))) (fun γ=>k2 (dT γ.2) (Gb (rfl:true=true))) <|
  .leaf (Sum.inr (Sum.inl (1,b0))) [0])
  (.sp (x30.Kind>(3:Int))
  (.run (cs 2 (oa::oc::oF::oc::oa::(cs 2 (tc::(cs 8 [bt,oc]))))) (fun γ=>k2 (dF γ.1.2) (k2 (dT γ.2) (Gb (rfl:true=true)))) <|
  .leaf (Sum.inr (Sum.inl (1,b0))) [0])
  (.sp (x30.Part<(0:Int))
  (.run (cs 2 (oa::oc::oF::oc::oa::(cs 2 (oF::oc::oa::(cs 2 (tc::(cs 3 [bt,oc]))))))) (fun γ=>k2 (dF γ.1.1.2) (k2 (dF γ.1.2) (k2 (dT γ.2) (Gb (rfl:true=true))))) <|
  .leaf (Sum.inr (Sum.inl (1,b0))) [0])
  (.run (cs 2 (oa::oc::oF::oc::oa::(cs 2 (oF::oc::oa::(cs 2 [oF,oc,oa,oc]))))) (fun γ=>k2 (dF γ.1.1.2) (k2 (dF γ.1.2) (Gb (dF γ.2)))) <|
  .sp (x30.Part>(1000:Int))
  (.run [bt,oc] (fun γ=>Gb (dT γ.2)) <|
  .leaf (Sum.inr (Sum.inl (1,b0))) [0])
  (.run [bf] (fun γ=>Gb (dF γ.2)) <|
  .gd ((0:Int)≤x30.Kind) <| .gd ((Int.toNat x30.Kind)<4) <| .bd (b0[(Int.toNat x30.Kind)]?) fun x38=>.run (cs 2 [.op none (.i (Int.toNat x30.Kind)),.op none (.v [.bool x38])]) (fun γ=>k2 (iy γ.1.1.2 γ.1.2) (Gb (Gsb γ.2))) <|
  .sp (x38=true)
  (.run [bt,oc] (fun γ=>Gb γ.2) <|
  .leaf (Sum.inr (Sum.inl (9,b0))) [0])
  (.run (bf::(cs 2 [.op none (.i (Int.toNat x30.Kind)),oa,.tr (.eqc 0 (fl J1 (List.set b0 (Int.toNat x30.Kind) true)))])) (fun γ=>k2 ((eq_false_of_ne_true γ.2):x38=false) (k2 (iy γ.1.1.1.2 γ.1.1.2) (k2 (Gps γ.1.2) (Gb (Gqd true γ.1.2))))) <|
  .gd (GP .i64 ((↑k11:Int)+1)) <| .run [ow,oc] (fun γ=>Gb γ.2) <|
  .leaf (Sum.inl ((k11+1),(List.set b0 (Int.toNat x30.Kind) true))) [0]))))))
  (.run [bf] (fun γ=>Gb (dF γ.2)) <|
  .leaf (Sum.inr (Sum.inr (b0))) [0])
def JO (l_0:(List GA)):(Nat×(List Bool))→Option ((Nat×(List Bool))⊕((Int×(List Bool))⊕(List Bool))):=fun s=>(Qj l_0 s).den
def GbN (l_0:(List GA)):(Nat×(List Bool))→PS:=fun s=>(41,[(3,.ptr 0 0),(9,.lst (fl GA.enc l_0) l_0.length),(10,jI (↑l_0.length:Int)),(11,jI (↑s.1:Int))],[(bT (fl J1 s.2) 299)])
def Ga0:((Int×(List Bool))⊕(List Bool))→Hm:=fun q=>match q with | Sum.inl o=>.ret | Sum.inr (o)=>(.exit 0)
def Gb8 (l_0:(List GA)):((Int×(List Bool))⊕(List Bool))→List (Nat×AV):=fun q=>match q with | Sum.inl o=>[(2,jI o.1)] | Sum.inr (o)=>[]
def Gb5 (l_0:(List GA)):((Int×(List Bool))⊕(List Bool))→List G6:=fun q=>match q with | Sum.inl o=>[(bT (fl J1 o.2) 299)] | Sum.inr (o)=>[(bT (fl J1 o) 299)]
theorem X5 (l_0:(List GA)) {s:(Nat×(List Bool))} {r:(Int×(List Bool))⊕(List Bool)} (h:lp (JO l_0) s=some r):GI Tryz.prog GT 1 (.loop (GO Tryz.prog 99 [1,1,1,0,1,0,0])) (GbN l_0 s).st (Ga0 r) (PS.st (41,Gb8 l_0 r,Gb5 l_0 r)):=
 GI.lp_ht 1 400 (GbN l_0) Ga0 (fun q=>(41,Gb8 l_0 q,Gb5 l_0 q)) (Qj l_0) (by rintro ⟨k11,b0⟩; kernel_rfl) h
def Gad (l_0:(List GA)):HT Int True:=.run (cs 3 [oa]) (fun _=>He) <|
  .sp ((↑l_0.length:Int)>(12:Int))
  (.run [bt,oc] (fun γ=>Gb (dT γ.2)) <|
  .leaf 3 [])
  (.run (bf::(cs 4 [])) (fun γ=>Gb (dF γ.2)) <|
  .bd (lp (JO l_0) ((0:Nat),([false,false,false,false]:(List Bool)))) fun qq=>.cs qq (fun o2=>.run [.fcut 1 .ret [(2,jI o2.1)] [(bT (fl J1 o2.2) 299)] [0] [(3,.any),(9,.any),(10,.any),(11,jI (↑(0:Nat):Int))] [(bT (fl J1 ([false,false,false,false]:(List Bool))) 299)]] (fun γ=>k2 (rfl:(jI 0:AV)=jI (↑(0:Nat):Int)) (k2 (rfl:((bT [.bool false,.bool false,.bool false,.bool false] 299):G6)=MA [0] (bT (fl J1 ([false,false,false,false]:(List Bool))) 299)) (Gb (X5 l_0 (s:=((0:Nat),([false,false,false,false]:(List Bool)))) (r:=Sum.inl o2) (eS γ.1.2 γ.2))))) <|
  .leaf o2.1 [])
  (fun o2=>.run [.fcut 1 (.exit 0) [] [(bT (fl J1 o2) 299)] [0] [(3,.any),(9,.any),(10,.any),(11,jI (↑(0:Nat):Int))] [(bT (fl J1 ([false,false,false,false]:(List Bool))) 299)],oc] (fun γ=>k2 (rfl:(jI 0:AV)=jI (↑(0:Nat):Int)) (k2 (rfl:((bT [.bool false,.bool false,.bool false,.bool false] 299):G6)=MA [0] (bT (fl J1 ([false,false,false,false]:(List Bool))) 299)) (Gb (X5 l_0 (s:=((0:Nat),([false,false,false,false]:(List Bool)))) (r:=Sum.inr (o2)) (eS γ.1.2 γ.2))))) <|
  .leaf 0 []))
def Za (l_0:(List GA)):Option Int:=(Gad l_0).den
theorem Gdy (l_0:(List GA)) (r:Int) (h:Za l_0=some r):G5 Tryz.prog GT 99 [.lst (fl GA.enc l_0) l_0.length] (jI r) []:=
 G5.of_ht 400 (Gad l_0) (fun (r:Int)=>jI r) (fun (r:Int)=>[]) (by kernel_rfl) h
def Qv (w_0:GN):Nat→HT (Nat⊕(Unit⊕Unit)) True
 | k20=>.run [oa] (fun _=>He) <|
  .sp ((↑k20:Int)<(↑w_0.Days.length:Int))
  (.run [bt] (fun γ=>Gb (dT γ.2)) <|
  .bd (w_0.Days[k20]?) fun x11=>.run [.op none (.i k20),vI x11,oc] (fun γ=>k2 (ir γ.2) (k2 (GC (f:=Hc) (z:=0) (fun _=>rfl) γ.2) (Gb (HK γ.2)))) <|
  .sp (x11<(1:Int))
  (.run (oc::oa::oc::tc::(cs 2 [bt,oc])) (fun γ=>k2 (dT γ.2) (Gb (rfl:true=true))) <|
  .leaf (Sum.inr (Sum.inl ())) [0])
  (.run [oc,oa,oc,oF,oa,oc] (fun γ=>Gb (dF γ.2)) <|
  .sp (x11>(4096:Int))
  (.run [bt,oc] (fun γ=>Gb (dT γ.2)) <|
  .leaf (Sum.inr (Sum.inl ())) [0])
  (.run [bf] (fun γ=>Gb (dF γ.2)) <|
  .gd (GP .i64 ((↑k20:Int)+1)) <| .run [ow,oc] (fun γ=>Gb γ.2) <|
  .leaf (Sum.inl (k20+1)) [0])))
  (.run [bf] (fun γ=>Gb (dF γ.2)) <|
  .leaf (Sum.inr (Sum.inr (()))) [0])
def JL (w_0:GN):Nat→Option (Nat⊕(Unit⊕Unit)):=fun s=>(Qv w_0 s).den
def GbL (w_0:GN):Nat→PS:=fun s=>(53,[(1,.ptr 0 0),(18,.lst (fl Hc w_0.Days) w_0.Days.length),(19,jI (↑w_0.Days.length:Int)),(20,jI (↑s:Int))],[(bT (GN.enc w_0) 56)])
def Ga7:(Unit⊕Unit)→Hm:=fun q=>match q with | Sum.inl o=>.ret | Sum.inr (o)=>(.exit 0)
def Gbu (w_0:GN):(Unit⊕Unit)→List (Nat×AV):=fun q=>match q with | Sum.inl o=>[(2,jI 1)] | Sum.inr (o)=>[(1,.ptr 0 0)]
def GbP (w_0:GN):(Unit⊕Unit)→List G6:=fun q=>match q with | Sum.inl o=>[(bT (GN.enc w_0) 56)] | Sum.inr (o)=>[(bT (GN.enc w_0) 56)]
theorem X9 (w_0:GN) {s:Nat} {r:Unit⊕Unit} (h:lp (JL w_0) s=some r):GI Tryz.prog GT 1 (.loop (GO Tryz.prog 101 [1,1,0,1,0,0])) (GbL w_0 s).st (Ga7 r) (PS.st (53,Gbu w_0 r,GbP w_0 r)):=
 GI.lp_ht 1 400 (GbL w_0) Ga7 (fun q=>(53,Gbu w_0 q,GbP w_0 q)) (Qv w_0) (by intro k20; kernel_rfl) h
def MM (w_0:GN):Nat→HT (Nat⊕(Unit⊕Unit)) True
 | k34=>.run [oa] (fun _=>He) <|
  .sp ((↑k34:Int)<(↑w_0.Fees.length:Int))
  (.run [bt] (fun γ=>Gb (dT γ.2)) <|
  .bd (w_0.Fees[k34]?) fun x24=>.run [.op none (.i k34),vI x24,oc] (fun γ=>k2 (ir γ.2) (k2 (GC (f:=Hc) (z:=0) (fun _=>rfl) γ.2) (Gb (HK γ.2)))) <|
  .sp (x24<(0:Int))
  (.run (oc::oa::oc::tc::(cs 2 [bt,oc])) (fun γ=>k2 (dT γ.2) (Gb (rfl:true=true))) <|
  .leaf (Sum.inr (Sum.inl ())) [0])
  (.run [oc,oa,oc,oF,oa,oc] (fun γ=>Gb (dF γ.2)) <|
  .sp (x24>(2147483648:Int))
  (.run [bt,oc] (fun γ=>Gb (dT γ.2)) <|
  .leaf (Sum.inr (Sum.inl ())) [0])
  (.run [bf] (fun γ=>Gb (dF γ.2)) <|
  .gd (GP .i64 ((↑k34:Int)+1)) <| .run [ow,oc] (fun γ=>Gb γ.2) <|
  .leaf (Sum.inl (k34+1)) [0])))
  (.run [bf] (fun γ=>Gb (dF γ.2)) <|
  .leaf (Sum.inr (Sum.inr (()))) [0])
def Jt (w_0:GN):Nat→Option (Nat⊕(Unit⊕Unit)):=fun s=>(MM w_0 s).den
def Gaa (w_0:GN):Nat→PS:=fun s=>(53,[(1,.ptr 0 0),(32,.lst (fl Hc w_0.Fees) w_0.Fees.length),(33,jI (↑w_0.Fees.length:Int)),(34,jI (↑s:Int))],[(bT (GN.enc w_0) 56)])
def Gar:(Unit⊕Unit)→Hm:=fun q=>match q with | Sum.inl o=>.ret | Sum.inr (o)=>(.exit 2)
def Gas (w_0:GN):(Unit⊕Unit)→List (Nat×AV):=fun q=>match q with | Sum.inl o=>[(2,jI 13)] | Sum.inr (o)=>[(1,.ptr 0 0)]
def ZD (w_0:GN):(Unit⊕Unit)→List G6:=fun q=>match q with | Sum.inl o=>[(bT (GN.enc w_0) 56)] | Sum.inr (o)=>[(bT (GN.enc w_0) 56)]
theorem Vv (w_0:GN) {s:Nat} {r:Unit⊕Unit} (h:lp (Jt w_0) s=some r):GI Tryz.prog GT 1 (.loop (GO Tryz.prog 101 [1,1,1,0,1,0,0])) (Gaa w_0 s).st (Gar r) (PS.st (53,Gas w_0 r,ZD w_0 r)):=
 GI.lp_ht 1 400 (Gaa w_0) Gar (fun q=>(53,Gas w_0 q,ZD w_0 q)) (MM w_0) (by intro k34; kernel_rfl) h
def GaV (w_0:GN):HT Int True:=.run (cs 2 []) (fun _=>He) <|
  .sp ((↑w_0.Days.length:Int)=(4:Int))
  (.run (cs 3 (oa::oc::oF::(cs 2 [oa,oc]))) (fun γ=>Gb (Gs (Gp γ.2))) <|
  .sp ((↑w_0.Fees.length:Int)=(4:Int))
  (.run (bf::(cs 4 [])) (fun γ=>Gb (Gs (Gp γ.2))) <|
  .bd (lp (JL w_0) (0:Nat)) fun qq=>.cs qq (fun o3=>.run [.fcut 1 .ret [(2,jI 1)] [(bT (GN.enc w_0) 56)] [0] [(1,.any),(18,.any),(19,.any),(20,jI (↑(0:Nat):Int))] [bS]] (fun γ=>k2 (rfl:(jI 0:AV)=jI (↑(0:Nat):Int)) (Gb (X9 w_0 (s:=(0:Nat)) (r:=Sum.inl o3) (eS γ.1.2 γ.2)))) <|
  .leaf 1 [])
  (fun o3=>.run ((.fcut 1 (.exit 0) [(1,.ptr 0 0)] [(bT (GN.enc w_0) 56)] [0] [(1,.any),(18,.any),(19,.any),(20,jI (↑(0:Nat):Int))] [bS])::(cs 4 [])) (fun γ=>k2 (rfl:(jI 0:AV)=jI (↑(0:Nat):Int)) (Gb (X9 w_0 (s:=(0:Nat)) (r:=Sum.inr (o3)) (eS γ.1.2 γ.2)))) <|
  .bd (lp (Jt w_0) (0:Nat)) fun qq=>.cs qq (fun o16=>.run [.fcut 1 .ret [(2,jI 13)] [(bT (GN.enc w_0) 56)] [0] [(1,.any),(32,.any),(33,.any),(34,jI (↑(0:Nat):Int))] [bS]] (fun γ=>k2 (rfl:(jI 0:AV)=jI (↑(0:Nat):Int)) (Gb (Vv w_0 (s:=(0:Nat)) (r:=Sum.inl o16) (eS γ.1.2 γ.2)))) <|
  .leaf 13 [])
  (fun o16=>.run [.fcut 1 (.exit 2) [(1,.ptr 0 0)] [(bT (GN.enc w_0) 56)] [0] [(1,.any),(32,.any),(33,.any),(34,jI (↑(0:Nat):Int))] [bS]] (fun γ=>k2 (rfl:(jI 0:AV)=jI (↑(0:Nat):Int)) (Gb (Vv w_0 (s:=(0:Nat)) (r:=Sum.inr (o16)) (eS γ.1.2 γ.2)))) <|
  .sp (w_0.Limit<(1:Int))
  (.run (cs 2 (oa::oc::tc::(cs 3 [bt,oc]))) (fun γ=>k2 (dT γ.2) (Gb (rfl:true=true))) <|
  .leaf 12 [])
  (.run (cs 2 [oa,oc,oF,oc,oa,oc]) (fun γ=>Gb (dF γ.2)) <|
  .sp (w_0.Limit≥(795364:Int))
  (.run [bt,oc] (fun γ=>Gb (dT γ.2)) <|
  .leaf 12 [])
  (.run [bf,oc] (fun γ=>Gb (dF γ.2)) <|
  .leaf 0 [])))))
  (.run [bt,oc] (fun γ=>Gb (Gu (Gw γ.2))) <|
  .leaf 3 []))
  (.run (cs 3 (oa::oc::tc::(cs 4 [bt,oc]))) (fun γ=>k2 (Gu (Gw γ.2)) (Gb (rfl:true=true))) <|
  .leaf 3 [])
def Zt (w_0:GN):Option Int:=(GaV w_0).den
theorem VT (w_0:GN) (r:Int) (h:Zt w_0=some r):G5 Tryz.prog GT 101 [.agg (GN.enc w_0)] (jI r) []:=
 G5.of_ht 400 (GaV w_0) (fun (r:Int)=>jI r) (fun (r:Int)=>[]) (by kernel_rfl) h
def Qz (l_0:(List Gr)):(Nat×(List (Int×Bool)))→HT ((Nat×(List (Int×Bool)))⊕((Int×(List (Int×Bool)))⊕(List (Int×Bool)))) True
 | (k12,b0)=>.run [oa] (fun _=>He) <|
  .sp ((↑k12:Int)<(↑l_0.length:Int))
  (.run [bt] (fun γ=>Gb (dT γ.2)) <|
  .bd (l_0[k12]?) fun x42=>.run ((.op none (.i k12))::(.op none (.v [jI x42.Purpose,jI x42.Seconds,jI x42.Least]))::(cs 2 [])) (fun γ=>k2 (ir γ.2) (k2 (GC (f:=Gr.enc) (z:=2) (fun _=>rfl) γ.2) (Gb (GU (f:=Gr.enc) (z:=3) (j:=k12) (fun _=>rfl) γ.2 rfl)))) <|
  .sp (x42.Purpose<(1:Int))
  (.run (cs 2 (oa::oc::tc::(cs 3 [bt,oc]))) (fun γ=>k2 (dT γ.2) (Gb (rfl:true=true))) <|
  .leaf (Sum.inr (Sum.inl (1,b0))) [0])
  (.run (cs 2 [oa,oc,oF,oc,oa,oc]) (fun γ=>Gb (dF γ.2)) <|
  .sp (x42.Purpose>(4:Int))
  (.run [bt,oc] (fun γ=>Gb (dT γ.2)) <|
  .leaf (Sum.inr (Sum.inl (1,b0))) [0])
  (.run [bf] (fun γ=>Gb (dF γ.2)) <|
  .sp (((V0 fst b0 x42.Purpose).isSome)=true)
  (.bd (V0 fst b0 x42.Purpose) fun q47=>.run (cs 3 [.op none (.v [.bool q47.2])]) (fun γ=>Gb ((K2 UM (k:=x42.Purpose) (Glz x42.Purpose) γ.2):Ja (List.map J6 b0) (jI x42.Purpose)=some (.bool q47.2))) <|
  .sp (q47.2=true)
  (.run [bt,oc] (fun γ=>Gb γ.2) <|
  .leaf (Sum.inr (Sum.inl (9,b0))) [0])
  (.run (bf::(cs 4 [.tr (.mp 0 (List.map J6 (HU fst b0 (x42.Purpose,true))))])) (fun γ=>k2 ((eq_false_of_ne_true γ.2):q47.2=false) (Gb ((List.Perm.of_eq (Xl (κ:=fst) UM b0 (x42.Purpose,true))):List.Perm (YA (List.map J6 b0) (jI x42.Purpose) (.bool true)) (List.map J6 (HU fst b0 (x42.Purpose,true)))))) <|
  .sp (x42.Seconds<(0:Int))
  (.run (cs 2 (oa::oc::tc::(cs 13 [bt,oc]))) (fun γ=>k2 (dT γ.2) (Gb (rfl:true=true))) <|
  .leaf (Sum.inr (Sum.inl (12,(HU fst b0 (x42.Purpose,true))))) [0])
  (.sp (x42.Seconds>(68719476736:Int))
  (.run (cs 2 (oa::oc::oF::oc::oa::(cs 2 (tc::(cs 8 [bt,oc]))))) (fun γ=>k2 (dF γ.1.2) (k2 (dT γ.2) (Gb (rfl:true=true)))) <|
  .leaf (Sum.inr (Sum.inl (12,(HU fst b0 (x42.Purpose,true))))) [0])
  (.sp (x42.Least<(0:Int))
  (.run (cs 2 (oa::oc::oF::oc::oa::(cs 2 (oF::oc::oa::(cs 2 (tc::(cs 3 [bt,oc]))))))) (fun γ=>k2 (dF γ.1.1.2) (k2 (dF γ.1.2) (k2 (dT γ.2) (Gb (rfl:true=true))))) <|
  .leaf (Sum.inr (Sum.inl (12,(HU fst b0 (x42.Purpose,true))))) [0])
  (.run (cs 2 (oa::oc::oF::oc::oa::(cs 2 (oF::oc::oa::(cs 2 [oF,oc,oa,oc]))))) (fun γ=>k2 (dF γ.1.1.2) (k2 (dF γ.1.2) (Gb (dF γ.2)))) <|
  .sp (x42.Least>(68719476736:Int))
  (.run [bt,oc] (fun γ=>Gb (dT γ.2)) <|
  .leaf (Sum.inr (Sum.inl (12,(HU fst b0 (x42.Purpose,true))))) [0])
  (.run [bf] (fun γ=>Gb (dF γ.2)) <|
  .gd (GP .i64 ((↑k12:Int)+1)) <| .run [ow,oc] (fun γ=>Gb γ.2) <|
  .leaf (Sum.inl ((k12+1),(HU fst b0 (x42.Purpose,true)))) [0]))))))
  (.run (cs 3 ((.op none (.b false))::bf::(cs 4 [.tr (.mp 0 (List.map J6 (HU fst b0 (x42.Purpose,true))))]))) (fun γ=>k2 ((VR UM (k:=x42.Purpose) (Glz x42.Purpose) (GgI γ.2)):Ja (List.map J6 b0) (jI x42.Purpose)=none) (k2 (rfl:false=false) (Gb ((List.Perm.of_eq (Xl (κ:=fst) UM b0 (x42.Purpose,true))):List.Perm (YA (List.map J6 b0) (jI x42.Purpose) (.bool true)) (List.map J6 (HU fst b0 (x42.Purpose,true))))))) <|
  .sp (x42.Seconds<(0:Int))
  (.run (cs 2 (oa::oc::tc::(cs 13 [bt,oc]))) (fun γ=>k2 (dT γ.2) (Gb (rfl:true=true))) <|
  .leaf (Sum.inr (Sum.inl (12,(HU fst b0 (x42.Purpose,true))))) [0])
  (.sp (x42.Seconds>(68719476736:Int))
  (.run (cs 2 (oa::oc::oF::oc::oa::(cs 2 (tc::(cs 8 [bt,oc]))))) (fun γ=>k2 (dF γ.1.2) (k2 (dT γ.2) (Gb (rfl:true=true)))) <|
  .leaf (Sum.inr (Sum.inl (12,(HU fst b0 (x42.Purpose,true))))) [0])
  (.sp (x42.Least<(0:Int))
  (.run (cs 2 (oa::oc::oF::oc::oa::(cs 2 (oF::oc::oa::(cs 2 (tc::(cs 3 [bt,oc]))))))) (fun γ=>k2 (dF γ.1.1.2) (k2 (dF γ.1.2) (k2 (dT γ.2) (Gb (rfl:true=true))))) <|
  .leaf (Sum.inr (Sum.inl (12,(HU fst b0 (x42.Purpose,true))))) [0])
  (.run (cs 2 (oa::oc::oF::oc::oa::(cs 2 (oF::oc::oa::(cs 2 [oF,oc,oa,oc]))))) (fun γ=>k2 (dF γ.1.1.2) (k2 (dF γ.1.2) (Gb (dF γ.2)))) <|
  .sp (x42.Least>(68719476736:Int))
  (.run [bt,oc] (fun γ=>Gb (dT γ.2)) <|
  .leaf (Sum.inr (Sum.inl (12,(HU fst b0 (x42.Purpose,true))))) [0])
  (.run [bf] (fun γ=>Gb (dF γ.2)) <|
  .gd (GP .i64 ((↑k12:Int)+1)) <| .run [ow,oc] (fun γ=>Gb γ.2) <|
  .leaf (Sum.inl ((k12+1),(HU fst b0 (x42.Purpose,true)))) [0]))))))))
  (.run [bf] (fun γ=>Gb (dF γ.2)) <|
  .leaf (Sum.inr (Sum.inr (b0))) [0])
def H6 (l_0:(List Gr)):(Nat×(List (Int×Bool)))→Option ((Nat×(List (Int×Bool)))⊕((Int×(List (Int×Bool)))⊕(List (Int×Bool)))):=fun s=>(Qz l_0 s).den
def Gcf (l_0:(List Gr)):(Nat×(List (Int×Bool)))→PS:=fun s=>(50,[(3,.mapr 0),(10,.lst (fl Gr.enc l_0) l_0.length),(11,jI (↑l_0.length:Int)),(12,jI (↑s.1:Int))],[(bM (.i .i64) (List.map J6 s.2))])
def GaZ:((Int×(List (Int×Bool)))⊕(List (Int×Bool)))→Hm:=fun q=>match q with | Sum.inl o=>.ret | Sum.inr (o)=>(.exit 0)
def GbS (l_0:(List Gr)):((Int×(List (Int×Bool)))⊕(List (Int×Bool)))→List (Nat×AV):=fun q=>match q with | Sum.inl o=>[(2,jI o.1)] | Sum.inr (o)=>[]
def U9 (l_0:(List Gr)):((Int×(List (Int×Bool)))⊕(List (Int×Bool)))→List G6:=fun q=>match q with | Sum.inl o=>[(bM (.i .i64) (List.map J6 o.2))] | Sum.inr (o)=>[(bM (.i .i64) (List.map J6 o))]
theorem XJ (l_0:(List Gr)) {s:(Nat×(List (Int×Bool)))} {r:(Int×(List (Int×Bool)))⊕(List (Int×Bool))} (h:lp (H6 l_0) s=some r):GI Tryz.prog GT 1 (.loop (GO Tryz.prog 103 [1,1,1,0,1,0,0])) (Gcf l_0 s).st (GaZ r) (PS.st (50,GbS l_0 r,U9 l_0 r)):=
 GI.lp_ht 1 400 (Gcf l_0) GaZ (fun q=>(50,GbS l_0 q,U9 l_0 q)) (Qz l_0) (by rintro ⟨k12,b0⟩; kernel_rfl) h
def ZT (l_0:(List Gr)):HT Int True:=.run (cs 3 [oa]) (fun _=>He) <|
  .sp ((↑l_0.length:Int)>(4:Int))
  (.run [bt,oc] (fun γ=>Gb (dT γ.2)) <|
  .leaf 3 [])
  (.run (bf::(cs 5 [])) (fun γ=>Gb (dF γ.2)) <|
  .bd (lp (H6 l_0) ((0:Nat),([]:List (Int×Bool)))) fun qq=>.cs qq (fun o2=>.run [.fcut 1 .ret [(2,jI o2.1)] (U9 l_0 (Sum.inl o2)) [0] [(3,.any),(10,.any),(11,.any),(12,jI (↑(0:Nat):Int))] [bS]] (fun γ=>k2 (rfl:(jI 0:AV)=jI (↑(0:Nat):Int)) (Gb (XJ l_0 (s:=((0:Nat),([]:List (Int×Bool)))) (r:=Sum.inl o2) (eS γ.1.2 γ.2)))) <|
  .leaf o2.1 [])
  (fun o2=>.run [.fcut 1 (.exit 0) [] [(bM (.i .i64) (List.map J6 o2))] [0] [(3,.any),(10,.any),(11,.any),(12,jI (↑(0:Nat):Int))] [bS],oc] (fun γ=>k2 (rfl:(jI 0:AV)=jI (↑(0:Nat):Int)) (Gb (XJ l_0 (s:=((0:Nat),([]:List (Int×Bool)))) (r:=Sum.inr (o2)) (eS γ.1.2 γ.2)))) <|
  .leaf 0 []))
def Zj (l_0:(List Gr)):Option Int:=(ZT l_0).den
theorem Gc1 (l_0:(List Gr)) (r:Int) (h:Zj l_0=some r):G5 Tryz.prog GT 103 [.lst (fl Gr.enc l_0) l_0.length] (jI r) []:=
 G5.of_ht 400 (ZT l_0) (fun (r:Int)=>jI r) (fun (r:Int)=>[]) (by kernel_rfl) h
def Vo (l_0:(List GA)) (k3:Nat):Nat→HT (Nat⊕(Unit⊕Unit)) True
 | k4=>.run (cs 2 [oa]) (fun _=>He) <|
  .sp ((↑k4:Int)<(↑k3:Int))
  (.run [bt] (fun γ=>Gb (dT γ.2)) <|
  .bd (l_0[k4]?) fun x42=>.bd (l_0[k3]?) fun x44=>.run (cs 2 ((.op none (.i k4))::oc::(.op none (.v [jI x42.Kind]))::(cs 2 [.op none (.i k3),oc,.op none (.v [jI x44.Kind]),oa]))) (fun γ=>k2 (ir γ.1.2) (k2 (GC (f:=GA.enc) (z:=1) (fun _=>rfl) γ.1.2) (k2 (GL (f:=GA.enc) (z:=2) (j:=k4) (a:=0) (n:=1) (fun _=>rfl) γ.1.2 (by decide) rfl) (k2 (ir γ.2) (k2 (GC (f:=GA.enc) (z:=1) (fun _=>rfl) γ.2) (Gb (GL (f:=GA.enc) (z:=2) (j:=k3) (a:=0) (n:=1) (fun _=>rfl) γ.2 (by decide) rfl))))))) <|
  .sp (x42.Kind=x44.Kind)
  (.run [bt,oc] (fun γ=>Gb (Gp γ.2)) <|
  .leaf (Sum.inr (Sum.inl ())) [])
  (.run [bf] (fun γ=>Gb (Gw γ.2)) <|
  .gd (GP .i64 ((↑k4:Int)+1)) <| .run [oc,ow,oc] (fun γ=>Gb γ.2) <|
  .leaf (Sum.inl (k4+1)) []))
  (.run [bf] (fun γ=>Gb (dF γ.2)) <|
  .leaf (Sum.inr (Sum.inr (()))) [])
def KO (l_0:(List GA)) (k3:Nat):Nat→Option (Nat⊕(Unit⊕Unit)):=fun s=>(Vo l_0 k3 s).den
def GeX (l_0:(List GA)) (k3:Nat):Nat→PS:=fun s=>(60,[(0,.lst (fl GA.enc l_0) l_0.length),(3,jI (↑k3:Int)),(4,jI (↑s:Int))],[])
def GfR:(Unit⊕Unit)→Hm:=fun q=>match q with | Sum.inl o=>.ret | Sum.inr (o)=>(.exit 2)
def ZU (l_0:(List GA)) (k3:Nat):(Unit⊕Unit)→List (Nat×AV):=fun q=>match q with | Sum.inl o=>[(2,jI 9)] | Sum.inr (o)=>[(0,.lst (fl GA.enc l_0) l_0.length),(3,jI (↑k3:Int))]
def Gf8 (l_0:(List GA)) (k3:Nat):(Unit⊕Unit)→List G6:=fun q=>match q with | Sum.inl o=>[] | Sum.inr (o)=>[]
theorem Gbe (l_0:(List GA)) (k3:Nat) {s:Nat} {r:Unit⊕Unit} (h:lp (KO l_0 k3) s=some r):GI Tryz.prog GT 0 (.loop (GO Tryz.prog 60 [1,1,0,1,0,0,1,0,0,1,1,0,0])) (GeX l_0 k3 s).st (GfR r) (PS.st (60,ZU l_0 k3 r,Gf8 l_0 k3 r)):=
 GI.lp_ht 0 400 (GeX l_0 k3) GfR (fun q=>(60,ZU l_0 k3 q,Gf8 l_0 k3 q)) (Vo l_0 k3) (by intro k4; kernel_rfl) h
def Xv (l_0:(List GA)):Nat→HT (Nat⊕(Int⊕Unit)) True
 | k3=>.run (cs 3 [oa]) (fun _=>He) <|
  .sp ((↑k3:Int)<(↑l_0.length:Int))
  (.run [bt] (fun γ=>Gb (dT γ.2)) <|
  .bd (l_0[k3]?) fun x27=>.sp (x27.Kind<(0:Int))
  (.run (cs 2 ((.op none (.i k3))::oc::(.op none (.v [jI x27.Kind]))::oa::oc::tc::(cs 22 [bt,oc]))) (fun γ=>k2 (ir γ.1.2) (k2 (GC (f:=GA.enc) (z:=1) (fun _=>rfl) γ.1.2) (k2 (GL (f:=GA.enc) (z:=2) (j:=k3) (a:=0) (n:=1) (fun _=>rfl) γ.1.2 (by decide) rfl) (k2 (dT γ.2) (Gb (rfl:true=true)))))) <|
  .leaf (Sum.inr (Sum.inl 1)) [])
  (.sp (x27.Kind>(3:Int))
  (.run (cs 2 ((.op none (.i k3))::oc::(.op none (.v [jI x27.Kind]))::oa::oc::oF::oc::(.op none (.i k3))::oc::(.op none (.v [jI x27.Kind]))::oa::(cs 2 (tc::(cs 14 [bt,oc]))))) (fun γ=>k2 (ir γ.1.1.2) (k2 (GC (f:=GA.enc) (z:=1) (fun _=>rfl) γ.1.1.2) (k2 (GL (f:=GA.enc) (z:=2) (j:=k3) (a:=0) (n:=1) (fun _=>rfl) γ.1.1.2 (by decide) rfl) (k2 (dF γ.1.2) (k2 (ir γ.1.1.2) (k2 (GC (f:=GA.enc) (z:=1) (fun _=>rfl) γ.1.1.2) (k2 (GL (f:=GA.enc) (z:=2) (j:=k3) (a:=0) (n:=1) (fun _=>rfl) γ.1.1.2 (by decide) rfl) (k2 (dT γ.2) (Gb (rfl:true=true)))))))))) <|
  .leaf (Sum.inr (Sum.inl 1)) [])
  (.sp (x27.Part<(0:Int))
  (.run (cs 2 ((.op none (.i k3))::oc::(.op none (.v [jI x27.Kind]))::oa::oc::oF::oc::(.op none (.i k3))::oc::(.op none (.v [jI x27.Kind]))::oa::(cs 2 (oF::oc::(.op none (.i k3))::oc::(.op none (.v [jI x27.Part]))::oa::(cs 2 (tc::(cs 6 [bt,oc]))))))) (fun γ=>k2 (ir γ.1.1.1.2) (k2 (GC (f:=GA.enc) (z:=1) (fun _=>rfl) γ.1.1.1.2) (k2 (GL (f:=GA.enc) (z:=2) (j:=k3) (a:=0) (n:=1) (fun _=>rfl) γ.1.1.1.2 (by decide) rfl) (k2 (dF γ.1.1.2) (k2 (ir γ.1.1.1.2) (k2 (GC (f:=GA.enc) (z:=1) (fun _=>rfl) γ.1.1.1.2) (k2 (GL (f:=GA.enc) (z:=2) (j:=k3) (a:=0) (n:=1) (fun _=>rfl) γ.1.1.1.2 (by decide) rfl) (k2 (dF γ.1.2) (k2 (ir γ.1.1.1.2) (k2 (GC (f:=GA.enc) (z:=1) (fun _=>rfl) γ.1.1.1.2) (k2 (GL (f:=GA.enc) (z:=2) (j:=k3) (a:=1) (n:=1) (fun _=>rfl) γ.1.1.1.2 (by decide) rfl) (k2 (dT γ.2) (Gb (rfl:true=true)))))))))))))) <|
  .leaf (Sum.inr (Sum.inl 1)) [])
  (.run (cs 2 ((.op none (.i k3))::oc::(.op none (.v [jI x27.Kind]))::oa::oc::oF::oc::(.op none (.i k3))::oc::(.op none (.v [jI x27.Kind]))::oa::(cs 2 (oF::oc::(.op none (.i k3))::oc::(.op none (.v [jI x27.Part]))::oa::(cs 2 [oF,oc,.op none (.i k3),oc,.op none (.v [jI x27.Part]),oa,oc]))))) (fun γ=>k2 (ir γ.1.1.1.2) (k2 (GC (f:=GA.enc) (z:=1) (fun _=>rfl) γ.1.1.1.2) (k2 (GL (f:=GA.enc) (z:=2) (j:=k3) (a:=0) (n:=1) (fun _=>rfl) γ.1.1.1.2 (by decide) rfl) (k2 (dF γ.1.1.2) (k2 (ir γ.1.1.1.2) (k2 (GC (f:=GA.enc) (z:=1) (fun _=>rfl) γ.1.1.1.2) (k2 (GL (f:=GA.enc) (z:=2) (j:=k3) (a:=0) (n:=1) (fun _=>rfl) γ.1.1.1.2 (by decide) rfl) (k2 (dF γ.1.2) (k2 (ir γ.1.1.1.2) (k2 (GC (f:=GA.enc) (z:=1) (fun _=>rfl) γ.1.1.1.2) (k2 (GL (f:=GA.enc) (z:=2) (j:=k3) (a:=1) (n:=1) (fun _=>rfl) γ.1.1.1.2 (by decide) rfl) (k2 (dF γ.2) (k2 (ir γ.1.1.1.2) (k2 (GC (f:=GA.enc) (z:=1) (fun _=>rfl) γ.1.1.1.2) (Gb (GL (f:=GA.enc) (z:=2) (j:=k3) (a:=1) (n:=1) (fun _=>rfl) γ.1.1.1.2 (by decide) rfl)))))))))))))))) <|
  .sp (x27.Part>(1000:Int))
  (.run [bt,oc] (fun γ=>Gb (dT γ.2)) <|
  .leaf (Sum.inr (Sum.inl 1)) [])
  (.run [bf,oc] (fun γ=>Gb (dF γ.2)) <|
  .bd (lp (KO l_0 k3) (0:Nat)) fun qq=>.cs qq (fun o33=>.run [.fcut 0 .ret [(2,jI 9)] [] [] [(0,.any),(3,.any),(4,jI (↑(0:Nat):Int))] []] (fun γ=>k2 (rfl:(jI 0:AV)=jI (↑(0:Nat):Int)) (Gb (Gbe l_0 k3 (s:=(0:Nat)) (r:=Sum.inl o33) (eS γ.1.2 γ.2)))) <|
  .leaf (Sum.inr (Sum.inl 9)) [])
  (fun o33=>.run [.fcut 0 (.exit 2) (ZU l_0 k3 (Sum.inr (o33))) [] [] [(0,.any),(3,.any),(4,jI (↑(0:Nat):Int))] []] (fun γ=>k2 (rfl:(jI 0:AV)=jI (↑(0:Nat):Int)) (Gb (Gbe l_0 k3 (s:=(0:Nat)) (r:=Sum.inr (o33)) (eS γ.1.2 γ.2)))) <|
  .gd (GP .i64 ((↑k3:Int)+1)) <| .run [oc,ow,oc] (fun γ=>Gb γ.2) <|
  .leaf (Sum.inl (k3+1)) []))))))
  (.run [bf] (fun γ=>Gb (dF γ.2)) <|
  .leaf (Sum.inr (Sum.inr (()))) [])
def Mf (l_0:(List GA)):Nat→Option (Nat⊕(Int⊕Unit)):=fun s=>(Xv l_0 s).den
def Gig (l_0:(List GA)):Nat→PS:=fun s=>(60,[(0,.lst (fl GA.enc l_0) l_0.length),(3,jI (↑s:Int))],[])
def GhF:(Int⊕Unit)→Hm:=fun q=>match q with | Sum.inl o=>.ret | Sum.inr (o)=>(.exit 0)
def Ghp (l_0:(List GA)):(Int⊕Unit)→List (Nat×AV):=fun q=>match q with | Sum.inl o=>[(2,jI o)] | Sum.inr (o)=>[]
def Gh3 (l_0:(List GA)):(Int⊕Unit)→List G6:=fun q=>match q with | Sum.inl o=>[] | Sum.inr (o)=>[]
theorem GcN (l_0:(List GA)) {s:Nat} {r:Int⊕Unit} (h:lp (Mf l_0) s=some r):GI Tryz.prog GT 0 (.loop (GO Tryz.prog 60 [1,1,0,1,0,0])) (Gig l_0 s).st (GhF r) (PS.st (60,Ghp l_0 r,Gh3 l_0 r)):=
 GI.lp_ht 0 400 (Gig l_0) GhF (fun q=>(60,Ghp l_0 q,Gh3 l_0 q)) (Xv l_0) (by intro k3; kernel_rfl) h
def GiI (l_0:(List GA)):HT Int True:=.run (cs 3 [oa]) (fun _=>He) <|
  .sp ((↑l_0.length:Int)>(12:Int))
  (.run [bt,oc] (fun γ=>Gb (dT γ.2)) <|
  .leaf 3 [])
  (.run [bf,oc] (fun γ=>Gb (dF γ.2)) <|
  .bd (lp (Mf l_0) (0:Nat)) fun qq=>.cs qq (fun o2=>.run [.fcut 0 .ret [(2,jI o2)] [] [] [(0,.any),(3,jI (↑(0:Nat):Int))] []] (fun γ=>k2 (rfl:(jI 0:AV)=jI (↑(0:Nat):Int)) (Gb (GcN l_0 (s:=(0:Nat)) (r:=Sum.inl o2) (eS γ.1.2 γ.2)))) <|
  .leaf o2 [])
  (fun o2=>.run [.fcut 0 (.exit 0) [] [] [] [(0,.any),(3,jI (↑(0:Nat):Int))] [],oc] (fun γ=>k2 (rfl:(jI 0:AV)=jI (↑(0:Nat):Int)) (Gb (GcN l_0 (s:=(0:Nat)) (r:=Sum.inr (o2)) (eS γ.1.2 γ.2)))) <|
  .leaf 0 []))
def ZS (l_0:(List GA)):Option Int:=(GiI l_0).den
theorem Zv (l_0:(List GA)) (r:Int) (h:ZS l_0=some r):G5 Tryz.prog GT 60 [.lst (fl GA.enc l_0) l_0.length] (jI r) []:=
 G5.of_ht 400 (GiI l_0) (fun (r:Int)=>jI r) (fun (r:Int)=>[]) (by kernel_rfl) h
def Xm (w_0:GN):Nat→HT (Nat⊕(Unit⊕Unit)) True
 | k3=>.run [oc,oa] (fun _=>He) <|
  .sp ((↑k3:Int)<(4:Int))
  (.run [bt] (fun γ=>Gb (dT γ.2)) <|
  .bd (w_0.Days[k3]?) fun x11=>.sp (x11<(1:Int))
  (.run (cs 3 ((.op none (.i k3))::(vI x11)::oa::oc::tc::(cs 6 [bt,oc]))) (fun γ=>k2 (ir γ.1.2) (k2 (GC (f:=Hc) (z:=0) (fun _=>rfl) γ.1.2) (k2 (HK γ.1.2) (k2 (dT γ.2) (Gb (rfl:true=true)))))) <|
  .leaf (Sum.inr (Sum.inl ())) [0])
  (.run (cs 3 ((.op none (.i k3))::(vI x11)::oa::oc::oF::(cs 2 [.op none (.i k3),vI x11,oa,oc]))) (fun γ=>k2 (ir γ.1.2) (k2 (GC (f:=Hc) (z:=0) (fun _=>rfl) γ.1.2) (k2 (HK γ.1.2) (k2 (dF γ.2) (k2 (ir γ.1.2) (k2 (GC (f:=Hc) (z:=0) (fun _=>rfl) γ.1.2) (Gb (HK γ.1.2)))))))) <|
  .sp (x11>(4096:Int))
  (.run [bt,oc] (fun γ=>Gb (dT γ.2)) <|
  .leaf (Sum.inr (Sum.inl ())) [0])
  (.run [bf] (fun γ=>Gb (dF γ.2)) <|
  .gd (GP .i64 ((↑k3:Int)+1)) <| .run [oc,ow,oc] (fun γ=>Gb γ.2) <|
  .leaf (Sum.inl (k3+1)) [0])))
  (.run [bf] (fun γ=>Gb (dF γ.2)) <|
  .leaf (Sum.inr (Sum.inr (()))) [0])
def Me (w_0:GN):Nat→Option (Nat⊕(Unit⊕Unit)):=fun s=>(Xm w_0 s).den
def Ghc (w_0:GN):Nat→PS:=fun s=>(59,[(1,.ptr 0 0),(3,jI (↑s:Int))],[(bT (GN.enc w_0) 56)])
def Gg4:(Unit⊕Unit)→Hm:=fun q=>match q with | Sum.inl o=>.ret | Sum.inr (o)=>(.exit 0)
def Gh6 (w_0:GN):(Unit⊕Unit)→List (Nat×AV):=fun q=>match q with | Sum.inl o=>[(2,jI 1)] | Sum.inr (o)=>[(1,.ptr 0 0)]
def Ghl (w_0:GN):(Unit⊕Unit)→List G6:=fun q=>match q with | Sum.inl o=>[(bT (GN.enc w_0) 56)] | Sum.inr (o)=>[(bT (GN.enc w_0) 56)]
theorem GcS (w_0:GN) {s:Nat} {r:Unit⊕Unit} (h:lp (Me w_0) s=some r):GI Tryz.prog GT 1 (.loop (GO Tryz.prog 61 [1,1,0,1,0,0])) (Ghc w_0 s).st (Gg4 r) (PS.st (59,Gh6 w_0 r,Ghl w_0 r)):=
 GI.lp_ht 1 400 (Ghc w_0) Gg4 (fun q=>(59,Gh6 w_0 q,Ghl w_0 q)) (Xm w_0) (by intro k3; kernel_rfl) h
def Vp (w_0:GN):Nat→HT (Nat⊕(Unit⊕Unit)) True
 | k4=>.run [oc,oa] (fun _=>He) <|
  .sp ((↑k4:Int)<(4:Int))
  (.run [bt] (fun γ=>Gb (dT γ.2)) <|
  .bd (w_0.Fees[k4]?) fun x24=>.sp (x24<(0:Int))
  (.run (cs 3 ((.op none (.i k4))::(vI x24)::oa::oc::tc::(cs 6 [bt,oc]))) (fun γ=>k2 (ir γ.1.2) (k2 (GC (f:=Hc) (z:=0) (fun _=>rfl) γ.1.2) (k2 (HK γ.1.2) (k2 (dT γ.2) (Gb (rfl:true=true)))))) <|
  .leaf (Sum.inr (Sum.inl ())) [0])
  (.run (cs 3 ((.op none (.i k4))::(vI x24)::oa::oc::oF::(cs 2 [.op none (.i k4),vI x24,oa,oc]))) (fun γ=>k2 (ir γ.1.2) (k2 (GC (f:=Hc) (z:=0) (fun _=>rfl) γ.1.2) (k2 (HK γ.1.2) (k2 (dF γ.2) (k2 (ir γ.1.2) (k2 (GC (f:=Hc) (z:=0) (fun _=>rfl) γ.1.2) (Gb (HK γ.1.2)))))))) <|
  .sp (x24>(2147483648:Int))
  (.run [bt,oc] (fun γ=>Gb (dT γ.2)) <|
  .leaf (Sum.inr (Sum.inl ())) [0])
  (.run [bf] (fun γ=>Gb (dF γ.2)) <|
  .gd (GP .i64 ((↑k4:Int)+1)) <| .run [oc,ow,oc] (fun γ=>Gb γ.2) <|
  .leaf (Sum.inl (k4+1)) [0])))
  (.run [bf] (fun γ=>Gb (dF γ.2)) <|
  .leaf (Sum.inr (Sum.inr (()))) [0])
def KR (w_0:GN):Nat→Option (Nat⊕(Unit⊕Unit)):=fun s=>(Vp w_0 s).den
def GfU (w_0:GN):Nat→PS:=fun s=>(59,[(1,.ptr 0 0),(4,jI (↑s:Int))],[(bT (GN.enc w_0) 56)])
def Ge4:(Unit⊕Unit)→Hm:=fun q=>match q with | Sum.inl o=>.ret | Sum.inr (o)=>(.exit 2)
def Gfc (w_0:GN):(Unit⊕Unit)→List (Nat×AV):=fun q=>match q with | Sum.inl o=>[(2,jI 13)] | Sum.inr (o)=>[(1,.ptr 0 0)]
def Gfk (w_0:GN):(Unit⊕Unit)→List G6:=fun q=>match q with | Sum.inl o=>[(bT (GN.enc w_0) 56)] | Sum.inr (o)=>[(bT (GN.enc w_0) 56)]
theorem Gb7 (w_0:GN) {s:Nat} {r:Unit⊕Unit} (h:lp (KR w_0) s=some r):GI Tryz.prog GT 1 (.loop (GO Tryz.prog 61 [1,1,1,0,1,0,0])) (GfU w_0 s).st (Ge4 r) (PS.st (59,Gfc w_0 r,Gfk w_0 r)):=
 GI.lp_ht 1 400 (GfU w_0) Ge4 (fun q=>(59,Gfc w_0 q,Gfk w_0 q)) (Vp w_0) (by intro k4; kernel_rfl) h
def Giy (w_0:GN):HT Int True:=.run (cs 2 []) (fun _=>He) <|
  .sp ((↑w_0.Days.length:Int)=(4:Int))
  (.run (cs 3 (oa::oc::oF::(cs 2 [oa,oc]))) (fun γ=>Gb (Gs (Gp γ.2))) <|
  .sp ((↑w_0.Fees.length:Int)=(4:Int))
  (.run [bf,oc] (fun γ=>Gb (Gs (Gp γ.2))) <|
  .bd (lp (Me w_0) (0:Nat)) fun qq=>.cs qq (fun o3=>.run [.fcut 1 .ret [(2,jI 1)] [(bT (GN.enc w_0) 56)] [0] [(1,.any),(3,jI (↑(0:Nat):Int))] [bS]] (fun γ=>k2 (rfl:(jI 0:AV)=jI (↑(0:Nat):Int)) (Gb (GcS w_0 (s:=(0:Nat)) (r:=Sum.inl o3) (eS γ.1.2 γ.2)))) <|
  .leaf 1 [])
  (fun o3=>.run [.fcut 1 (.exit 0) [(1,.ptr 0 0)] [(bT (GN.enc w_0) 56)] [0] [(1,.any),(3,jI (↑(0:Nat):Int))] [bS],oc] (fun γ=>k2 (rfl:(jI 0:AV)=jI (↑(0:Nat):Int)) (Gb (GcS w_0 (s:=(0:Nat)) (r:=Sum.inr (o3)) (eS γ.1.2 γ.2)))) <|
  .bd (lp (KR w_0) (0:Nat)) fun qq=>.cs qq (fun o16=>.run [.fcut 1 .ret [(2,jI 13)] [(bT (GN.enc w_0) 56)] [0] [(1,.any),(4,jI (↑(0:Nat):Int))] [bS]] (fun γ=>k2 (rfl:(jI 0:AV)=jI (↑(0:Nat):Int)) (Gb (Gb7 w_0 (s:=(0:Nat)) (r:=Sum.inl o16) (eS γ.1.2 γ.2)))) <|
  .leaf 13 [])
  (fun o16=>.run [.fcut 1 (.exit 2) [(1,.ptr 0 0)] [(bT (GN.enc w_0) 56)] [0] [(1,.any),(4,jI (↑(0:Nat):Int))] [bS]] (fun γ=>k2 (rfl:(jI 0:AV)=jI (↑(0:Nat):Int)) (Gb (Gb7 w_0 (s:=(0:Nat)) (r:=Sum.inr (o16)) (eS γ.1.2 γ.2)))) <|
  .sp (w_0.Limit<(1:Int))
  (.run (cs 2 (oa::oc::tc::(cs 3 [bt,oc]))) (fun γ=>k2 (dT γ.2) (Gb (rfl:true=true))) <|
  .leaf 12 [])
  (.run (cs 2 [oa,oc,oF,oc,oa,oc]) (fun γ=>Gb (dF γ.2)) <|
  .sp (w_0.Limit>(795363:Int))
  (.run [bt,oc] (fun γ=>Gb (dT γ.2)) <|
  .leaf 12 [])
  (.run [bf,oc] (fun γ=>Gb (dF γ.2)) <|
  .leaf 0 [])))))
  (.run [bt,oc] (fun γ=>Gb (Gu (Gw γ.2))) <|
  .leaf 3 []))
  (.run (cs 3 (oa::oc::tc::(cs 4 [bt,oc]))) (fun γ=>k2 (Gu (Gw γ.2)) (Gb (rfl:true=true))) <|
  .leaf 3 [])
def Z9 (w_0:GN):Option Int:=(Giy w_0).den
theorem Zw (w_0:GN) (r:Int) (h:Z9 w_0=some r):G5 Tryz.prog GT 61 [.agg (GN.enc w_0)] (jI r) []:=
 G5.of_ht 400 (Giy w_0) (fun (r:Int)=>jI r) (fun (r:Int)=>[]) (by kernel_rfl) h
def UF (l_0:(List Gr)) (k3:Nat):Nat→HT (Nat⊕(Unit⊕Unit)) True
 | k4=>.run (cs 2 [oa]) (fun _=>He) <|
  .sp ((↑k4:Int)<(↑k3:Int))
  (.run [bt] (fun γ=>Gb (dT γ.2)) <|
  .bd (l_0[k4]?) fun x42=>.bd (l_0[k3]?) fun x44=>.run (cs 2 ((.op none (.i k4))::oc::(.op none (.v [jI x42.Purpose]))::(cs 2 [.op none (.i k3),oc,.op none (.v [jI x44.Purpose]),oa]))) (fun γ=>k2 (ir γ.1.2) (k2 (GC (f:=Gr.enc) (z:=2) (fun _=>rfl) γ.1.2) (k2 (GL (f:=Gr.enc) (z:=3) (j:=k4) (a:=0) (n:=1) (fun _=>rfl) γ.1.2 (by decide) rfl) (k2 (ir γ.2) (k2 (GC (f:=Gr.enc) (z:=2) (fun _=>rfl) γ.2) (Gb (GL (f:=Gr.enc) (z:=3) (j:=k3) (a:=0) (n:=1) (fun _=>rfl) γ.2 (by decide) rfl))))))) <|
  .sp (x42.Purpose=x44.Purpose)
  (.run [bt,oc] (fun γ=>Gb (Gp γ.2)) <|
  .leaf (Sum.inr (Sum.inl ())) [])
  (.run [bf] (fun γ=>Gb (Gw γ.2)) <|
  .gd (GP .i64 ((↑k4:Int)+1)) <| .run [oc,ow,oc] (fun γ=>Gb γ.2) <|
  .leaf (Sum.inl (k4+1)) []))
  (.run [bf] (fun γ=>Gb (dF γ.2)) <|
  .leaf (Sum.inr (Sum.inr (()))) [])
def KP (l_0:(List Gr)) (k3:Nat):Nat→Option (Nat⊕(Unit⊕Unit)):=fun s=>(UF l_0 k3 s).den
def Gff (l_0:(List Gr)) (k3:Nat):Nat→PS:=fun s=>(74,[(0,.lst (fl Gr.enc l_0) l_0.length),(3,jI (↑k3:Int)),(4,jI (↑s:Int))],[])
def GfN:(Unit⊕Unit)→Hm:=fun q=>match q with | Sum.inl o=>.ret | Sum.inr (o)=>(.exit 2)
def Gay (l_0:(List Gr)) (k3:Nat):(Unit⊕Unit)→List (Nat×AV):=fun q=>match q with | Sum.inl o=>[(2,jI 9)] | Sum.inr (o)=>[(0,.lst (fl Gr.enc l_0) l_0.length),(3,jI (↑k3:Int))]
def GfM (l_0:(List Gr)) (k3:Nat):(Unit⊕Unit)→List G6:=fun q=>match q with | Sum.inl o=>[] | Sum.inr (o)=>[]
theorem Gb9 (l_0:(List Gr)) (k3:Nat) {s:Nat} {r:Unit⊕Unit} (h:lp (KP l_0 k3) s=some r):GI Tryz.prog GT 0 (.loop (GO Tryz.prog 62 [1,1,0,1,0,0,1,0,0,1,0,1,0,0])) (Gff l_0 k3 s).st (GfN r) (PS.st (74,Gay l_0 k3 r,GfM l_0 k3 r)):=
 GI.lp_ht 0 400 (Gff l_0 k3) GfN (fun q=>(74,Gay l_0 k3 q,GfM l_0 k3 q)) (UF l_0 k3) (by intro k4; kernel_rfl) h
def Xr (l_0:(List Gr)):Nat→HT (Nat⊕(Int⊕Unit)) True
 | k3=>.run (cs 3 [oa]) (fun _=>He) <|
  .sp ((↑k3:Int)<(↑l_0.length:Int))
  (.run [bt] (fun γ=>Gb (dT γ.2)) <|
  .bd (l_0[k3]?) fun x29=>.sp (x29.Purpose<(1:Int))
  (.run (cs 2 ((.op none (.i k3))::oc::(.op none (.v [jI x29.Purpose]))::oa::oc::tc::(cs 6 [bt,oc]))) (fun γ=>k2 (ir γ.1.2) (k2 (GC (f:=Gr.enc) (z:=2) (fun _=>rfl) γ.1.2) (k2 (GL (f:=Gr.enc) (z:=3) (j:=k3) (a:=0) (n:=1) (fun _=>rfl) γ.1.2 (by decide) rfl) (k2 (dT γ.2) (Gb (rfl:true=true)))))) <|
  .leaf (Sum.inr (Sum.inl 1)) [])
  (.run (cs 2 [.op none (.i k3),oc,.op none (.v [jI x29.Purpose]),oa,oc,oF,oc,.op none (.i k3),oc,.op none (.v [jI x29.Purpose]),oa,oc]) (fun γ=>k2 (ir γ.1.2) (k2 (GC (f:=Gr.enc) (z:=2) (fun _=>rfl) γ.1.2) (k2 (GL (f:=Gr.enc) (z:=3) (j:=k3) (a:=0) (n:=1) (fun _=>rfl) γ.1.2 (by decide) rfl) (k2 (dF γ.2) (k2 (ir γ.1.2) (k2 (GC (f:=Gr.enc) (z:=2) (fun _=>rfl) γ.1.2) (Gb (GL (f:=Gr.enc) (z:=3) (j:=k3) (a:=0) (n:=1) (fun _=>rfl) γ.1.2 (by decide) rfl)))))))) <|
  .sp (x29.Purpose>(4:Int))
  (.run [bt,oc] (fun γ=>Gb (dT γ.2)) <|
  .leaf (Sum.inr (Sum.inl 1)) [])
  (.run [bf,oc] (fun γ=>Gb (dF γ.2)) <|
  .bd (lp (KP l_0 k3) (0:Nat)) fun qq=>.cs qq (fun o33=>.run [.fcut 0 .ret [(2,jI 9)] [] [] [(0,.any),(3,.any),(4,jI (↑(0:Nat):Int))] []] (fun γ=>k2 (rfl:(jI 0:AV)=jI (↑(0:Nat):Int)) (Gb (Gb9 l_0 k3 (s:=(0:Nat)) (r:=Sum.inl o33) (eS γ.1.2 γ.2)))) <|
  .leaf (Sum.inr (Sum.inl 9)) [])
  (fun o33=>.run [.fcut 0 (.exit 2) (Gay l_0 k3 (Sum.inr (o33))) [] [] [(0,.any),(3,.any),(4,jI (↑(0:Nat):Int))] []] (fun γ=>k2 (rfl:(jI 0:AV)=jI (↑(0:Nat):Int)) (Gb (Gb9 l_0 k3 (s:=(0:Nat)) (r:=Sum.inr (o33)) (eS γ.1.2 γ.2)))) <|
  .sp (x29.Seconds<(0:Int))
  (.run (cs 2 ((.op none (.i k3))::oc::(.op none (.v [jI x29.Seconds]))::oa::oc::tc::(cs 22 [bt,oc]))) (fun γ=>k2 (ir γ.1.1.1.1.1.2) (k2 (GC (f:=Gr.enc) (z:=2) (fun _=>rfl) γ.1.1.1.1.1.2) (k2 (GL (f:=Gr.enc) (z:=3) (j:=k3) (a:=1) (n:=1) (fun _=>rfl) γ.1.1.1.1.1.2 (by decide) rfl) (k2 (dT γ.2) (Gb (rfl:true=true)))))) <|
  .leaf (Sum.inr (Sum.inl 12)) [])
  (.sp (x29.Seconds>(68719476736:Int))
  (.run (cs 2 ((.op none (.i k3))::oc::(.op none (.v [jI x29.Seconds]))::oa::oc::oF::oc::(.op none (.i k3))::oc::(.op none (.v [jI x29.Seconds]))::oa::(cs 2 (tc::(cs 14 [bt,oc]))))) (fun γ=>k2 (ir γ.1.1.1.1.1.1.2) (k2 (GC (f:=Gr.enc) (z:=2) (fun _=>rfl) γ.1.1.1.1.1.1.2) (k2 (GL (f:=Gr.enc) (z:=3) (j:=k3) (a:=1) (n:=1) (fun _=>rfl) γ.1.1.1.1.1.1.2 (by decide) rfl) (k2 (dF γ.1.2) (k2 (ir γ.1.1.1.1.1.1.2) (k2 (GC (f:=Gr.enc) (z:=2) (fun _=>rfl) γ.1.1.1.1.1.1.2) (k2 (GL (f:=Gr.enc) (z:=3) (j:=k3) (a:=1) (n:=1) (fun _=>rfl) γ.1.1.1.1.1.1.2 (by decide) rfl) (k2 (dT γ.2) (Gb (rfl:true=true)))))))))) <|
  .leaf (Sum.inr (Sum.inl 12)) [])
  (.sp (x29.Least<(0:Int))
  (.run (cs 2 ((.op none (.i k3))::oc::(.op none (.v [jI x29.Seconds]))::oa::oc::oF::oc::(.op none (.i k3))::oc::(.op none (.v [jI x29.Seconds]))::oa::(cs 2 (oF::oc::(.op none (.i k3))::oc::(.op none (.v [jI x29.Least]))::oa::(cs 2 (tc::(cs 6 [bt,oc]))))))) (fun γ=>k2 (ir γ.1.1.1.1.1.1.1.2) (k2 (GC (f:=Gr.enc) (z:=2) (fun _=>rfl) γ.1.1.1.1.1.1.1.2) (k2 (GL (f:=Gr.enc) (z:=3) (j:=k3) (a:=1) (n:=1) (fun _=>rfl) γ.1.1.1.1.1.1.1.2 (by decide) rfl) (k2 (dF γ.1.1.2) (k2 (ir γ.1.1.1.1.1.1.1.2) (k2 (GC (f:=Gr.enc) (z:=2) (fun _=>rfl) γ.1.1.1.1.1.1.1.2) (k2 (GL (f:=Gr.enc) (z:=3) (j:=k3) (a:=1) (n:=1) (fun _=>rfl) γ.1.1.1.1.1.1.1.2 (by decide) rfl) (k2 (dF γ.1.2) (k2 (ir γ.1.1.1.1.1.1.1.2) (k2 (GC (f:=Gr.enc) (z:=2) (fun _=>rfl) γ.1.1.1.1.1.1.1.2) (k2 (GL (f:=Gr.enc) (z:=3) (j:=k3) (a:=2) (n:=1) (fun _=>rfl) γ.1.1.1.1.1.1.1.2 (by decide) rfl) (k2 (dT γ.2) (Gb (rfl:true=true)))))))))))))) <|
  .leaf (Sum.inr (Sum.inl 12)) [])
  (.run (cs 2 ((.op none (.i k3))::oc::(.op none (.v [jI x29.Seconds]))::oa::oc::oF::oc::(.op none (.i k3))::oc::(.op none (.v [jI x29.Seconds]))::oa::(cs 2 (oF::oc::(.op none (.i k3))::oc::(.op none (.v [jI x29.Least]))::oa::(cs 2 [oF,oc,.op none (.i k3),oc,.op none (.v [jI x29.Least]),oa,oc]))))) (fun γ=>k2 (ir γ.1.1.1.1.1.1.1.2) (k2 (GC (f:=Gr.enc) (z:=2) (fun _=>rfl) γ.1.1.1.1.1.1.1.2) (k2 (GL (f:=Gr.enc) (z:=3) (j:=k3) (a:=1) (n:=1) (fun _=>rfl) γ.1.1.1.1.1.1.1.2 (by decide) rfl) (k2 (dF γ.1.1.2) (k2 (ir γ.1.1.1.1.1.1.1.2) (k2 (GC (f:=Gr.enc) (z:=2) (fun _=>rfl) γ.1.1.1.1.1.1.1.2) (k2 (GL (f:=Gr.enc) (z:=3) (j:=k3) (a:=1) (n:=1) (fun _=>rfl) γ.1.1.1.1.1.1.1.2 (by decide) rfl) (k2 (dF γ.1.2) (k2 (ir γ.1.1.1.1.1.1.1.2) (k2 (GC (f:=Gr.enc) (z:=2) (fun _=>rfl) γ.1.1.1.1.1.1.1.2) (k2 (GL (f:=Gr.enc) (z:=3) (j:=k3) (a:=2) (n:=1) (fun _=>rfl) γ.1.1.1.1.1.1.1.2 (by decide) rfl) (k2 (dF γ.2) (k2 (ir γ.1.1.1.1.1.1.1.2) (k2 (GC (f:=Gr.enc) (z:=2) (fun _=>rfl) γ.1.1.1.1.1.1.1.2) (Gb (GL (f:=Gr.enc) (z:=3) (j:=k3) (a:=2) (n:=1) (fun _=>rfl) γ.1.1.1.1.1.1.1.2 (by decide) rfl)))))))))))))))) <|
  .sp (x29.Least>(68719476736:Int))
  (.run [bt,oc] (fun γ=>Gb (dT γ.2)) <|
  .leaf (Sum.inr (Sum.inl 12)) [])
  (.run [bf] (fun γ=>Gb (dF γ.2)) <|
  .gd (GP .i64 ((↑k3:Int)+1)) <| .run [oc,ow,oc] (fun γ=>Gb γ.2) <|
  .leaf (Sum.inl (k3+1)) []))))))))
  (.run [bf] (fun γ=>Gb (dF γ.2)) <|
  .leaf (Sum.inr (Sum.inr (()))) [])
def Mh (l_0:(List Gr)):Nat→Option (Nat⊕(Int⊕Unit)):=fun s=>(Xr l_0 s).den
def Gh7 (l_0:(List Gr)):Nat→PS:=fun s=>(74,[(0,.lst (fl Gr.enc l_0) l_0.length),(3,jI (↑s:Int))],[])
def Ghg:(Int⊕Unit)→Hm:=fun q=>match q with | Sum.inl o=>.ret | Sum.inr (o)=>(.exit 0)
def Gg7 (l_0:(List Gr)):(Int⊕Unit)→List (Nat×AV):=fun q=>match q with | Sum.inl o=>[(2,jI o)] | Sum.inr (o)=>[]
def GhV (l_0:(List Gr)):(Int⊕Unit)→List G6:=fun q=>match q with | Sum.inl o=>[] | Sum.inr (o)=>[]
theorem GdG (l_0:(List Gr)) {s:Nat} {r:Int⊕Unit} (h:lp (Mh l_0) s=some r):GI Tryz.prog GT 0 (.loop (GO Tryz.prog 62 [1,1,0,1,0,0])) (Gh7 l_0 s).st (Ghg r) (PS.st (74,Gg7 l_0 r,GhV l_0 r)):=
 GI.lp_ht 0 400 (Gh7 l_0) Ghg (fun q=>(74,Gg7 l_0 q,GhV l_0 q)) (Xr l_0) (by intro k3; kernel_rfl) h
def GiF (l_0:(List Gr)):HT Int True:=.run (cs 3 [oa]) (fun _=>He) <|
  .sp ((↑l_0.length:Int)>(4:Int))
  (.run [bt,oc] (fun γ=>Gb (dT γ.2)) <|
  .leaf 3 [])
  (.run [bf,oc] (fun γ=>Gb (dF γ.2)) <|
  .bd (lp (Mh l_0) (0:Nat)) fun qq=>.cs qq (fun o2=>.run [.fcut 0 .ret [(2,jI o2)] [] [] [(0,.any),(3,jI (↑(0:Nat):Int))] []] (fun γ=>k2 (rfl:(jI 0:AV)=jI (↑(0:Nat):Int)) (Gb (GdG l_0 (s:=(0:Nat)) (r:=Sum.inl o2) (eS γ.1.2 γ.2)))) <|
  .leaf o2 [])
  (fun o2=>.run [.fcut 0 (.exit 0) [] [] [] [(0,.any),(3,jI (↑(0:Nat):Int))] [],oc] (fun γ=>k2 (rfl:(jI 0:AV)=jI (↑(0:Nat):Int)) (Gb (GdG l_0 (s:=(0:Nat)) (r:=Sum.inr (o2)) (eS γ.1.2 γ.2)))) <|
  .leaf 0 []))
def Z3 (l_0:(List Gr)):Option Int:=(GiF l_0).den
theorem Zr (l_0:(List Gr)) (r:Int) (h:Z3 l_0=some r):G5 Tryz.prog GT 62 [.lst (fl Gr.enc l_0) l_0.length] (jI r) []:=
 G5.of_ht 400 (GiF l_0) (fun (r:Int)=>jI r) (fun (r:Int)=>[]) (by kernel_rfl) h
end
set_option maxHeartbeats 4000000
noncomputable section
def Gsz (l:List GA) (k:Nat) (x:GA):Option Int:=
 if x.Kind<0∨x.Kind>3∨x.Part<0∨x.Part>1000 then some 1 else if (l.take k).any (fun y=>decide (y.Kind=x.Kind)) then some 9 else none
def GpJ (l:List GA):Int:=if l.length>12 then 3 else (GK (Gsz l) 0 l).getD 0
theorem Gl7 (l:List GA):Za l=some (GpJ l):=by
 simp only [Za,Gad,d1,d2,d3,d4,d5,d6,d7,GpJ]
 by_cases hl:l.length>12
 ·rw [if_pos (by omega),if_pos hl]
 rw [if_neg (by omega),if_neg hl]
 have hs:Sm l:=by show _≤_; omega
 have key:=Gfj (l:=l) (mk:=fun k b=>(k,b)) (step:=JO l) (g:=Gsz l) (out:=fst) (J:=fun _=>True)
  (fun k b=>b.length=4∧∀ n:Nat,n<4→b[n]?=some ((l.take k).any fun y=>decide (y.Kind=(n:Int))))
  (fun k x b hx hb=>?_) (fun b hb=>?_) (b:=[false,false,false,false]) (by constructor; rfl; intro n hn; match n,hn with | 0,_=>rfl | 1,_=>rfl | 2,_=>rfl | 3,_=>rfl)
 ·cases he:GK (Gsz l) 0 l with
  | some r=>
   obtain ⟨q,h1,h2⟩:=key.1 r he
   rw [h1]; simp only [Option.bind_some,eN,d1,Option.getD_some,h2]
  | none=>
   obtain ⟨q,h1,_⟩:=key.2 he
   rw [h1]; simp only [Option.bind_some,eM,d1,Option.getD_none]
 ·obtain ⟨hk,i1,i2,hkl,h1,h2⟩:=rd hs hx
  clear hs
  simp only [JO,Qj,d1,d2,d3,d4,d5,d6,d7,hx,Option.bind_some,i1,if_true,hkl,Gsz]
  clear i1 i2
  by_cases c1:x.Kind<0∨x.Kind>3∨x.Part<0∨x.Part>1000
  ·rw [if_pos c1]
   exact .inl ⟨1,(1,b),rfl,by grind,rfl⟩
  rw [if_neg c1]
  have c3:x.Kind.toNat<4:=by omega
  have hbn:=hb.2 x.Kind.toNat c3
  have c4:((x.Kind.toNat:Nat):Int)=x.Kind:=by omega
  rw [c4] at hbn
  rcases Hf ((l.take k).any fun y=>decide (y.Kind=x.Kind)) with hd | hd
  ·rw [hd] at hbn
   simp only [hd,if_true]
   exact .inl ⟨9,(9,b),rfl,by grind,rfl⟩
  ·rw [hd] at hbn
   simp only [hd,if_false,Bool.false_eq_true]
   refine .inr ⟨trivial,b.set x.Kind.toNat true,by grind,by rw [List.length_set]; exact hb.1,fun n hn=>?_⟩
   rw [List.getElem?_set,Gfp hx]
   by_cases e:x.Kind.toNat=n
   ·subst e
    rw [if_pos rfl,if_pos (by rw [hb.1]; exact c3),c4]
    simp
   ·rw [if_neg e,hb.2 n hn,show decide (x.Kind=(n:Int))=false from dF (by omega),Bool.or_false]
 ·refine ⟨b,?_,trivial⟩
  simp only [JO,Qj,d3,d6,d1]
  rw [if_neg (by omega)]
theorem Gm8 (l:List GA):ZS l=some (GpJ l):=by
 simp only [ZS,GiI,d1,d2,d3,d4,d5,d6,d7,GpJ]
 by_cases hl:l.length>12
 ·rw [if_pos (by omega),if_pos hl]
 rw [if_neg (by omega),if_neg hl]
 have hs:Sm l:=by show _≤_; omega
 have key:lp (Mf l) 0=some (HL (GK (Gsz l) 0 l)):=by
  refine GQ (fun k x hx=>?_) ?_
  ·obtain ⟨hk,i1,i2,hkl,h1,h2⟩:=rd hs hx
   have hq:lp (KO l k) 0=some (HL (if (l.take k).any (fun y=>decide (y.Kind=x.Kind)) then some () else none)):=by
    rw [← Hj (l.take k) 0]
    refine JE (l:=l) (n:=k) (by omega) (fun j y hj hy=>?_) ?_
    ·obtain ⟨_,i3,_,_,_,_⟩:=rd hs hy
     have hjk:(j:Int)<(k:Int):=by omega
     simp only [KO,Vo,d1,d2,d3,d4,d5,d6,d7,hx,hy,Option.bind_some,i3,if_true,hjk]
     clear i1 i2 i3 hs
     grind [KC]
    ·simp only [KO,Vo,d3,d6,d1]
     rw [if_neg (by omega)]
   simp only [Mf,Xv,d1,d2,d3,d4,d5,d6,d7,hx,hq,Option.bind_some,i1,if_true,hkl,Gsz]
   clear i1 i2 hs hq
   rcases Hf ((l.take k).any fun y=>decide (y.Kind=x.Kind)) with hh | hh <;> simp only [hh,HL,eN,eM,if_true,if_false,Bool.false_eq_true] <;> grind [KC]
  ·simp only [Mf,Xv,d3,d6,d1]
   rw [if_neg (by omega)]
 rw [key]
 cases GK (Gsz l) 0 l <;> rfl
def Go3 (w:GN):Int:=
 if w.Days.length≠4∨w.Fees.length≠4 then 3 else if w.Days.any (fun x=>decide (x<1∨x>4096)) then 1
 else if w.Fees.any (fun x=>decide (x<0∨x>2147483648)) then 13 else if w.Limit<1∨w.Limit>795363 then 12 else 0
theorem Gmi (w:GN):Zt w=some (Go3 w):=by
 simp only [Zt,GaV,d1,d2,d3,d4,d5,d6,d7,Go3]
 by_cases h1:w.Days.length=4∧w.Fees.length=4
 rotate_left
 ·grind
 rw [if_pos (by omega),if_pos (by omega),if_neg (show ¬ (w.Days.length≠4∨w.Fees.length≠4) by omega)]
 have hd:Sm w.Days:=by show _≤_; omega
 have hf:Sm w.Fees:=by show _≤_; omega
 have k1:lp (JL w) 0=some (HL (if w.Days.any (fun x=>decide (x<1∨x>4096)) then some () else none)):=by
  rw [← Hj w.Days 0]
  refine GQ (fun k x hx=>?_) ?_
  ·obtain ⟨hk,i1,i2,hkl,h1,h2⟩:=rd hd hx
   simp only [JL,Qv,d1,d2,d3,d4,d5,d6,d7,hx,Option.bind_some,i1,if_true,hkl]
   clear i1 i2 hd hf
   grind [KC]
  ·simp only [JL,Qv,d3,d6,d1]
   rw [if_neg (by omega)]
 have k2:lp (Jt w) 0=some (HL (if w.Fees.any (fun x=>decide (x<0∨x>2147483648)) then some () else none)):=by
  rw [← Hj w.Fees 0]
  refine GQ (fun k x hx=>?_) ?_
  ·obtain ⟨hk,i1,i2,hkl,h1,h2⟩:=rd hf hx
   simp only [Jt,MM,d1,d2,d3,d4,d5,d6,d7,hx,Option.bind_some,i1,if_true,hkl]
   clear i1 i2 hd hf
   grind [KC]
  ·simp only [Jt,MM,d3,d6,d1]
   rw [if_neg (by omega)]
 simp only [k1,k2,Option.bind_some]
 clear hd hf k1 k2
 rcases Hf (w.Days.any fun x=>decide (x<1∨x>4096)) with ha | ha <;> rcases Hf (w.Fees.any fun x=>decide (x<0∨x>2147483648)) with hb | hb <;> simp only [ha,hb,HL,eN,eM,Option.bind_some,if_true,if_false,Bool.false_eq_true] <;> clear ha hb <;> grind
theorem Gnx (w:GN):Z9 w=some (Go3 w):=by
 simp only [Z9,Giy,d1,d2,d3,d4,d5,d6,d7,Go3]
 by_cases h1:w.Days.length=4∧w.Fees.length=4
 rotate_left
 ·grind
 rw [if_pos (by omega),if_pos (by omega),if_neg (show ¬ (w.Days.length≠4∨w.Fees.length≠4) by omega)]
 have hd:Sm w.Days:=by show _≤_; omega
 have hf:Sm w.Fees:=by show _≤_; omega
 have k1:lp (Me w) 0=some (HL (if w.Days.any (fun x=>decide (x<1∨x>4096)) then some () else none)):=by
  rw [← Hj w.Days 0]
  refine GQ (fun k x hx=>?_) ?_
  ·obtain ⟨hk,i1,i2,hkl,h3,h2⟩:=rd hd hx
   have hk4:(k:Int)<4:=by omega
   simp only [Me,Xm,d1,d2,d3,d4,d5,d6,d7,hx,Option.bind_some,i1,if_true,hk4]
   clear i1 i2 hd hf
   grind [KC]
  ·simp only [Me,Xm,d3,d6,d1]
   rw [if_neg (by omega)]
 have k2:lp (KR w) 0=some (HL (if w.Fees.any (fun x=>decide (x<0∨x>2147483648)) then some () else none)):=by
  rw [← Hj w.Fees 0]
  refine GQ (fun k x hx=>?_) ?_
  ·obtain ⟨hk,i1,i2,hkl,h3,h2⟩:=rd hf hx
   have hk4:(k:Int)<4:=by omega
   simp only [KR,Vp,d1,d2,d3,d4,d5,d6,d7,hx,Option.bind_some,i1,if_true,hk4]
   clear i1 i2 hd hf
   grind [KC]
  ·simp only [KR,Vp,d3,d6,d1]
   rw [if_neg (by omega)]
 simp only [k1,k2,Option.bind_some]
 clear hd hf k1 k2
 rcases Hf (w.Days.any fun x=>decide (x<1∨x>4096)) with ha | ha <;> rcases Hf (w.Fees.any fun x=>decide (x<0∨x>2147483648)) with hb | hb <;> simp only [ha,hb,HL,eN,eM,Option.bind_some,if_true,if_false,Bool.false_eq_true] <;> clear ha hb <;> grind
def Gq9 (l:List Gr) (k:Nat) (x:Gr):Option Int:=
 if x.Purpose<1∨x.Purpose>4 then some 1 else if (l.take k).any (fun y=>decide (y.Purpose=x.Purpose)) then some 9
 else if x.Seconds<0∨x.Seconds>68719476736∨x.Least<0∨x.Least>68719476736 then some 12 else none
def GpN (l:List Gr):Int:=if l.length>4 then 3 else (GK (Gq9 l) 0 l).getD 0
theorem Gmh (l:List Gr):Zj l=some (GpN l):=by
 simp only [Zj,ZT,d1,d2,d3,d4,d5,d6,d7,GpN]
 by_cases hl:l.length>4
 ·rw [if_pos (by omega),if_pos hl]
 rw [if_neg (by omega),if_neg hl]
 have hs:Sm l:=by show _≤_; omega
 have key:(∀ r,GK (Gq9 l) 0 l=some r→∃ q,lp (H6 l) (0,[])=some (.inl q)∧q.1=r)∧(GK (Gq9 l) 0 l=none→∃ q,lp (H6 l) (0,[])=some (.inr q)∧True):=by
  refine GjA (l:=l) (mk:=fun k b=>(k,b)) fst (fun _ x r b=>(r,if r=12 then HU fst b (x.Purpose,true) else b)) (fun k x b=>HU fst b (x.Purpose,true)) (fun _ _ _ _=>rfl)
   (fun k b=>Gaw b (fun e=>(l.take k).any fun y=>decide (y.Purpose=e))) (fun k x b hx hb=>⟨?_,hb.put fun y=>Gfp hx _⟩) (fun b hb=>?_) (Gaw.nil fun k=>rfl)
  ·obtain ⟨hk,i1,i2,hkl,h1,h2⟩:=rd hs hx
   have hb:=hb x.Purpose
   simp only at hb
   simp only [H6,Qz,d1,d2,d3,d4,d5,d6,d7,hx,Option.bind_some,i1,if_true,hkl,hb,Gq9]
   clear i1 i2 hs hb
   rcases Hf ((l.take k).any fun y=>decide (y.Purpose=x.Purpose)) with hh | hh <;>
    simp only [hh,Option.isSome_some,Option.isSome_none,Option.bind_some,if_true,if_false,Bool.false_eq_true] <;> grind [GtE]
  ·refine ⟨b,?_,trivial⟩
   simp only [H6,Qz,d3,d6,d1]
   rw [if_neg (by omega)]
 cases he:GK (Gq9 l) 0 l with
 | some r=>
  obtain ⟨q,h1,h2⟩:=key.1 r he
  rw [h1]; simp only [Option.bind_some,eN,d1,Option.getD_some,h2]
 | none=>
  obtain ⟨q,h1,_⟩:=key.2 he
  rw [h1]; simp only [Option.bind_some,eM,d1,Option.getD_none]
theorem GnN (l:List Gr):Z3 l=some (GpN l):=by
 simp only [Z3,GiF,d1,d2,d3,d4,d5,d6,d7,GpN]
 by_cases hl:l.length>4
 ·rw [if_pos (by omega),if_pos hl]
 rw [if_neg (by omega),if_neg hl]
 have hs:Sm l:=by show _≤_; omega
 have key:lp (Mh l) 0=some (HL (GK (Gq9 l) 0 l)):=by
  refine GQ (fun k x hx=>?_) ?_
  ·obtain ⟨hk,i1,i2,hkl,h1,h2⟩:=rd hs hx
   have hq:lp (KP l k) 0=some (HL (if (l.take k).any (fun y=>decide (y.Purpose=x.Purpose)) then some () else none)):=by
    rw [← Hj (l.take k) 0]
    refine JE (l:=l) (n:=k) (by omega) (fun j y hj hy=>?_) ?_
    ·obtain ⟨_,i3,_,_,_,_⟩:=rd hs hy
     have hjk:(j:Int)<(k:Int):=by omega
     simp only [KP,UF,d1,d2,d3,d4,d5,d6,d7,hx,hy,Option.bind_some,i3,if_true,hjk]
     clear i1 i2 i3 hs
     grind [KC]
    ·simp only [KP,UF,d3,d6,d1]
     rw [if_neg (by omega)]
   simp only [Mh,Xr,d1,d2,d3,d4,d5,d6,d7,hx,hq,Option.bind_some,i1,if_true,hkl,Gq9]
   clear i1 i2 hs hq
   rcases Hf ((l.take k).any fun y=>decide (y.Purpose=x.Purpose)) with hh | hh <;> simp only [hh,HL,eN,eM,if_true,if_false,Bool.false_eq_true] <;> grind [KC]
  ·simp only [Mh,Xr,d3,d6,d1]
   rw [if_neg (by omega)]
 rw [key]
 cases GK (Gq9 l) 0 l <;> rfl
end
end Go.Proofs.YtnlaiahcemckkaaGreatDoor.Av
