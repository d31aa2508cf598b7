import Derived.Test.YtnlaiahcemckkaaGreatDoorHPEi
open Prod (fst)
open Int (tdiv tmod)
set_option maxHeartbeats 4000000
set_option maxRecDepth 100000
set_option linter.unusedVariables false
set_option linter.unusedSimpArgs false
namespace Go.Proofs.YtnlaiahcemckkaaGreatDoor.Av
noncomputable section
open Go Go.Proofs
def Gck (n_0:Int) (low_1:Int) (high_2:Int):HT Bool True:=.run [oc] (fun _=>He) <|
  .sp (n_0≥low_1)
  (.run (cs 2 (oa::oc::tc::oc::oa::(cs 2 []))) (fun γ=>Gb (dT γ.2)) <|
  .leaf (decide (n_0≤high_2)) [])
  (.run (cs 2 (oa::oc::oF::(cs 4 []))) (fun γ=>Gb (dF γ.2)) <|
  .leaf false [])
def JI (n_0:Int) (low_1:Int) (high_2:Int):Option Bool:=(Gck n_0 low_1 high_2).den
theorem Hd (n_0:Int) (low_1:Int) (high_2:Int) (r:Bool) (h:JI n_0 low_1 high_2=some r):G5 Tryz.prog GT 247 [jI n_0,jI low_1,jI high_2] (.bool r) []:=
 G5.of_ht 400 (Gck n_0 low_1 high_2) (fun (r:Bool)=>.bool r) (fun (r:Bool)=>[]) (by kernel_rfl) h
def GdN (w_0:Gm):HT Bool True:=.run (cs 2 []) (fun _=>He) <|
  .bd (JI w_0.Days 1 127) fun r1=>.sp (r1=true)
  (.sp (w_0.From≥(0:Int))
  (.sp (w_0.From<w_0.To)
  (.run (cs 2 ((.ret none [.any,.any,.any] (.bool r1) [])::oc::tc::oc::oa::(cs 2 (tc::(cs 3 (oa::(cs 2 (tc::oc::oa::(cs 2 []))))))))) (fun γ=>k2 (Hd w_0.Days 1 127 r1 γ.1.1.1.2) (k2 γ.1.1.2 (k2 (dT γ.1.2) (Gb (dT γ.2))))) <|
  .leaf (decide (w_0.To≤(1440:Int))) [])
  (.run (cs 2 ((.ret none [.any,.any,.any] (.bool r1) [])::oc::tc::oc::oa::(cs 2 (tc::(cs 3 (oa::(cs 2 (oF::(cs 4 []))))))))) (fun γ=>k2 (Hd w_0.Days 1 127 r1 γ.1.1.1.2) (k2 γ.1.1.2 (k2 (dT γ.1.2) (Gb (dF γ.2))))) <|
  .leaf false []))
  (.run (cs 2 ((.ret none [.any,.any,.any] (.bool r1) [])::oc::tc::oc::oa::(cs 2 (oF::(cs 11 []))))) (fun γ=>k2 (Hd w_0.Days 1 127 r1 γ.1.1.2) (k2 γ.1.2 (Gb (dF γ.2)))) <|
  .leaf false []))
  (.run (cs 2 ((.ret none [.any,.any,.any] (.bool r1) [])::oc::oF::(cs 16 []))) (fun γ=>k2 (Hd w_0.Days 1 127 r1 γ.1.2) (Gb ((eq_false_of_ne_true γ.2):r1=false))) <|
  .leaf false [])
def GdP (w_0:Gm):Option Bool:=(GdN w_0).den
theorem GmG (w_0:Gm) (r:Bool) (h:GdP w_0=some r):G5 Tryz.prog GT 245 [.agg (Gm.enc w_0)] (.bool r) []:=
 G5.of_ht 400 (GdN w_0) (fun (r:Bool)=>.bool r) (fun (r:Bool)=>[]) (by kernel_rfl) h
def RQ (l_0:(List Gv)):Nat→HT (Nat⊕(Int⊕Unit)) True
 | k16=>.run [oa] (fun _=>He) <|
  .sp ((↑k16:Int)<(↑l_0.length:Int))
  (.run [bt] (fun γ=>Gb (dT γ.2)) <|
  .bd (l_0[k16]?) fun x29=>.run (oc::(.op none (.i k16))::(.op none (.v [jI x29.Upto,jI x29.Unit,jI x29.Cents]))::(cs 3 [])) (fun γ=>k2 (ir γ.2) (k2 (GC (f:=Gv.enc) (z:=2) (fun _=>rfl) γ.2) (Gb (GU (f:=Gv.enc) (z:=3) (j:=k16) (fun _=>rfl) γ.2 rfl)))) <|
  .gd (GP .i64 ((↑l_0.length:Int) - 1)) <| .run (cs 3 [ow,oa,oc]) (fun γ=>Gb γ.2) <|
  .bd (JI x29.Unit 1 68719476736) fun r32=>.sp (r32=true)
  (.bd (JI x29.Cents 0 2147483648) fun r35=>.run (cs 2 ((.ret none [.any,.any,.any] (.bool r32) [])::(cs 2 (oF::oc::(.ret none [.any,.any,.any] (.bool r35) [])::(cs 3 []))))) (fun γ=>k2 (Hd x29.Unit 1 68719476736 r32 γ.1.1.2) (k2 ((Gs γ.1.2):(!r32)=false) (Gb (Hd x29.Cents 0 2147483648 r35 γ.2)))) <|
  .sp (r35=true)
  (.run [bf] (fun γ=>Gb ((Gs γ.2):(!r35)=false)) <|
  .sp ((↑k16:Int)=((↑l_0.length:Int) - 1))
  (.sp (x29.Upto=(0:Int))
  (.run (cs 2 (tc::oc::oa::(cs 2 (oF::(cs 2 (oF::(cs 6 (bf::(cs 3 (oF::oF::(.op none (.b false))::(cs 12 [bf]))))))))))) (fun γ=>k2 (Gp γ.1.2) (k2 (Gs (Gp γ.2)) (k2 (Gs (Gp γ.1.2)) (k2 (rfl:false=false) (k2 (Gs (Gp γ.1.2)) (k2 (Gs (Gp γ.1.2)) (k2 (Gs (Gp γ.1.2)) (Gb (rfl:false=false))))))))) <|
  .gd (GP .i64 ((↑k16:Int)+1)) <| .run [ow,oc] (fun γ=>Gb γ.2) <|
  .leaf (Sum.inl (k16+1)) [])
  (.run (cs 2 (tc::oc::oa::(cs 2 (tc::(cs 9 [bt,oc]))))) (fun γ=>k2 (Gp γ.1.2) (k2 (Gu (Gw γ.2)) (Gb (rfl:true=true)))) <|
  .leaf (Sum.inr (Sum.inl 12)) []))
  (.bd (JI x29.Upto 1 68719476736) fun r41=>.run (cs 2 (oF::(cs 7 (tc::oc::(.ret none [.any,.any,.any] (.bool r41) [])::(cs 4 []))))) (fun γ=>k2 (Gw γ.1.2) (k2 (Gu (Gw γ.1.2)) (Gb (Hd x29.Upto 1 68719476736 r41 γ.2)))) <|
  .sp (r41=true)
  (.run [bf] (fun γ=>Gb ((Gs γ.2):(!r41)=false)) <|
  .sp ((↑k16:Int)>(0:Int))
  (.gd (GP .i64 ((↑k16:Int) - 1)) <| .gd ((0:Int)≤((↑k16:Int) - 1)) <| .bd (l_0[(Int.toNat ((↑k16:Int) - 1))]?) fun x47=>.run (cs 3 [tc,ta,.op none (.b true),oc,tc,tc,tc,tc,tw,.op (some true) (.i (Int.toNat ((↑k16:Int) - 1))),tc,.op (some true) (.v [jI x47.Upto]),ta,.op none (.b true),oc]) (fun γ=>k2 (Gu (Gw γ.1.1.1.1.1.1.2)) (k2 (Gu (Gw γ.1.1.1.1.1.1.2)) (k2 (Gu (Gw γ.1.1.1.1.1.1.2)) (k2 (dT γ.1.1.1.2) (k2 (dT γ.1.1.1.2) (k2 (dT γ.1.1.1.2) (k2 (dT γ.1.1.1.2) (k2 (dT γ.1.1.1.2) (k2 γ.1.1.2 (k2 (dT γ.1.1.1.2) (k2 (ix γ.1.2 γ.2) (k2 (GC (f:=Gv.enc) (z:=2) (fun _=>rfl) γ.2) (k2 (dT γ.1.1.1.2) (k2 (dT γ.1.1.1.2) (k2 (GL (f:=Gv.enc) (z:=3) (j:=(Int.toNat ((↑k16:Int) - 1))) (a:=0) (n:=1) (fun _=>rfl) γ.2 (by decide) rfl) (k2 (dT γ.1.1.1.2) (Gb (dT γ.1.1.1.2)))))))))))))))))) <|
  .sp (x29.Upto≤x47.Upto)
  (.run [bt,oc] (fun γ=>Gb (dT γ.2)) <|
  .leaf (Sum.inr (Sum.inl 15)) [])
  (.run [bf] (fun γ=>Gb (dF γ.2)) <|
  .gd (GP .i64 ((↑k16:Int)+1)) <| .run [ow,oc] (fun γ=>Gb γ.2) <|
  .leaf (Sum.inl (k16+1)) []))
  (.run (cs 3 [tc,ta,.op none (.b true),oc,oF,oF,oF,oF,oF,oF,oF,oF,oF,.op none (.b false),oc,bf]) (fun γ=>k2 (Gu (Gw γ.1.1.1.2)) (k2 (Gu (Gw γ.1.1.1.2)) (k2 (Gu (Gw γ.1.1.1.2)) (k2 (dF γ.2) (k2 (dF γ.2) (k2 (dF γ.2) (k2 (dF γ.2) (k2 (dF γ.2) (k2 (dF γ.2) (k2 (dF γ.2) (k2 (dF γ.2) (k2 (dF γ.2) (k2 (dF γ.2) (Gb (rfl:false=false))))))))))))))) <|
  .gd (GP .i64 ((↑k16:Int)+1)) <| .run [ow,oc] (fun γ=>Gb γ.2) <|
  .leaf (Sum.inl (k16+1)) []))
  (.run [bt,oc] (fun γ=>Gb ((Gu (eq_false_of_ne_true γ.2)):(!r41)=true)) <|
  .leaf (Sum.inr (Sum.inl 12)) [])))
  (.run [bt,oc] (fun γ=>Gb ((Gu (eq_false_of_ne_true γ.2)):(!r35)=true)) <|
  .leaf (Sum.inr (Sum.inl 1)) []))
  (.run (cs 2 ((.ret none [.any,.any,.any] (.bool r32) [])::(cs 2 (tc::(cs 5 [bt,oc]))))) (fun γ=>k2 (Hd x29.Unit 1 68719476736 r32 γ.1.2) (k2 ((Gu (eq_false_of_ne_true γ.2)):(!r32)=true) (Gb (rfl:true=true)))) <|
  .leaf (Sum.inr (Sum.inl 1)) []))
  (.run [bf] (fun γ=>Gb (dF γ.2)) <|
  .leaf (Sum.inr (Sum.inr (()))) [])
def Kn (l_0:(List Gv)):Nat→Option (Nat⊕(Int⊕Unit)):=fun s=>(RQ l_0 s).den
def Geq (l_0:(List Gv)):Nat→PS:=fun s=>(73,[(0,.lst (fl Gv.enc l_0) l_0.length),(14,.lst (fl Gv.enc l_0) l_0.length),(15,jI (↑l_0.length:Int)),(16,jI (↑s:Int))],[])
def Gex:(Int⊕Unit)→Hm:=fun q=>match q with | Sum.inl o=>.ret | Sum.inr (o)=>(.exit 1)
def Gey (l_0:(List Gv)):(Int⊕Unit)→List (Nat×AV):=fun q=>match q with | Sum.inl o=>[(2,jI o)] | Sum.inr (o)=>[]
def GeA (l_0:(List Gv)):(Int⊕Unit)→List G6:=fun q=>match q with | Sum.inl o=>[] | Sum.inr (o)=>[]
theorem GaI (l_0:(List Gv)) {s:Nat} {r:Int⊕Unit} (h:lp (Kn l_0) s=some r):GI Tryz.prog GT 0 (.loop (GO Tryz.prog 246 [1,1,0,1,0,0])) (Geq l_0 s).st (Gex r) (PS.st (73,Gey l_0 r,GeA l_0 r)):=
 GI.lp_ht 0 400 (Geq l_0) Gex (fun q=>(73,Gey l_0 q,GeA l_0 q)) (RQ l_0) (by intro k16; kernel_rfl) h
def GdZ (l_0:(List Gv)):HT Int True:=.run (cs 3 [oa,oc]) (fun _=>He) <|
  .sp ((↑l_0.length:Int)>(16:Int))
  (.run [bt,oc] (fun γ=>Gb (dT γ.2)) <|
  .leaf 3 [])
  (.run (bf::(cs 2 [oa,oc])) (fun γ=>Gb (dF γ.2)) <|
  .sp ((↑l_0.length:Int)=(0:Int))
  (.run [bt,oc] (fun γ=>Gb (Gp γ.2)) <|
  .leaf 1 [])
  (.run (bf::(cs 3 [])) (fun γ=>Gb (Gw γ.2)) <|
  .bd (lp (Kn l_0) (0:Nat)) fun qq=>.cs qq (fun o3=>.run [.fcut 0 .ret [(2,jI o3)] [] [] [(0,.any),(14,.any),(15,.any),(16,jI (↑(0:Nat):Int))] []] (fun γ=>k2 (rfl:(jI 0:AV)=jI (↑(0:Nat):Int)) (Gb (GaI l_0 (s:=(0:Nat)) (r:=Sum.inl o3) (eS γ.1.2 γ.2)))) <|
  .leaf o3 [])
  (fun o3=>.run [.fcut 0 (.exit 1) [] [] [] [(0,.any),(14,.any),(15,.any),(16,jI (↑(0:Nat):Int))] [],oc] (fun γ=>k2 (rfl:(jI 0:AV)=jI (↑(0:Nat):Int)) (Gb (GaI l_0 (s:=(0:Nat)) (r:=Sum.inr (o3)) (eS γ.1.2 γ.2)))) <|
  .leaf 0 [])))
def GdW (l_0:(List Gv)):Option Int:=(GdZ l_0).den
theorem GmH (l_0:(List Gv)) (r:Int) (h:GdW l_0=some r):G5 Tryz.prog GT 246 [.lst (fl Gv.enc l_0) l_0.length] (jI r) []:=
 G5.of_ht 400 (GdZ l_0) (fun (r:Int)=>jI r) (fun (r:Int)=>[]) (by kernel_rfl) h
def RP (z_0:Gg):Nat→HT (Nat⊕(Unit⊕Unit)) True
 | k17=>.run [oa] (fun _=>He) <|
  .sp ((↑k17:Int)<(↑z_0.Hours.length:Int))
  (.run [bt] (fun γ=>Gb (dT γ.2)) <|
  .bd (z_0.Hours[k17]?) fun x14=>.run ((.op none (.i k17))::(.op none (.v [jI x14.Days,jI x14.From,jI x14.To]))::(cs 2 [])) (fun γ=>k2 (ir γ.2) (k2 (GC (f:=Gm.enc) (z:=2) (fun _=>rfl) γ.2) (Gb (GU (f:=Gm.enc) (z:=3) (j:=k17) (fun _=>rfl) γ.2 rfl)))) <|
  .bd (GdP x14) fun r16=>.run [oc,.ret none [.any] (.bool r16) [],oc] (fun γ=>Gb (GmG x14 r16 γ.2)) <|
  .sp (r16=true)
  (.run [bf] (fun γ=>Gb ((Gs γ.2):(!r16)=false)) <|
  .gd (GP .i64 ((↑k17:Int)+1)) <| .run [ow,oc] (fun γ=>Gb γ.2) <|
  .leaf (Sum.inl (k17+1)) [0])
  (.run [bt,oc] (fun γ=>Gb ((Gu (eq_false_of_ne_true γ.2)):(!r16)=true)) <|
  .leaf (Sum.inr (Sum.inl ())) [0]))
  (.run [bf] (fun γ=>Gb (dF γ.2)) <|
  .leaf (Sum.inr (Sum.inr (()))) [0])
def Kq (z_0:Gg):Nat→Option (Nat⊕(Unit⊕Unit)):=fun s=>(RP z_0 s).den
def Geg (z_0:Gg):Nat→PS:=fun s=>(53,[(1,.ptr 0 0),(15,.lst (fl Gm.enc z_0.Hours) z_0.Hours.length),(16,jI (↑z_0.Hours.length:Int)),(17,jI (↑s:Int))],[(bT (Gg.enc z_0) 192)])
def Gel:(Unit⊕Unit)→Hm:=fun q=>match q with | Sum.inl o=>.ret | Sum.inr (o)=>(.exit 0)
def Gep (z_0:Gg):(Unit⊕Unit)→List (Nat×AV):=fun q=>match q with | Sum.inl o=>[(2,jI 12)] | Sum.inr (o)=>[(1,.ptr 0 0)]
def Get (z_0:Gg):(Unit⊕Unit)→List G6:=fun q=>match q with | Sum.inl o=>[(bT (Gg.enc z_0) 192)] | Sum.inr (o)=>[(bT (Gg.enc z_0) 192)]
theorem ZV (z_0:Gg) {s:Nat} {r:Unit⊕Unit} (h:lp (Kq z_0) s=some r):GI Tryz.prog GT 1 (.loop (GO Tryz.prog 178 [1,1,1,0,1,0,0])) (Geg z_0 s).st (Gel r) (PS.st (53,Gep z_0 r,Get z_0 r)):=
 GI.lp_ht 1 400 (Geg z_0) Gel (fun q=>(53,Gep z_0 q,Get z_0 q)) (RP z_0) (by intro k17; kernel_rfl) h
def Gd7 (z_0:Gg):HT Int True:=.run (cs 2 []) (fun _=>He) <|
  .bd (HC z_0.Name) fun r1=>.run (cs 2 [.ret none [.any] (.bool r1) [],oc]) (fun γ=>Gb (Ha z_0.Name r1 γ.2)) <|
  .sp (r1=true)
  (.run (bf::(cs 3 [oa])) (fun γ=>Gb ((Gs γ.2):(!r1)=false)) <|
  .sp ((↑z_0.Hours.length:Int)>(32:Int))
  (.run [bt,oc] (fun γ=>Gb (dT γ.2)) <|
  .leaf 3 [])
  (.run (bf::(cs 4 [])) (fun γ=>Gb (dF γ.2)) <|
  .bd (lp (Kq z_0) (0:Nat)) fun qq=>.cs qq (fun o5=>.run [.fcut 1 .ret [(2,jI 12)] [(bT (Gg.enc z_0) 192)] [0] [(1,.any),(15,.any),(16,.any),(17,jI (↑(0:Nat):Int))] [bS]] (fun γ=>k2 (rfl:(jI 0:AV)=jI (↑(0:Nat):Int)) (Gb (ZV z_0 (s:=(0:Nat)) (r:=Sum.inl o5) (eS γ.1.2 γ.2)))) <|
  .leaf 12 [])
  (fun o5=>.run [.fcut 1 (.exit 0) [(1,.ptr 0 0)] [(bT (Gg.enc z_0) 192)] [0] [(1,.any),(15,.any),(16,.any),(17,jI (↑(0:Nat):Int))] [bS]] (fun γ=>k2 (rfl:(jI 0:AV)=jI (↑(0:Nat):Int)) (Gb (ZV z_0 (s:=(0:Nat)) (r:=Sum.inr (o5)) (eS γ.1.2 γ.2)))) <|
  .bd (GdW z_0.Steps) fun r20=>.run (cs 2 ((.ret none [.any] (jI r20) [])::(cs 2 [oa]))) (fun γ=>Gb (GmH z_0.Steps r20 γ.2)) <|
  .sp (r20=(0:Int))
  (.run [bf] (fun γ=>Gb (Gs (Gp γ.2))) <|
  .bd (JI z_0.Grace 0 68719476736) fun r23=>.sp (r23=true)
  (.bd (JI z_0.Free 0 68719476736) fun r26=>.sp (r26=true)
  (.bd (JI z_0.MaxStay 0 68719476736) fun r29=>.run (cs 2 ((.ret none [.any,.any,.any] (.bool r23) [])::(cs 2 (oF::oc::(.ret none [.any,.any,.any] (.bool r26) [])::(cs 3 (oF::oc::(.ret none [.any,.any,.any] (.bool r29) [])::(cs 3 []))))))) (fun γ=>k2 (Hd z_0.Grace 0 68719476736 r23 γ.1.1.1.1.2) (k2 ((Gs γ.1.1.1.2):(!r23)=false) (k2 (Hd z_0.Free 0 68719476736 r26 γ.1.1.2) (k2 ((Gs γ.1.2):(!r26)=false) (Gb (Hd z_0.MaxStay 0 68719476736 r29 γ.2)))))) <|
  .sp (r29=true)
  (.run [bf] (fun γ=>Gb ((Gs γ.2):(!r29)=false)) <|
  .bd (JI z_0.DayMax 0 1125899906842624) fun r32=>.run (cs 2 ((.ret none [.any,.any,.any] (.bool r32) [])::(cs 2 []))) (fun γ=>Gb (Hd z_0.DayMax 0 1125899906842624 r32 γ.2)) <|
  .sp (r32=true)
  (.run [bf,oc] (fun γ=>Gb ((Gs γ.2):(!r32)=false)) <|
  .leaf 0 [])
  (.run [bt,oc] (fun γ=>Gb ((Gu (eq_false_of_ne_true γ.2)):(!r32)=true)) <|
  .leaf 13 []))
  (.run [bt,oc] (fun γ=>Gb ((Gu (eq_false_of_ne_true γ.2)):(!r29)=true)) <|
  .leaf 12 []))
  (.run (cs 2 ((.ret none [.any,.any,.any] (.bool r23) [])::(cs 2 (oF::oc::(.ret none [.any,.any,.any] (.bool r26) [])::(cs 3 (tc::(cs 5 [bt,oc]))))))) (fun γ=>k2 (Hd z_0.Grace 0 68719476736 r23 γ.1.1.1.2) (k2 ((Gs γ.1.1.2):(!r23)=false) (k2 (Hd z_0.Free 0 68719476736 r26 γ.1.2) (k2 ((Gu (eq_false_of_ne_true γ.2)):(!r26)=true) (Gb (rfl:true=true)))))) <|
  .leaf 12 []))
  (.run (cs 2 ((.ret none [.any,.any,.any] (.bool r23) [])::(cs 2 (tc::(cs 11 [bt,oc]))))) (fun γ=>k2 (Hd z_0.Grace 0 68719476736 r23 γ.1.2) (k2 ((Gu (eq_false_of_ne_true γ.2)):(!r23)=true) (Gb (rfl:true=true)))) <|
  .leaf 12 []))
  (.run (bt::(cs 2 [])) (fun γ=>Gb (Gu (Gw γ.2))) <|
  .leaf r20 []))))
  (.run [bt,oc] (fun γ=>Gb ((Gu (eq_false_of_ne_true γ.2)):(!r1)=true)) <|
  .leaf 6 [])
def Ged (z_0:Gg):Option Int:=(Gd7 z_0).den
theorem GmS (z_0:Gg) (r:Int) (h:Ged z_0=some r):G5 Tryz.prog GT 178 [.agg (Gg.enc z_0)] (jI r) []:=
 G5.of_ht 400 (Gd7 z_0) (fun (r:Int)=>jI r) (fun (r:Int)=>[]) (by kernel_rfl) h
def U6 (l_0:(List Gg)) (name_1:(List UInt8)):Nat→HT (Nat⊕(((List UInt8)×(List Gm)×(List Gv)×Int×Int×Int×Int)⊕Unit)) True
 | k10=>.run [oa] (fun _=>He) <|
  .sp ((↑k10:Int)<(↑l_0.length:Int))
  (.run [bt] (fun γ=>Gb (dT γ.2)) <|
  .bd (l_0[k10]?) fun x14=>.run ((.op none (.i k10))::(.op none (.v [.str x14.Name,.lst (fl Gm.enc x14.Hours) x14.Hours.length,.lst (fl Gv.enc x14.Steps) x14.Steps.length,jI x14.Grace,jI x14.Free,jI x14.DayMax,jI x14.MaxStay]))::(cs 5 [oa])) (fun γ=>k2 (ir γ.2) (k2 (GC (f:=Gg.enc) (z:=6) (fun _=>rfl) γ.2) (Gb (GU (f:=Gg.enc) (z:=7) (j:=k10) (fun _=>rfl) γ.2 rfl)))) <|
  .sp (x14.Name=name_1)
  (.run [bt] (fun γ=>Gb (Gp γ.2)) <|
  .sp (0<x14.Hours.length)
  (.gd (x14.Hours.length≤4294967296) <| .sp (0<x14.Steps.length)
  (.gd (x14.Steps.length≤4294967296) <| .run (cs 6 ((.op none (.ap 2))::(cs 4 ((.op none (.ap 2))::(cs 6 [.tr (.frz [.c 0 1] (fl Gm.enc x14.Hours) x14.Hours.length),.tr (.frz [.c 0 2] (fl Gv.enc x14.Steps) x14.Steps.length)]))))) (fun γ=>k2 ((HD (f:=Gm.enc) (z:=3) (fun _=>rfl) _):List.length ((fl Gm.enc x14.Hours):List AV)=(x14.Hours.length*3)) (k2 γ.1.1.1.2 (k2 γ.1.1.2 (k2 ((HD (f:=Gv.enc) (z:=3) (fun _=>rfl) _):List.length ((fl Gv.enc x14.Steps):List AV)=(x14.Steps.length*3)) (k2 γ.1.2 (k2 γ.2 (k2 (⟨rfl,Gmt (HD (f:=Gm.enc) (z:=3) (fun _=>rfl) _),rfl,Nat.le_of_eq ((Nat.zero_add _).trans (HD (f:=Gm.enc) (z:=3) (fun _=>rfl) _).symm),Nat.le_refl _⟩:4=4∧sub (fl Gm.enc x14.Hours) 0 (x14.Hours.length*3)=(fl Gm.enc x14.Hours)∧x14.Hours.length=x14.Hours.length∧0+(x14.Hours.length*3)≤List.length ((fl Gm.enc x14.Hours):List AV)∧x14.Hours.length≤x14.Hours.length) (Gb (⟨rfl,Gmt (HD (f:=Gv.enc) (z:=3) (fun _=>rfl) _),rfl,Nat.le_of_eq ((Nat.zero_add _).trans (HD (f:=Gv.enc) (z:=3) (fun _=>rfl) _).symm),Nat.le_refl _⟩:5=5∧sub (fl Gv.enc x14.Steps) 0 (x14.Steps.length*3)=(fl Gv.enc x14.Steps)∧x14.Steps.length=x14.Steps.length∧0+(x14.Steps.length*3)≤List.length ((fl Gv.enc x14.Steps):List AV)∧x14.Steps.length≤x14.Steps.length))))))))) <|
  .leaf (Sum.inr (Sum.inl (x14.Name,x14.Hours,x14.Steps,x14.Grace,x14.Free,x14.DayMax,x14.MaxStay))) [0])
  (.run (cs 6 ((.op none (.ap 2))::(cs 4 ((.op none (.ap 0))::(cs 6 [.tr (.frz [.c 0 1] (fl Gm.enc x14.Hours) x14.Hours.length),.tr (.nl (.c 0 2))]))))) (fun γ=>k2 ((HD (f:=Gm.enc) (z:=3) (fun _=>rfl) _):List.length ((fl Gm.enc x14.Hours):List AV)=(x14.Hours.length*3)) (k2 γ.1.1.2 (k2 γ.1.2 (k2 ((HD (f:=Gv.enc) (z:=3) (fun _=>rfl) _):List.length ((fl Gv.enc x14.Steps):List AV)=(x14.Steps.length*3)) (k2 ((Nat.eq_zero_of_not_pos γ.2):x14.Steps.length=0) (Gb (⟨rfl,Gmt (HD (f:=Gm.enc) (z:=3) (fun _=>rfl) _),rfl,Nat.le_of_eq ((Nat.zero_add _).trans (HD (f:=Gm.enc) (z:=3) (fun _=>rfl) _).symm),Nat.le_refl _⟩:4=4∧sub (fl Gm.enc x14.Hours) 0 (x14.Hours.length*3)=(fl Gm.enc x14.Hours)∧x14.Hours.length=x14.Hours.length∧0+(x14.Hours.length*3)≤List.length ((fl Gm.enc x14.Hours):List AV)∧x14.Hours.length≤x14.Hours.length))))))) <|
  .leaf (Sum.inr (Sum.inl (x14.Name,x14.Hours,[],x14.Grace,x14.Free,x14.DayMax,x14.MaxStay))) [0]))
  (.sp (0<x14.Steps.length)
  (.gd (x14.Steps.length≤4294967296) <| .run (cs 6 ((.op none (.ap 0))::(cs 4 ((.op none (.ap 2))::(cs 6 [.tr (.nl (.c 0 1)),.tr (.frz [.c 0 2] (fl Gv.enc x14.Steps) x14.Steps.length)]))))) (fun γ=>k2 ((HD (f:=Gm.enc) (z:=3) (fun _=>rfl) _):List.length ((fl Gm.enc x14.Hours):List AV)=(x14.Hours.length*3)) (k2 ((Nat.eq_zero_of_not_pos γ.1.1.2):x14.Hours.length=0) (k2 ((HD (f:=Gv.enc) (z:=3) (fun _=>rfl) _):List.length ((fl Gv.enc x14.Steps):List AV)=(x14.Steps.length*3)) (k2 γ.1.2 (k2 γ.2 (Gb (⟨rfl,Gmt (HD (f:=Gv.enc) (z:=3) (fun _=>rfl) _),rfl,Nat.le_of_eq ((Nat.zero_add _).trans (HD (f:=Gv.enc) (z:=3) (fun _=>rfl) _).symm),Nat.le_refl _⟩:4=4∧sub (fl Gv.enc x14.Steps) 0 (x14.Steps.length*3)=(fl Gv.enc x14.Steps)∧x14.Steps.length=x14.Steps.length∧0+(x14.Steps.length*3)≤List.length ((fl Gv.enc x14.Steps):List AV)∧x14.Steps.length≤x14.Steps.length))))))) <|
  .leaf (Sum.inr (Sum.inl (x14.Name,[],x14.Steps,x14.Grace,x14.Free,x14.DayMax,x14.MaxStay))) [0])
  (.run (cs 6 ((.op none (.ap 0))::(cs 4 ((.op none (.ap 0))::(cs 6 [.tr (.unp 0),.tr (.nl (.c 0 1)),.tr (.nl (.c 0 2))]))))) (fun γ=>k2 ((HD (f:=Gm.enc) (z:=3) (fun _=>rfl) _):List.length ((fl Gm.enc x14.Hours):List AV)=(x14.Hours.length*3)) (k2 ((Nat.eq_zero_of_not_pos γ.1.2):x14.Hours.length=0) (k2 ((HD (f:=Gv.enc) (z:=3) (fun _=>rfl) _):List.length ((fl Gv.enc x14.Steps):List AV)=(x14.Steps.length*3)) (Gb ((Nat.eq_zero_of_not_pos γ.2):x14.Steps.length=0))))) <|
  .leaf (Sum.inr (Sum.inl (x14.Name,[],[],x14.Grace,x14.Free,x14.DayMax,x14.MaxStay))) [0])))
  (.run [bf] (fun γ=>Gb (Gw γ.2)) <|
  .gd (GP .i64 ((↑k10:Int)+1)) <| .run [ow,oc] (fun γ=>Gb γ.2) <|
  .leaf (Sum.inl (k10+1)) [0]))
  (.run [bf] (fun γ=>Gb (dF γ.2)) <|
  .leaf (Sum.inr (Sum.inr (()))) [0])
def KH (l_0:(List Gg)) (name_1:(List UInt8)):Nat→Option (Nat⊕(((List UInt8)×(List Gm)×(List Gv)×Int×Int×Int×Int)⊕Unit)):=fun s=>(U6 l_0 name_1 s).den
def Ggp (l_0:(List Gg)) (name_1:(List UInt8)):Nat→PS:=fun s=>(22,[(1,.str name_1),(4,.ptr 0 0),(8,.lst (fl Gg.enc l_0) l_0.length),(9,jI (↑l_0.length:Int)),(10,jI (↑s:Int))],[(bT [.str [],.nils,.nils,jI 0,jI 0,jI 0,jI 0] 192)])
def Ggf:(((List UInt8)×(List Gm)×(List Gv)×Int×Int×Int×Int)⊕Unit)→Hm:=fun q=>match q with | Sum.inl o=>.ret | Sum.inr (o)=>(.exit 0)
def GeO (l_0:(List Gg)) (name_1:(List UInt8)):(((List UInt8)×(List Gm)×(List Gv)×Int×Int×Int×Int)⊕Unit)→List (Nat×AV):=fun q=>match q with | Sum.inl o=>[(4,.ptr 0 0),(5,.bool true)] | Sum.inr (o)=>[(4,.ptr 0 0)]
def UW (l_0:(List Gg)) (name_1:(List UInt8)):(((List UInt8)×(List Gm)×(List Gv)×Int×Int×Int×Int)⊕Unit)→List G6:=fun q=>match q with | Sum.inl o=>[(bF [.str o.1,.lst (fl Gm.enc o.2.1) o.2.1.length,.lst (fl Gv.enc o.2.2.1) o.2.2.1.length,jI o.2.2.2.1,jI o.2.2.2.2.1,jI o.2.2.2.2.2.1,jI o.2.2.2.2.2.2] 192)] | Sum.inr (o)=>[(bT [.str [],.nils,.nils,jI 0,jI 0,jI 0,jI 0] 192)]
theorem Gcd (l_0:(List Gg)) (name_1:(List UInt8)) {s:Nat} {r:((List UInt8)×(List Gm)×(List Gv)×Int×Int×Int×Int)⊕Unit} (h:lp (KH l_0 name_1) s=some r):GI Tryz.prog GT 1 (.loop (GO Tryz.prog 179 [1,0,1,0,0])) (Ggp l_0 name_1 s).st (Ggf r) (PS.st (22,GeO l_0 name_1 r,UW l_0 name_1 r)):=
 GI.lp_ht 1 400 (Ggp l_0 name_1) Ggf (fun q=>(22,GeO l_0 name_1 q,UW l_0 name_1 q)) (U6 l_0 name_1) (by intro k10; kernel_rfl) h
def Ggs (l_0:(List Gg)) (name_1:(List UInt8)):HT (Gg×Bool) True:=.run (cs 5 []) (fun _=>He) <|
  .bd (lp (KH l_0 name_1) (0:Nat)) fun qq=>.cs qq (fun o1=>.run [.fcut 1 .ret [(4,.ptr 0 0),(5,.bool true)] (UW l_0 name_1 (Sum.inl o1)) [0] [(1,.any),(4,.any),(8,.any),(9,.any),(10,jI (↑(0:Nat):Int))] [bS]] (fun γ=>k2 (rfl:(jI 0:AV)=jI (↑(0:Nat):Int)) (Gb (Gcd l_0 name_1 (s:=(0:Nat)) (r:=Sum.inl o1) (eS γ.1.2 γ.2)))) <|
  .leaf ((⟨o1.1,o1.2.1,o1.2.2.1,o1.2.2.2.1,o1.2.2.2.2.1,o1.2.2.2.2.2.1,o1.2.2.2.2.2.2⟩:Gg),true) [])
  (fun o1=>.run ((.fcut 1 (.exit 0) [(4,.ptr 0 0)] (UW l_0 name_1 (Sum.inr (o1))) [0] [(1,.any),(4,.any),(8,.any),(9,.any),(10,jI (↑(0:Nat):Int))] [bS])::(cs 3 [])) (fun γ=>k2 (rfl:(jI 0:AV)=jI (↑(0:Nat):Int)) (Gb (Gcd l_0 name_1 (s:=(0:Nat)) (r:=Sum.inr (o1)) (eS γ.1.2 γ.2)))) <|
  .leaf ((⟨([]:List UInt8),[],[],0,0,0,0⟩:Gg),false) [])
def Gdn (l_0:(List Gg)) (name_1:(List UInt8)):Option (Gg×Bool):=(Ggs l_0 name_1).den
theorem Gif (l_0:(List Gg)) (name_1:(List UInt8)) (r:(Gg×Bool)) (h:Gdn l_0 name_1=some r):G5 Tryz.prog GT 179 [.lst (fl Gg.enc l_0) l_0.length,.str name_1] (.tup [.agg (Gg.enc r.1),.bool r.2]) []:=
 G5.of_ht 400 (Ggs l_0 name_1) (fun (r:(Gg×Bool))=>.tup [.agg (Gg.enc r.1),.bool r.2]) (fun (r:(Gg×Bool))=>[]) (by kernel_rfl) h
def MP (l_0:(List Gg)):Nat→HT (Nat⊕(Int⊕Unit)) True
 | k13=>.run [oa] (fun _=>He) <|
  .sp ((↑k13:Int)<(↑l_0.length:Int))
  (.run [bt] (fun γ=>Gb (dT γ.2)) <|
  .bd (l_0[k13]?) fun x15=>.run (oc::(.op none (.i k13))::(.op none (.v [.str x15.Name,.lst (fl Gm.enc x15.Hours) x15.Hours.length,.lst (fl Gv.enc x15.Steps) x15.Steps.length,jI x15.Grace,jI x15.Free,jI x15.DayMax,jI x15.MaxStay]))::(cs 3 [])) (fun γ=>k2 (ir γ.2) (k2 (GC (f:=Gg.enc) (z:=6) (fun _=>rfl) γ.2) (Gb (GU (f:=Gg.enc) (z:=7) (j:=k13) (fun _=>rfl) γ.2 rfl)))) <|
  .bd (Ged x15) fun r17=>.run (oc::(.ret none [.any] (jI r17) [])::(cs 2 [oa])) (fun γ=>Gb (GmS x15 r17 γ.2)) <|
  .sp (r17=(0:Int))
  (.run [bf] (fun γ=>Gb (Gs (Gp γ.2))) <|
  .gd (k13≤l_0.length) <| .bd (Gdn (List.take k13 l_0) x15.Name) fun r21=>.run (cs 2 ((.op none (.s 0 k13))::(.trp (.eqt (.t 26) (.lst (fl Gg.enc (List.take k13 l_0)) ((List.take k13 l_0).length))))::(cs 2 ((.ret none [.any,.any] (.tup [.agg (Gg.enc r21.1),.bool r21.2]) [])::(cs 7 []))))) (fun γ=>k2 (rfl:(↑k13:Int)=((k13:Nat):Int)) (k2 (⟨Nat.zero_le _,γ.1.2⟩:0≤k13∧k13≤l_0.length) (k2 ((VW (Ri (f:=Gg.enc) (z:=7) (fun _=>rfl) _ _) (by rw [List.length_take]; omega)):(.lst (List.take (k13*7) (fl Gg.enc l_0)) k13:AV)=.lst (fl Gg.enc (List.take k13 l_0)) ((List.take k13 l_0).length)) (Gb (Gif (List.take k13 l_0) x15.Name r21 γ.2))))) <|
  .sp (r21.2=true)
  (.run [bt,oc] (fun γ=>Gb γ.2) <|
  .leaf (Sum.inr (Sum.inl 9)) [])
  (.run [bf] (fun γ=>Gb ((eq_false_of_ne_true γ.2):r21.2=false)) <|
  .gd (GP .i64 ((↑k13:Int)+1)) <| .run [ow,oc] (fun γ=>Gb γ.2) <|
  .leaf (Sum.inl (k13+1)) []))
  (.run (bt::(cs 2 [])) (fun γ=>Gb (Gu (Gw γ.2))) <|
  .leaf (Sum.inr (Sum.inl r17)) []))
  (.run [bf] (fun γ=>Gb (dF γ.2)) <|
  .leaf (Sum.inr (Sum.inr (()))) [])
def Jw (l_0:(List Gg)):Nat→Option (Nat⊕(Int⊕Unit)):=fun s=>(MP l_0 s).den
def ZE (l_0:(List Gg)):Nat→PS:=fun s=>(34,[(0,.lst (fl Gg.enc l_0) l_0.length),(11,.lst (fl Gg.enc l_0) l_0.length),(12,jI (↑l_0.length:Int)),(13,jI (↑s:Int))],[])
def Z1:(Int⊕Unit)→Hm:=fun q=>match q with | Sum.inl o=>.ret | Sum.inr (o)=>(.exit 0)
def Gak (l_0:(List Gg)):(Int⊕Unit)→List (Nat×AV):=fun q=>match q with | Sum.inl o=>[(2,jI o)] | Sum.inr (o)=>[]
def Gao (l_0:(List Gg)):(Int⊕Unit)→List G6:=fun q=>match q with | Sum.inl o=>[] | Sum.inr (o)=>[]
theorem VE (l_0:(List Gg)) {s:Nat} {r:Int⊕Unit} (h:lp (Jw l_0) s=some r):GI Tryz.prog GT 0 (.loop (GO Tryz.prog 94 [1,1,0,1,0,0])) (ZE l_0 s).st (Z1 r) (PS.st (34,Gak l_0 r,Gao l_0 r)):=
 GI.lp_ht 0 400 (ZE l_0) Z1 (fun q=>(34,Gak l_0 q,Gao l_0 q)) (MP l_0) (by intro k13; kernel_rfl) h
def Yq (l_0:(List Gg)):HT Int True:=.run (cs 3 [oa]) (fun _=>He) <|
  .sp ((↑l_0.length:Int)>(1024:Int))
  (.run [bt,oc] (fun γ=>Gb (dT γ.2)) <|
  .leaf 3 [])
  (.run (bf::(cs 3 [])) (fun γ=>Gb (dF γ.2)) <|
  .bd (lp (Jw l_0) (0:Nat)) fun qq=>.cs qq (fun o2=>.run [.fcut 0 .ret [(2,jI o2)] [] [] [(0,.any),(11,.any),(12,.any),(13,jI (↑(0:Nat):Int))] []] (fun γ=>k2 (rfl:(jI 0:AV)=jI (↑(0:Nat):Int)) (Gb (VE l_0 (s:=(0:Nat)) (r:=Sum.inl o2) (eS γ.1.2 γ.2)))) <|
  .leaf o2 [])
  (fun o2=>.run [.fcut 0 (.exit 0) [] [] [] [(0,.any),(11,.any),(12,.any),(13,jI (↑(0:Nat):Int))] [],oc] (fun γ=>k2 (rfl:(jI 0:AV)=jI (↑(0:Nat):Int)) (Gb (VE l_0 (s:=(0:Nat)) (r:=Sum.inr (o2)) (eS γ.1.2 γ.2)))) <|
  .leaf 0 []))
def Xb (l_0:(List Gg)):Option Int:=(Yq l_0).den
theorem Gjr (l_0:(List Gg)) (r:Int) (h:Xb l_0=some r):G5 Tryz.prog GT 94 [.lst (fl Gg.enc l_0) l_0.length] (jI r) []:=
 G5.of_ht 400 (Yq l_0) (fun (r:Int)=>jI r) (fun (r:Int)=>[]) (by kernel_rfl) h
def Ge8 (i_0:Gn):HT Bool True:=.run (cs 2 []) (fun _=>He) <|
  .sp (i_0.From≥(0:Int))
  (.sp (i_0.From<i_0.To)
  (.run (cs 2 (oa::oc::tc::(cs 3 (oa::(cs 2 (tc::oc::oa::(cs 2 []))))))) (fun γ=>k2 (dT γ.1.2) (Gb (dT γ.2))) <|
  .leaf (decide (i_0.To≤(68719476736:Int))) [])
  (.run (cs 2 (oa::oc::tc::(cs 3 (oa::(cs 2 (oF::(cs 4 []))))))) (fun γ=>k2 (dT γ.1.2) (Gb (dF γ.2))) <|
  .leaf false []))
  (.run (cs 2 (oa::oc::oF::(cs 11 []))) (fun γ=>Gb (dF γ.2)) <|
  .leaf false [])
def Qb (i_0:Gn):Option Bool:=(Ge8 i_0).den
theorem HH (i_0:Gn) (r:Bool) (h:Qb i_0=some r):G5 Tryz.prog GT 110 [.agg (Gn.enc i_0)] (.bool r) []:=
 G5.of_ht 400 (Ge8 i_0) (fun (r:Bool)=>.bool r) (fun (r:Bool)=>[]) (by kernel_rfl) h
def Gcn (w_0:Gm):HT Bool True:=.run (cs 2 []) (fun _=>He) <|
  .sp (w_0.Days≥(1:Int))
  (.sp (w_0.Days≤(127:Int))
  (.sp (w_0.From≥(0:Int))
  (.sp (w_0.From<w_0.To)
  (.run (cs 2 (oa::oc::tc::oc::oa::(cs 2 (tc::oc::oa::(cs 2 (tc::(cs 3 (oa::(cs 2 (tc::oc::oa::(cs 2 []))))))))))) (fun γ=>k2 (dT γ.1.1.1.2) (k2 (dT γ.1.1.2) (k2 (dT γ.1.2) (Gb (dT γ.2))))) <|
  .leaf (decide (w_0.To≤(1440:Int))) [])
  (.run (cs 2 (oa::oc::tc::oc::oa::(cs 2 (tc::oc::oa::(cs 2 (tc::(cs 3 (oa::(cs 2 (oF::(cs 4 []))))))))))) (fun γ=>k2 (dT γ.1.1.1.2) (k2 (dT γ.1.1.2) (k2 (dT γ.1.2) (Gb (dF γ.2))))) <|
  .leaf false []))
  (.run (cs 2 (oa::oc::tc::oc::oa::(cs 2 (tc::oc::oa::(cs 2 (oF::(cs 11 []))))))) (fun γ=>k2 (dT γ.1.1.2) (k2 (dT γ.1.2) (Gb (dF γ.2)))) <|
  .leaf false []))
  (.run (cs 2 (oa::oc::tc::oc::oa::(cs 2 (oF::(cs 16 []))))) (fun γ=>k2 (dT γ.1.2) (Gb (dF γ.2))) <|
  .leaf false []))
  (.run (cs 2 (oa::oc::oF::(cs 21 []))) (fun γ=>Gb (dF γ.2)) <|
  .leaf false [])
def XM (w_0:Gm):Option Bool:=(Gcn w_0).den
theorem Gen (w_0:Gm) (r:Bool) (h:XM w_0=some r):G5 Tryz.prog GT 111 [.agg (Gm.enc w_0)] (.bool r) []:=
 G5.of_ht 400 (Gcn w_0) (fun (r:Bool)=>.bool r) (fun (r:Bool)=>[]) (by kernel_rfl) h
def Zd (l_0:(List Gg)) (name_1:(List UInt8)):Nat→HT (Nat⊕(((List UInt8)×(List Gm)×(List Gv)×Int×Int×Int×Int)⊕Unit)) True
 | k6=>.run (cs 3 [oa]) (fun _=>He) <|
  .sp ((↑k6:Int)<(↑l_0.length:Int))
  (.run [bt] (fun γ=>Gb (dT γ.2)) <|
  .bd (l_0[k6]?) fun x8=>.run (cs 2 [.op none (.i k6),oc,.op none (.v [.str x8.Name]),oc,oa]) (fun γ=>k2 (ir γ.2) (k2 (GC (f:=Gg.enc) (z:=6) (fun _=>rfl) γ.2) (Gb (GL (f:=Gg.enc) (z:=7) (j:=k6) (a:=0) (n:=1) (fun _=>rfl) γ.2 (by decide) rfl)))) <|
  .sp (x8.Name=name_1)
  (.run (bt::(cs 2 ((.op none (.i k6))::(.op none (.v [.str x8.Name,.lst (fl Gm.enc x8.Hours) x8.Hours.length,.lst (fl Gv.enc x8.Steps) x8.Steps.length,jI x8.Grace,jI x8.Free,jI x8.DayMax,jI x8.MaxStay]))::(cs 2 [])))) (fun γ=>k2 (Gp γ.2) (k2 (ir γ.1.2) (k2 (GC (f:=Gg.enc) (z:=6) (fun _=>rfl) γ.1.2) (Gb (GU (f:=Gg.enc) (z:=7) (j:=k6) (fun _=>rfl) γ.1.2 rfl))))) <|
  .leaf (Sum.inr (Sum.inl (x8.Name,x8.Hours,x8.Steps,x8.Grace,x8.Free,x8.DayMax,x8.MaxStay))) [0])
  (.run [bf] (fun γ=>Gb (Gw γ.2)) <|
  .gd (GP .i64 ((↑k6:Int)+1)) <| .run [oc,ow,oc] (fun γ=>Gb γ.2) <|
  .leaf (Sum.inl (k6+1)) [0]))
  (.run [bf] (fun γ=>Gb (dF γ.2)) <|
  .leaf (Sum.inr (Sum.inr (()))) [0])
def M3 (l_0:(List Gg)) (name_1:(List UInt8)):Nat→Option (Nat⊕(((List UInt8)×(List Gm)×(List Gv)×Int×Int×Int×Int)⊕Unit)):=fun s=>(Zd l_0 name_1 s).den
def Gjb (l_0:(List Gg)) (name_1:(List UInt8)):Nat→PS:=fun s=>(25,[(0,.lst (fl Gg.enc l_0) l_0.length),(1,.str name_1),(4,.ptr 0 0),(6,jI (↑s:Int))],[(bT [.str [],.nils,.nils,jI 0,jI 0,jI 0,jI 0] 192)])
def Gjt:(((List UInt8)×(List Gm)×(List Gv)×Int×Int×Int×Int)⊕Unit)→Hm:=fun q=>match q with | Sum.inl o=>.ret | Sum.inr (o)=>(.exit 0)
def GjV (l_0:(List Gg)) (name_1:(List UInt8)):(((List UInt8)×(List Gm)×(List Gv)×Int×Int×Int×Int)⊕Unit)→List (Nat×AV):=fun q=>match q with | Sum.inl o=>[(4,.ptr 0 0),(5,.bool true)] | Sum.inr (o)=>[(4,.ptr 0 0)]
def Zk (l_0:(List Gg)) (name_1:(List UInt8)):(((List UInt8)×(List Gm)×(List Gv)×Int×Int×Int×Int)⊕Unit)→List G6:=fun q=>match q with | Sum.inl o=>[(bT [.str o.1,.lst (fl Gm.enc o.2.1) o.2.1.length,.lst (fl Gv.enc o.2.2.1) o.2.2.1.length,jI o.2.2.2.1,jI o.2.2.2.2.1,jI o.2.2.2.2.2.1,jI o.2.2.2.2.2.2] 192)] | Sum.inr (o)=>[(bT [.str [],.nils,.nils,jI 0,jI 0,jI 0,jI 0] 192)]
theorem Ger (l_0:(List Gg)) (name_1:(List UInt8)) {s:Nat} {r:((List UInt8)×(List Gm)×(List Gv)×Int×Int×Int×Int)⊕Unit} (h:lp (M3 l_0 name_1) s=some r):GI Tryz.prog GT 1 (.loop (GO Tryz.prog 107 [1,0,1,0,0])) (Gjb l_0 name_1 s).st (Gjt r) (PS.st (25,GjV l_0 name_1 r,Zk l_0 name_1 r)):=
 GI.lp_ht 1 400 (Gjb l_0 name_1) Gjt (fun q=>(25,GjV l_0 name_1 q,Zk l_0 name_1 q)) (Zd l_0 name_1) (by intro k6; kernel_rfl) h
def GkY (l_0:(List Gg)) (name_1:(List UInt8)):HT (Gg×Bool) True:=.run (cs 3 []) (fun _=>He) <|
  .bd (lp (M3 l_0 name_1) (0:Nat)) fun qq=>.cs qq (fun o1=>.run [.fcut 1 .ret [(4,.ptr 0 0),(5,.bool true)] (Zk l_0 name_1 (Sum.inl o1)) [0] [(0,.any),(1,.any),(4,.any),(6,jI (↑(0:Nat):Int))] [bS]] (fun γ=>k2 (rfl:(jI 0:AV)=jI (↑(0:Nat):Int)) (Gb (Ger l_0 name_1 (s:=(0:Nat)) (r:=Sum.inl o1) (eS γ.1.2 γ.2)))) <|
  .leaf ((⟨o1.1,o1.2.1,o1.2.2.1,o1.2.2.2.1,o1.2.2.2.2.1,o1.2.2.2.2.2.1,o1.2.2.2.2.2.2⟩:Gg),true) [])
  (fun o1=>.run ((.fcut 1 (.exit 0) [(4,.ptr 0 0)] (Zk l_0 name_1 (Sum.inr (o1))) [0] [(0,.any),(1,.any),(4,.any),(6,jI (↑(0:Nat):Int))] [bS])::(cs 3 [])) (fun γ=>k2 (rfl:(jI 0:AV)=jI (↑(0:Nat):Int)) (Gb (Ger l_0 name_1 (s:=(0:Nat)) (r:=Sum.inr (o1)) (eS γ.1.2 γ.2)))) <|
  .leaf ((⟨([]:List UInt8),[],[],0,0,0,0⟩:Gg),false) [])
def Gmu (l_0:(List Gg)) (name_1:(List UInt8)):Option (Gg×Bool):=(GkY l_0 name_1).den
theorem Gqu (l_0:(List Gg)) (name_1:(List UInt8)) (r:(Gg×Bool)) (h:Gmu l_0 name_1=some r):G5 Tryz.prog GT 107 [.lst (fl Gg.enc l_0) l_0.length,.str name_1] (.tup [.agg (Gg.enc r.1),.bool r.2]) []:=
 G5.of_ht 400 (GkY l_0 name_1) (fun (r:(Gg×Bool))=>.tup [.agg (Gg.enc r.1),.bool r.2]) (fun (r:(Gg×Bool))=>[]) (by kernel_rfl) h
def Gk9 (l_0:(List Gv)) (i_1:Int):HT Int True:=.run [oc] (fun _=>He) <|
  .gd ((0:Int)≤i_1) <| .bd (l_0[i_1.toNat]?) fun x2=>.sp (x2.Unit<(1:Int))
  (.run (cs 2 ((.op none (.i i_1.toNat))::oc::(.op none (.v [jI x2.Unit]))::oa::oc::tc::(cs 22 [bt,oc]))) (fun γ=>k2 (ix γ.1.1.2 γ.1.2) (k2 (GC (f:=Gv.enc) (z:=2) (fun _=>rfl) γ.1.2) (k2 (GL (f:=Gv.enc) (z:=3) (j:=i_1.toNat) (a:=1) (n:=1) (fun _=>rfl) γ.1.2 (by decide) rfl) (k2 (dT γ.2) (Gb (rfl:true=true)))))) <|
  .leaf 1 [])
  (.sp (x2.Unit>(68719476736:Int))
  (.run (cs 2 ((.op none (.i i_1.toNat))::oc::(.op none (.v [jI x2.Unit]))::oa::oc::oF::oc::(.op none (.i i_1.toNat))::oc::(.op none (.v [jI x2.Unit]))::oa::(cs 2 (tc::(cs 14 [bt,oc]))))) (fun γ=>k2 (ix γ.1.1.1.2 γ.1.1.2) (k2 (GC (f:=Gv.enc) (z:=2) (fun _=>rfl) γ.1.1.2) (k2 (GL (f:=Gv.enc) (z:=3) (j:=i_1.toNat) (a:=1) (n:=1) (fun _=>rfl) γ.1.1.2 (by decide) rfl) (k2 (dF γ.1.2) (k2 (ix γ.1.1.1.2 γ.1.1.2) (k2 (GC (f:=Gv.enc) (z:=2) (fun _=>rfl) γ.1.1.2) (k2 (GL (f:=Gv.enc) (z:=3) (j:=i_1.toNat) (a:=1) (n:=1) (fun _=>rfl) γ.1.1.2 (by decide) rfl) (k2 (dT γ.2) (Gb (rfl:true=true)))))))))) <|
  .leaf 1 [])
  (.sp (x2.Cents<(0:Int))
  (.run (cs 2 ((.op none (.i i_1.toNat))::oc::(.op none (.v [jI x2.Unit]))::oa::oc::oF::oc::(.op none (.i i_1.toNat))::oc::(.op none (.v [jI x2.Unit]))::oa::(cs 2 (oF::oc::(.op none (.i i_1.toNat))::oc::(.op none (.v [jI x2.Cents]))::oa::(cs 2 (tc::(cs 6 [bt,oc]))))))) (fun γ=>k2 (ix γ.1.1.1.1.2 γ.1.1.1.2) (k2 (GC (f:=Gv.enc) (z:=2) (fun _=>rfl) γ.1.1.1.2) (k2 (GL (f:=Gv.enc) (z:=3) (j:=i_1.toNat) (a:=1) (n:=1) (fun _=>rfl) γ.1.1.1.2 (by decide) rfl) (k2 (dF γ.1.1.2) (k2 (ix γ.1.1.1.1.2 γ.1.1.1.2) (k2 (GC (f:=Gv.enc) (z:=2) (fun _=>rfl) γ.1.1.1.2) (k2 (GL (f:=Gv.enc) (z:=3) (j:=i_1.toNat) (a:=1) (n:=1) (fun _=>rfl) γ.1.1.1.2 (by decide) rfl) (k2 (dF γ.1.2) (k2 (ix γ.1.1.1.1.2 γ.1.1.1.2) (k2 (GC (f:=Gv.enc) (z:=2) (fun _=>rfl) γ.1.1.1.2) (k2 (GL (f:=Gv.enc) (z:=3) (j:=i_1.toNat) (a:=2) (n:=1) (fun _=>rfl) γ.1.1.1.2 (by decide) rfl) (k2 (dT γ.2) (Gb (rfl:true=true)))))))))))))) <|
  .leaf 1 [])
  (.run (cs 2 ((.op none (.i i_1.toNat))::oc::(.op none (.v [jI x2.Unit]))::oa::oc::oF::oc::(.op none (.i i_1.toNat))::oc::(.op none (.v [jI x2.Unit]))::oa::(cs 2 (oF::oc::(.op none (.i i_1.toNat))::oc::(.op none (.v [jI x2.Cents]))::oa::(cs 2 [oF,oc,.op none (.i i_1.toNat),oc,.op none (.v [jI x2.Cents]),oa,oc]))))) (fun γ=>k2 (ix γ.1.1.1.1.2 γ.1.1.1.2) (k2 (GC (f:=Gv.enc) (z:=2) (fun _=>rfl) γ.1.1.1.2) (k2 (GL (f:=Gv.enc) (z:=3) (j:=i_1.toNat) (a:=1) (n:=1) (fun _=>rfl) γ.1.1.1.2 (by decide) rfl) (k2 (dF γ.1.1.2) (k2 (ix γ.1.1.1.1.2 γ.1.1.1.2) (k2 (GC (f:=Gv.enc) (z:=2) (fun _=>rfl) γ.1.1.1.2) (k2 (GL (f:=Gv.enc) (z:=3) (j:=i_1.toNat) (a:=1) (n:=1) (fun _=>rfl) γ.1.1.1.2 (by decide) rfl) (k2 (dF γ.1.2) (k2 (ix γ.1.1.1.1.2 γ.1.1.1.2) (k2 (GC (f:=Gv.enc) (z:=2) (fun _=>rfl) γ.1.1.1.2) (k2 (GL (f:=Gv.enc) (z:=3) (j:=i_1.toNat) (a:=2) (n:=1) (fun _=>rfl) γ.1.1.1.2 (by decide) rfl) (k2 (dF γ.2) (k2 (ix γ.1.1.1.1.2 γ.1.1.1.2) (k2 (GC (f:=Gv.enc) (z:=2) (fun _=>rfl) γ.1.1.1.2) (Gb (GL (f:=Gv.enc) (z:=3) (j:=i_1.toNat) (a:=2) (n:=1) (fun _=>rfl) γ.1.1.1.2 (by decide) rfl)))))))))))))))) <|
  .sp (x2.Cents>(2147483648:Int))
  (.run [bt,oc] (fun γ=>Gb (dT γ.2)) <|
  .leaf 1 [])
  (.run [bf] (fun γ=>Gb (dF γ.2)) <|
  .gd (GP .i64 ((↑l_0.length:Int) - 1)) <| .run (cs 3 [ow,oa]) (fun γ=>Gb γ.2) <|
  .sp (i_1=((↑l_0.length:Int) - 1))
  (.run (bt::(cs 2 [.op none (.i i_1.toNat),oc,.op none (.v [jI x2.Upto]),oa])) (fun γ=>k2 (Gp γ.2) (k2 (ix γ.1.1.1.1.1.1.1.2 γ.1.1.1.1.1.1.2) (k2 (GC (f:=Gv.enc) (z:=2) (fun _=>rfl) γ.1.1.1.1.1.1.2) (Gb (GL (f:=Gv.enc) (z:=3) (j:=i_1.toNat) (a:=0) (n:=1) (fun _=>rfl) γ.1.1.1.1.1.1.2 (by decide) rfl))))) <|
  .sp (x2.Upto=(0:Int))
  (.run [bf,oc] (fun γ=>Gb (Gs (Gp γ.2))) <|
  .leaf 0 [])
  (.run [bt,oc] (fun γ=>Gb (Gu (Gw γ.2))) <|
  .leaf 12 []))
  (.run [bf] (fun γ=>Gb (Gw γ.2)) <|
  .sp (x2.Upto<(1:Int))
  (.run (cs 2 ((.op none (.i i_1.toNat))::oc::(.op none (.v [jI x2.Upto]))::oa::oc::tc::(cs 6 [bt,oc]))) (fun γ=>k2 (ix γ.1.1.1.1.1.1.1.1.2 γ.1.1.1.1.1.1.1.2) (k2 (GC (f:=Gv.enc) (z:=2) (fun _=>rfl) γ.1.1.1.1.1.1.1.2) (k2 (GL (f:=Gv.enc) (z:=3) (j:=i_1.toNat) (a:=0) (n:=1) (fun _=>rfl) γ.1.1.1.1.1.1.1.2 (by decide) rfl) (k2 (dT γ.2) (Gb (rfl:true=true)))))) <|
  .leaf 12 [])
  (.run (cs 2 [.op none (.i i_1.toNat),oc,.op none (.v [jI x2.Upto]),oa,oc,oF,oc,.op none (.i i_1.toNat),oc,.op none (.v [jI x2.Upto]),oa,oc]) (fun γ=>k2 (ix γ.1.1.1.1.1.1.1.1.2 γ.1.1.1.1.1.1.1.2) (k2 (GC (f:=Gv.enc) (z:=2) (fun _=>rfl) γ.1.1.1.1.1.1.1.2) (k2 (GL (f:=Gv.enc) (z:=3) (j:=i_1.toNat) (a:=0) (n:=1) (fun _=>rfl) γ.1.1.1.1.1.1.1.2 (by decide) rfl) (k2 (dF γ.2) (k2 (ix γ.1.1.1.1.1.1.1.1.2 γ.1.1.1.1.1.1.1.2) (k2 (GC (f:=Gv.enc) (z:=2) (fun _=>rfl) γ.1.1.1.1.1.1.1.2) (Gb (GL (f:=Gv.enc) (z:=3) (j:=i_1.toNat) (a:=0) (n:=1) (fun _=>rfl) γ.1.1.1.1.1.1.1.2 (by decide) rfl)))))))) <|
  .sp (x2.Upto>(68719476736:Int))
  (.run [bt,oc] (fun γ=>Gb (dT γ.2)) <|
  .leaf 12 [])
  (.run [bf] (fun γ=>Gb (dF γ.2)) <|
  .sp (i_1>(0:Int))
  (.gd (GP .i64 (i_1 - 1)) <| .gd ((0:Int)≤(i_1 - 1)) <| .bd (l_0[(Int.toNat (i_1 - 1))]?) fun x16=>.run [oc,oa,oc,tc,tc,.op (some true) (.i i_1.toNat),tc,.op (some true) (.v [jI x2.Upto]),tc,tc,tw,.op (some true) (.i (Int.toNat (i_1 - 1))),tc,.op (some true) (.v [jI x16.Upto]),ta,.op none (.b true)] (fun γ=>k2 (dT γ.1.1.1.2) (k2 (dT γ.1.1.1.2) (k2 (dT γ.1.1.1.2) (k2 (ix γ.1.1.1.1.1.1.1.1.1.1.1.1.1.2 γ.1.1.1.1.1.1.1.1.1.1.1.1.2) (k2 (GC (f:=Gv.enc) (z:=2) (fun _=>rfl) γ.1.1.1.1.1.1.1.1.1.1.1.1.2) (k2 (dT γ.1.1.1.2) (k2 (dT γ.1.1.1.2) (k2 (GL (f:=Gv.enc) (z:=3) (j:=i_1.toNat) (a:=0) (n:=1) (fun _=>rfl) γ.1.1.1.1.1.1.1.1.1.1.1.1.2 (by decide) rfl) (k2 (dT γ.1.1.1.2) (k2 (dT γ.1.1.1.2) (k2 (dT γ.1.1.1.2) (k2 γ.1.1.2 (k2 (dT γ.1.1.1.2) (k2 (ix γ.1.2 γ.2) (k2 (GC (f:=Gv.enc) (z:=2) (fun _=>rfl) γ.2) (k2 (dT γ.1.1.1.2) (k2 (dT γ.1.1.1.2) (k2 (GL (f:=Gv.enc) (z:=3) (j:=(Int.toNat (i_1 - 1))) (a:=0) (n:=1) (fun _=>rfl) γ.2 (by decide) rfl) (k2 (dT γ.1.1.1.2) (Gb (dT γ.1.1.1.2))))))))))))))))))))) <|
  .sp (x2.Upto≤x16.Upto)
  (.run [bt,oc] (fun γ=>Gb (dT γ.2)) <|
  .leaf 15 [])
  (.run [bf,oc] (fun γ=>Gb (dF γ.2)) <|
  .leaf 0 []))
  (.run [oc,oa,oc,oF,oF,oF,oF,oF,oF,oF,oF,oF,oF,oF,oF,.op none (.b false),bf,oc] (fun γ=>k2 (dF γ.2) (k2 (dF γ.2) (k2 (dF γ.2) (k2 (dF γ.2) (k2 (dF γ.2) (k2 (dF γ.2) (k2 (dF γ.2) (k2 (dF γ.2) (k2 (dF γ.2) (k2 (dF γ.2) (k2 (dF γ.2) (k2 (dF γ.2) (k2 (dF γ.2) (Gb (rfl:false=false))))))))))))))) <|
  .leaf 0 []))))))))
def Gmo (l_0:(List Gv)) (i_1:Int):Option Int:=(Gk9 l_0 i_1).den
theorem GqH (l_0:(List Gv)) (i_1:Int) (r:Int) (h:Gmo l_0 i_1=some r):G5 Tryz.prog GT 195 [.lst (fl Gv.enc l_0) l_0.length,jI i_1] (jI r) []:=
 G5.of_ht 400 (Gk9 l_0 i_1) (fun (r:Int)=>jI r) (fun (r:Int)=>[]) (by kernel_rfl) h
def Xq (z_0:Gg):Nat→HT (Nat⊕(Unit⊕Unit)) True
 | k3=>.run (cs 4 [oa]) (fun _=>He) <|
  .sp ((↑k3:Int)<(↑z_0.Hours.length:Int))
  (.run [bt] (fun γ=>Gb (dT γ.2)) <|
  .bd (z_0.Hours[k3]?) fun x14=>.bd (XM x14) fun r16=>.run (cs 3 [.op none (.i k3),.op none (.v [jI x14.Days,jI x14.From,jI x14.To]),.ret none [.any] (.bool r16) [],oc]) (fun γ=>k2 (ir γ.1.2) (k2 (GC (f:=Gm.enc) (z:=2) (fun _=>rfl) γ.1.2) (k2 (GU (f:=Gm.enc) (z:=3) (j:=k3) (fun _=>rfl) γ.1.2 rfl) (Gb (Gen x14 r16 γ.2))))) <|
  .sp (r16=true)
  (.run [bf] (fun γ=>Gb ((Gs γ.2):(!r16)=false)) <|
  .gd (GP .i64 ((↑k3:Int)+1)) <| .run [oc,ow,oc] (fun γ=>Gb γ.2) <|
  .leaf (Sum.inl (k3+1)) [0])
  (.run [bt,oc] (fun γ=>Gb ((Gu (eq_false_of_ne_true γ.2)):(!r16)=true)) <|
  .leaf (Sum.inr (Sum.inl ())) [0]))
  (.run [bf] (fun γ=>Gb (dF γ.2)) <|
  .leaf (Sum.inr (Sum.inr (()))) [0])
def Mj (z_0:Gg):Nat→Option (Nat⊕(Unit⊕Unit)):=fun s=>(Xq z_0 s).den
def GhU (z_0:Gg):Nat→PS:=fun s=>(86,[(1,.ptr 0 0),(3,jI (↑s:Int))],[(bT (Gg.enc z_0) 192)])
def Gh1:(Unit⊕Unit)→Hm:=fun q=>match q with | Sum.inl o=>.ret | Sum.inr (o)=>(.exit 0)
def GhG (z_0:Gg):(Unit⊕Unit)→List (Nat×AV):=fun q=>match q with | Sum.inl o=>[(2,jI 12)] | Sum.inr (o)=>[(1,.ptr 0 0)]
def Gg1 (z_0:Gg):(Unit⊕Unit)→List G6:=fun q=>match q with | Sum.inl o=>[(bT (Gg.enc z_0) 192)] | Sum.inr (o)=>[(bT (Gg.enc z_0) 192)]
theorem Gc2 (z_0:Gg) {s:Nat} {r:Unit⊕Unit} (h:lp (Mj z_0) s=some r):GI Tryz.prog GT 1 (.loop (GO Tryz.prog 122 [1,1,1,0,1,0,0])) (GhU z_0 s).st (Gh1 r) (PS.st (86,GhG z_0 r,Gg1 z_0 r)):=
 GI.lp_ht 1 400 (GhU z_0) Gh1 (fun q=>(86,GhG z_0 q,Gg1 z_0 q)) (Xq z_0) (by intro k3; kernel_rfl) h
def Vm (z_0:Gg):Nat→HT (Nat⊕(Int⊕Unit)) True
 | k4=>.run (cs 4 [oa]) (fun _=>He) <|
  .sp ((↑k4:Int)<(↑z_0.Steps.length:Int))
  (.run [bt] (fun γ=>Gb (dT γ.2)) <|
  .bd (Gmo z_0.Steps (↑k4:Int)) fun r29=>.run (cs 3 ((.ret none [.any,.any] (jI r29) [])::(cs 2 [oa]))) (fun γ=>Gb (GqH z_0.Steps (↑k4:Int) r29 γ.2)) <|
  .sp (r29=(0:Int))
  (.run [bf] (fun γ=>Gb (Gs (Gp γ.2))) <|
  .gd (GP .i64 ((↑k4:Int)+1)) <| .run [oc,ow,oc] (fun γ=>Gb γ.2) <|
  .leaf (Sum.inl (k4+1)) [0])
  (.run (bt::(cs 2 [])) (fun γ=>Gb (Gu (Gw γ.2))) <|
  .leaf (Sum.inr (Sum.inl r29)) [0]))
  (.run [bf] (fun γ=>Gb (dF γ.2)) <|
  .leaf (Sum.inr (Sum.inr (()))) [0])
def KG (z_0:Gg):Nat→Option (Nat⊕(Int⊕Unit)):=fun s=>(Vm z_0 s).den
def Gf3 (z_0:Gg):Nat→PS:=fun s=>(86,[(1,.ptr 0 0),(4,jI (↑s:Int))],[(bT (Gg.enc z_0) 192)])
def Gfr:(Int⊕Unit)→Hm:=fun q=>match q with | Sum.inl o=>.ret | Sum.inr (o)=>(.exit 2)
def Gfe (z_0:Gg):(Int⊕Unit)→List (Nat×AV):=fun q=>match q with | Sum.inl o=>[(2,jI o)] | Sum.inr (o)=>[(1,.ptr 0 0)]
def Ggx (z_0:Gg):(Int⊕Unit)→List G6:=fun q=>match q with | Sum.inl o=>[(bT (Gg.enc z_0) 192)] | Sum.inr (o)=>[(bT (Gg.enc z_0) 192)]
theorem GbD (z_0:Gg) {s:Nat} {r:Int⊕Unit} (h:lp (KG z_0) s=some r):GI Tryz.prog GT 1 (.loop (GO Tryz.prog 122 [1,1,1,1,1,1,0,1,0,0])) (Gf3 z_0 s).st (Gfr r) (PS.st (86,Gfe z_0 r,Ggx z_0 r)):=
 GI.lp_ht 1 400 (Gf3 z_0) Gfr (fun q=>(86,Gfe z_0 q,Ggx z_0 q)) (Vm z_0) (by intro k4; kernel_rfl) h
def Git (z_0:Gg):HT Int True:=.run (cs 2 []) (fun _=>He) <|
  .bd (Xa z_0.Name) fun r1=>.run (cs 2 [.ret none [.any] (.bool r1) [],oc]) (fun γ=>Gb (Xo z_0.Name r1 γ.2)) <|
  .sp (r1=true)
  (.run (bf::(cs 3 [oa])) (fun γ=>Gb ((Gs γ.2):(!r1)=false)) <|
  .sp ((↑z_0.Hours.length:Int)>(32:Int))
  (.run [bt,oc] (fun γ=>Gb (dT γ.2)) <|
  .leaf 3 [])
  (.run [bf,oc] (fun γ=>Gb (dF γ.2)) <|
  .bd (lp (Mj z_0) (0:Nat)) fun qq=>.cs qq (fun o5=>.run [.fcut 1 .ret [(2,jI 12)] [(bT (Gg.enc z_0) 192)] [0] [(1,.any),(3,jI (↑(0:Nat):Int))] [bS]] (fun γ=>k2 (rfl:(jI 0:AV)=jI (↑(0:Nat):Int)) (Gb (Gc2 z_0 (s:=(0:Nat)) (r:=Sum.inl o5) (eS γ.1.2 γ.2)))) <|
  .leaf 12 [])
  (fun o5=>.run ((.fcut 1 (.exit 0) [(1,.ptr 0 0)] [(bT (Gg.enc z_0) 192)] [0] [(1,.any),(3,jI (↑(0:Nat):Int))] [bS])::(cs 3 [oa])) (fun γ=>k2 (rfl:(jI 0:AV)=jI (↑(0:Nat):Int)) (Gb (Gc2 z_0 (s:=(0:Nat)) (r:=Sum.inr (o5)) (eS γ.1.2 γ.2)))) <|
  .sp ((↑z_0.Steps.length:Int)>(16:Int))
  (.run [bt,oc] (fun γ=>Gb (dT γ.2)) <|
  .leaf 3 [])
  (.run (bf::(cs 3 [oa])) (fun γ=>Gb (dF γ.2)) <|
  .sp ((↑z_0.Steps.length:Int)=(0:Int))
  (.run [bt,oc] (fun γ=>Gb (Gp γ.2)) <|
  .leaf 1 [])
  (.run [bf,oc] (fun γ=>Gb (Gw γ.2)) <|
  .bd (lp (KG z_0) (0:Nat)) fun qq=>.cs qq (fun o22=>.run [.fcut 1 .ret [(2,jI o22)] [(bT (Gg.enc z_0) 192)] [0] [(1,.any),(4,jI (↑(0:Nat):Int))] [bS]] (fun γ=>k2 (rfl:(jI 0:AV)=jI (↑(0:Nat):Int)) (Gb (GbD z_0 (s:=(0:Nat)) (r:=Sum.inl o22) (eS γ.1.2 γ.2)))) <|
  .leaf o22 [])
  (fun o22=>.run [.fcut 1 (.exit 2) [(1,.ptr 0 0)] [(bT (Gg.enc z_0) 192)] [0] [(1,.any),(4,jI (↑(0:Nat):Int))] [bS]] (fun γ=>k2 (rfl:(jI 0:AV)=jI (↑(0:Nat):Int)) (Gb (GbD z_0 (s:=(0:Nat)) (r:=Sum.inr (o22)) (eS γ.1.2 γ.2)))) <|
  .sp (z_0.Grace<(0:Int))
  (.run (cs 2 (oa::oc::tc::(cs 23 [bt,oc]))) (fun γ=>k2 (dT γ.2) (Gb (rfl:true=true))) <|
  .leaf 12 [])
  (.sp (z_0.Grace>(68719476736:Int))
  (.run (cs 2 (oa::oc::oF::oc::oa::(cs 2 (tc::(cs 18 [bt,oc]))))) (fun γ=>k2 (dF γ.1.2) (k2 (dT γ.2) (Gb (rfl:true=true)))) <|
  .leaf 12 [])
  (.sp (z_0.Free<(0:Int))
  (.run (cs 2 (oa::oc::oF::oc::oa::(cs 2 (oF::oc::oa::(cs 2 (tc::(cs 13 [bt,oc]))))))) (fun γ=>k2 (dF γ.1.1.2) (k2 (dF γ.1.2) (k2 (dT γ.2) (Gb (rfl:true=true))))) <|
  .leaf 12 [])
  (.sp (z_0.Free>(68719476736:Int))
  (.run (cs 2 (oa::oc::oF::oc::oa::(cs 2 (oF::oc::oa::(cs 2 (oF::oc::oa::(cs 2 (tc::(cs 8 [bt,oc]))))))))) (fun γ=>k2 (dF γ.1.1.1.2) (k2 (dF γ.1.1.2) (k2 (dF γ.1.2) (k2 (dT γ.2) (Gb (rfl:true=true)))))) <|
  .leaf 12 [])
  (.sp (z_0.MaxStay<(0:Int))
  (.run (cs 2 (oa::oc::oF::oc::oa::(cs 2 (oF::oc::oa::(cs 2 (oF::oc::oa::(cs 2 (oF::oc::oa::(cs 2 (tc::(cs 3 [bt,oc]))))))))))) (fun γ=>k2 (dF γ.1.1.1.1.2) (k2 (dF γ.1.1.1.2) (k2 (dF γ.1.1.2) (k2 (dF γ.1.2) (k2 (dT γ.2) (Gb (rfl:true=true))))))) <|
  .leaf 12 [])
  (.run (cs 2 (oa::oc::oF::oc::oa::(cs 2 (oF::oc::oa::(cs 2 (oF::oc::oa::(cs 2 (oF::oc::oa::(cs 2 [oF,oc,oa,oc]))))))))) (fun γ=>k2 (dF γ.1.1.1.1.2) (k2 (dF γ.1.1.1.2) (k2 (dF γ.1.1.2) (k2 (dF γ.1.2) (Gb (dF γ.2)))))) <|
  .sp (z_0.MaxStay>(68719476736:Int))
  (.run [bt,oc] (fun γ=>Gb (dT γ.2)) <|
  .leaf 12 [])
  (.run [bf] (fun γ=>Gb (dF γ.2)) <|
  .sp (z_0.DayMax<(0:Int))
  (.run (cs 2 (oa::oc::tc::(cs 3 [bt,oc]))) (fun γ=>k2 (dT γ.2) (Gb (rfl:true=true))) <|
  .leaf 13 [])
  (.run (cs 2 [oa,oc,oF,oc,oa,oc]) (fun γ=>Gb (dF γ.2)) <|
  .sp (z_0.DayMax>(1125899906842624:Int))
  (.run [bt,oc] (fun γ=>Gb (dT γ.2)) <|
  .leaf 13 [])
  (.run [bf,oc] (fun γ=>Gb (dF γ.2)) <|
  .leaf 0 []))))))))))))))
  (.run [bt,oc] (fun γ=>Gb ((Gu (eq_false_of_ne_true γ.2)):(!r1)=true)) <|
  .leaf 6 [])
def Gjd (z_0:Gg):Option Int:=(Git z_0).den
theorem Gpi (z_0:Gg) (r:Int) (h:Gjd z_0=some r):G5 Tryz.prog GT 122 [.agg (Gg.enc z_0)] (jI r) []:=
 G5.of_ht 400 (Git z_0) (fun (r:Int)=>jI r) (fun (r:Int)=>[]) (by kernel_rfl) h
def Qh (l_0:(List Gg)) (k3:Nat):Nat→HT (Nat⊕(Unit⊕Unit)) True
 | k5=>.run (cs 2 [oa]) (fun _=>He) <|
  .sp ((↑k5:Int)<(↑k3:Int))
  (.run [bt] (fun γ=>Gb (dT γ.2)) <|
  .bd (l_0[k5]?) fun x40=>.bd (l_0[k3]?) fun x42=>.run (cs 2 ((.op none (.i k5))::oc::(.op none (.v [.str x40.Name]))::(cs 2 [.op none (.i k3),oc,.op none (.v [.str x42.Name]),oa]))) (fun γ=>k2 (ir γ.1.2) (k2 (GC (f:=Gg.enc) (z:=6) (fun _=>rfl) γ.1.2) (k2 (GL (f:=Gg.enc) (z:=7) (j:=k5) (a:=0) (n:=1) (fun _=>rfl) γ.1.2 (by decide) rfl) (k2 (ir γ.2) (k2 (GC (f:=Gg.enc) (z:=6) (fun _=>rfl) γ.2) (Gb (GL (f:=Gg.enc) (z:=7) (j:=k3) (a:=0) (n:=1) (fun _=>rfl) γ.2 (by decide) rfl))))))) <|
  .sp (x40.Name=x42.Name)
  (.run [bt,oc] (fun γ=>Gb (Gp γ.2)) <|
  .leaf (Sum.inr (Sum.inl ())) [])
  (.run [bf] (fun γ=>Gb (Gw γ.2)) <|
  .gd (GP .i64 ((↑k5:Int)+1)) <| .run [oc,ow,oc] (fun γ=>Gb γ.2) <|
  .leaf (Sum.inl (k5+1)) []))
  (.run [bf] (fun γ=>Gb (dF γ.2)) <|
  .leaf (Sum.inr (Sum.inr (()))) [])
def JS (l_0:(List Gg)) (k3:Nat):Nat→Option (Nat⊕(Unit⊕Unit)):=fun s=>(Qh l_0 k3 s).den
def Gba (l_0:(List Gg)) (k3:Nat):Nat→PS:=fun s=>(39,[(0,.lst (fl Gg.enc l_0) l_0.length),(3,jI (↑k3:Int)),(5,jI (↑s:Int))],[])
def Ga6:(Unit⊕Unit)→Hm:=fun q=>match q with | Sum.inl o=>.ret | Sum.inr (o)=>(.exit 2)
def UO (l_0:(List Gg)) (k3:Nat):(Unit⊕Unit)→List (Nat×AV):=fun q=>match q with | Sum.inl o=>[(2,jI 9)] | Sum.inr (o)=>[(0,.lst (fl Gg.enc l_0) l_0.length),(3,jI (↑k3:Int))]
def Ga1 (l_0:(List Gg)) (k3:Nat):(Unit⊕Unit)→List G6:=fun q=>match q with | Sum.inl o=>[] | Sum.inr (o)=>[]
theorem X8 (l_0:(List Gg)) (k3:Nat) {s:Nat} {r:Unit⊕Unit} (h:lp (JS l_0 k3) s=some r):GI Tryz.prog GT 0 (.loop (GO Tryz.prog 58 [1,1,0,1,0,0,1,0,0,1,1,1,0,0])) (Gba l_0 k3 s).st (Ga6 r) (PS.st (39,UO l_0 k3 r,Ga1 l_0 k3 r)):=
 GI.lp_ht 0 400 (Gba l_0 k3) Ga6 (fun q=>(39,UO l_0 k3 q,Ga1 l_0 k3 q)) (Qh l_0 k3) (by intro k5; kernel_rfl) h
def Rg (l_0:(List Gg)):Nat→HT (Nat⊕(Int⊕Unit)) True
 | k3=>.run (cs 3 [oa]) (fun _=>He) <|
  .sp ((↑k3:Int)<(↑l_0.length:Int))
  (.run [bt] (fun γ=>Gb (dT γ.2)) <|
  .bd (l_0[k3]?) fun x26=>.bd (Gjd x26) fun r28=>.run (cs 2 ((.op none (.i k3))::(.op none (.v [.str x26.Name,.lst (fl Gm.enc x26.Hours) x26.Hours.length,.lst (fl Gv.enc x26.Steps) x26.Steps.length,jI x26.Grace,jI x26.Free,jI x26.DayMax,jI x26.MaxStay]))::(.ret none [.any] (jI r28) [])::(cs 2 [oa]))) (fun γ=>k2 (ir γ.1.2) (k2 (GC (f:=Gg.enc) (z:=6) (fun _=>rfl) γ.1.2) (k2 (GU (f:=Gg.enc) (z:=7) (j:=k3) (fun _=>rfl) γ.1.2 rfl) (Gb (Gpi x26 r28 γ.2))))) <|
  .sp (r28=(0:Int))
  (.run [bf,oc] (fun γ=>Gb (Gs (Gp γ.2))) <|
  .bd (lp (JS l_0 k3) (0:Nat)) fun qq=>.cs qq (fun o31=>.run [.fcut 0 .ret [(2,jI 9)] [] [] [(0,.any),(3,.any),(5,jI (↑(0:Nat):Int))] []] (fun γ=>k2 (rfl:(jI 0:AV)=jI (↑(0:Nat):Int)) (Gb (X8 l_0 k3 (s:=(0:Nat)) (r:=Sum.inl o31) (eS γ.1.2 γ.2)))) <|
  .leaf (Sum.inr (Sum.inl 9)) [])
  (fun o31=>.run [.fcut 0 (.exit 2) (UO l_0 k3 (Sum.inr (o31))) [] [] [(0,.any),(3,.any),(5,jI (↑(0:Nat):Int))] []] (fun γ=>k2 (rfl:(jI 0:AV)=jI (↑(0:Nat):Int)) (Gb (X8 l_0 k3 (s:=(0:Nat)) (r:=Sum.inr (o31)) (eS γ.1.2 γ.2)))) <|
  .gd (GP .i64 ((↑k3:Int)+1)) <| .run [oc,ow,oc] (fun γ=>Gb γ.2) <|
  .leaf (Sum.inl (k3+1)) []))
  (.run (bt::(cs 2 [])) (fun γ=>Gb (Gu (Gw γ.2))) <|
  .leaf (Sum.inr (Sum.inl r28)) []))
  (.run [bf] (fun γ=>Gb (dF γ.2)) <|
  .leaf (Sum.inr (Sum.inr (()))) [])
def Kb (l_0:(List Gg)):Nat→Option (Nat⊕(Int⊕Unit)):=fun s=>(Rg l_0 s).den
def GcP (l_0:(List Gg)):Nat→PS:=fun s=>(39,[(0,.lst (fl Gg.enc l_0) l_0.length),(3,jI (↑s:Int))],[])
def Gde:(Int⊕Unit)→Hm:=fun q=>match q with | Sum.inl o=>.ret | Sum.inr (o)=>(.exit 0)
def GcH (l_0:(List Gg)):(Int⊕Unit)→List (Nat×AV):=fun q=>match q with | Sum.inl o=>[(2,jI o)] | Sum.inr (o)=>[]
def GdC (l_0:(List Gg)):(Int⊕Unit)→List G6:=fun q=>match q with | Sum.inl o=>[] | Sum.inr (o)=>[]
theorem YY (l_0:(List Gg)) {s:Nat} {r:Int⊕Unit} (h:lp (Kb l_0) s=some r):GI Tryz.prog GT 0 (.loop (GO Tryz.prog 58 [1,1,0,1,0,0])) (GcP l_0 s).st (Gde r) (PS.st (39,GcH l_0 r,GdC l_0 r)):=
 GI.lp_ht 0 400 (GcP l_0) Gde (fun q=>(39,GcH l_0 q,GdC l_0 q)) (Rg l_0) (by intro k3; kernel_rfl) h
def Gcs (l_0:(List Gg)):HT Int True:=.run (cs 3 [oa]) (fun _=>He) <|
  .sp ((↑l_0.length:Int)>(1024:Int))
  (.run [bt,oc] (fun γ=>Gb (dT γ.2)) <|
  .leaf 3 [])
  (.run [bf,oc] (fun γ=>Gb (dF γ.2)) <|
  .bd (lp (Kb l_0) (0:Nat)) fun qq=>.cs qq (fun o2=>.run [.fcut 0 .ret [(2,jI o2)] [] [] [(0,.any),(3,jI (↑(0:Nat):Int))] []] (fun γ=>k2 (rfl:(jI 0:AV)=jI (↑(0:Nat):Int)) (Gb (YY l_0 (s:=(0:Nat)) (r:=Sum.inl o2) (eS γ.1.2 γ.2)))) <|
  .leaf o2 [])
  (fun o2=>.run [.fcut 0 (.exit 0) [] [] [] [(0,.any),(3,jI (↑(0:Nat):Int))] [],oc] (fun γ=>k2 (rfl:(jI 0:AV)=jI (↑(0:Nat):Int)) (Gb (YY l_0 (s:=(0:Nat)) (r:=Sum.inr (o2)) (eS γ.1.2 γ.2)))) <|
  .leaf 0 []))
def QJ (l_0:(List Gg)):Option Int:=(Gcs l_0).den
theorem RZ (l_0:(List Gg)) (r:Int) (h:QJ l_0=some r):G5 Tryz.prog GT 58 [.lst (fl Gg.enc l_0) l_0.length] (jI r) []:=
 G5.of_ht 400 (Gcs l_0) (fun (r:Int)=>jI r) (fun (r:Int)=>[]) (by kernel_rfl) h
end
set_option maxHeartbeats 4000000
noncomputable section
theorem ZQ (n a b:Int):JI n a b=some (decide (a≤n∧n≤b)):=by
 simp only [JI,Gck,d1,d2,d3,d6]; grind
theorem Gn4 (w:Gm):GdP w=some (Vc w):=by
 simp only [GdP,GdN,d1,d2,d3,d5,d6,ZQ,Option.bind_some,Vc]; grind
theorem Ga8 (w:Gm):XM w=some (Vc w):=by
 simp only [XM,Gcn,d1,d2,d3,d5,d6,Vc]; grind
theorem Ys (i:Gn):Qb i=some (Rk i):=by
 simp only [Qb,Ge8,d1,d2,d3,d6,Rk]; grind
def Gmd (l:List Gv) (k:Nat) (x:Gv):Option Int:=
 if x.Unit<1∨x.Unit>68719476736∨x.Cents<0∨x.Cents>2147483648 then some 1
 else if k+1=l.length then (if x.Upto=0 then none else some 12)
 else if x.Upto<1∨x.Upto>68719476736 then some 12 else if 0<k∧x.Upto≤((l[k - 1]?).map (·.Upto)).getD 0 then some 15 else none
def GrU (l:List Gv):Int:=if l.length>16 then 3 else if l.length=0 then 1 else (GK (Gmd l) 0 l).getD 0
theorem Gn6 (l:List Gv):GdW l=some (GrU l):=by
 simp only [GdW,GdZ,d1,d2,d3,d4,d5,d6,d7,GrU]
 by_cases h1:l.length>16
 ·rw [if_pos (by omega),if_pos h1]
 rw [if_neg (by omega),if_neg h1]
 by_cases h2:l.length=0
 ·rw [if_pos (by omega),if_pos h2]
 rw [if_neg (by omega),if_neg h2]
 have hs:Sm l:=by show _≤_; omega
 have key:lp (Kn l) 0=some (HL (GK (Gmd l) 0 l)):=by
  refine GQ (fun k x hx=>?_) ?_
  ·obtain ⟨hk,i1,i2,hkl,h3,h4⟩:=rd hs hx
   have i3:GP .i64 ((l.length:Int) - 1):=KV (by omega) (by omega)
   simp only [Kn,RQ,d1,d2,d3,d4,d5,d6,d7,hx,Option.bind_some,ZQ,h3,h4,i1,i2,i3,if_true,hkl,Gmd,Option.map_some,Option.getD_some]
   clear i1 i2 i3 hs
   by_cases hl:k+1=l.length
   ·simp only [if_pos hl,if_pos (show (k:Int)=(l.length:Int) - 1 by omega)]; grind [KC]
   ·simp only [if_neg hl,if_neg (show ¬ (k:Int)=(l.length:Int) - 1 by omega)]; grind [KC]
  ·simp only [Kn,RQ,d3,d6,d1]
   rw [if_neg (by omega)]
 rw [key]
 cases GK (Gmd l) 0 l <;> rfl
theorem GnU (l:List Gv) (hs:l.length≤16) (k:Nat) (x:Gv) (hx:l[k]?=some x):Gmo l k=some ((Gmd l k x).getD 0):=by
 have hk:=Hg hx
 have h3:l[k - 1]?=some l[k - 1]:=List.getElem?_eq_getElem (by omega)
 have h4:((k:Int) - 1).toNat=k - 1:=by omega
 have h5:((k:Int)).toNat=k:=by omega
 have i2:GP .i64 ((k:Int) - 1):=KV (by omega) (by omega)
 have i3:GP .i64 ((l.length:Int) - 1):=KV (by omega) (by omega)
 simp only [Gmo,Gk9,d1,d2,d3,d4,d5,d6,d7,h5,hx,Option.bind_some,h3,h4,i2,i3,if_true,Gmd,Option.map_some,Option.getD_some]
 clear i2 i3
 by_cases hl:k+1=l.length
 ·simp only [if_pos hl,if_pos (show (k:Int)=(l.length:Int) - 1 by omega)]; grind
 ·simp only [if_neg hl,if_neg (show ¬ (k:Int)=(l.length:Int) - 1 by omega)]; grind
theorem Gtq {l:List Gv} {k:Nat} {x:Gv}:Gmd l k x≠some 0:=by unfold Gmd; grind
def Gp9 (z:Gg):Int:=
 if HE z.Name=false then 6 else if z.Hours.length>32 then 3 else if z.Hours.any (fun w=>!Vc w) then 12 else if GrU z.Steps≠0 then GrU z.Steps
 else if z.Grace<0∨z.Grace>68719476736∨z.Free<0∨z.Free>68719476736∨z.MaxStay<0∨z.MaxStay>68719476736 then 12
 else if z.DayMax<0∨1125899906842624<z.DayMax then 13 else 0
theorem Gn3 (z:Gg):Ged z=some (Gp9 z):=by
 simp only [Ged,Gd7,d1,d2,d3,d4,d5,d6,d7,JF,Option.bind_some,Gp9]
 rcases Hf (HE z.Name) with hn | hn <;> simp only [hn,if_true,if_false,Bool.true_eq_false,Bool.false_eq_true]
 by_cases h1:z.Hours.length>32
 ·rw [if_pos (by omega),if_pos h1]
 rw [if_neg (by omega),if_neg h1]
 have hs:Sm z.Hours:=by show _≤_; omega
 have key:lp (Kq z) 0=some (HL (if z.Hours.any (fun w=>!Vc w) then some () else none)):=by
  rw [← Hj z.Hours 0]
  refine GQ (fun k x hx=>?_) ?_
  ·obtain ⟨hk,i1,i2,hkl,h3,h4⟩:=rd hs hx
   simp only [Kq,RP,d1,d2,d3,d4,d5,d6,d7,hx,Option.bind_some,Gn4,i1,if_true,hkl]
   clear i1 i2 hs
   cases Vc x <;> rfl
  ·simp only [Kq,RP,d3,d6,d1]
   rw [if_neg (by omega)]
 rw [key]
 clear hs key
 rcases Hf (z.Hours.any fun w=>!Vc w) with hh | hh <;> simp only [hh,HL,Option.bind_some,eN,eM,Gn6,ZQ,if_true,if_false,Bool.false_eq_true,decide_eq_true_eq]
 generalize GrU z.Steps=q
 by_cases h0:q=0
 rotate_left
 ·simp only [if_neg h0,if_pos h0]
 simp only [if_pos h0,if_neg (show ¬ q≠0 from fun h=>h h0)]
 by_cases c1:z.Grace<0∨z.Grace>68719476736
 ·rw [if_neg (by omega),if_pos (by omega)]
 rw [if_pos (by omega)]
 by_cases c2:z.Free<0∨z.Free>68719476736
 ·rw [if_neg (by omega),if_pos (by omega)]
 rw [if_pos (by omega)]
 by_cases c3:z.MaxStay<0∨z.MaxStay>68719476736
 ·rw [if_neg (by omega),if_pos (by omega)]
 rw [if_pos (show 0≤z.MaxStay∧z.MaxStay≤68719476736 by omega),if_neg (show ¬ (z.Grace<0∨z.Grace>68719476736∨z.Free<0∨z.Free>68719476736∨z.MaxStay<0∨z.MaxStay>68719476736) by omega)]
 by_cases c4:z.DayMax<0∨1125899906842624<z.DayMax
 ·rw [if_neg (by omega),if_pos (by omega)]
 rw [if_pos (by omega),if_neg (by omega)]
theorem GnC (z:Gg):Gjd z=some (Gp9 z):=by
 simp only [Gjd,Git,d1,d2,d3,d4,d5,d6,d7,RN,Option.bind_some,Gp9]
 rcases Hf (HE z.Name) with hn | hn <;> simp only [hn,if_true,if_false,Bool.true_eq_false,Bool.false_eq_true]
 by_cases h1:z.Hours.length>32
 ·rw [if_pos (by omega),if_pos h1]
 rw [if_neg (by omega),if_neg h1]
 have hs:Sm z.Hours:=by show _≤_; omega
 have key:lp (Mj z) 0=some (HL (if z.Hours.any (fun w=>!Vc w) then some () else none)):=by
  rw [← Hj z.Hours 0]
  refine GQ (fun k x hx=>?_) ?_
  ·obtain ⟨hk,i1,i2,hkl,h3,h4⟩:=rd hs hx
   simp only [Mj,Xq,d1,d2,d3,d4,d5,d6,d7,hx,Option.bind_some,Ga8,i1,if_true,hkl]
   clear i1 i2 hs
   cases Vc x <;> rfl
  ·simp only [Mj,Xq,d3,d6,d1]
   rw [if_neg (by omega)]
 rw [key]
 clear hs key
 rcases Hf (z.Hours.any fun w=>!Vc w) with hh | hh <;> simp only [hh,HL,Option.bind_some,eN,eM,if_true,if_false,Bool.false_eq_true]
 unfold GrU
 by_cases h2:z.Steps.length>16
 ·rw [if_pos (by omega)]; simp only [if_pos h2]; rfl
 rw [if_neg (by omega)]; simp only [if_neg h2]
 by_cases h3:z.Steps.length=0
 ·rw [if_pos (by omega)]; simp only [if_pos h3]; rfl
 rw [if_neg (by omega)]; simp only [if_neg h3]
 have hs:Sm z.Steps:=by show _≤_; omega
 have k2:lp (KG z) 0=some (HL (GK (Gmd z.Steps) 0 z.Steps)):=by
  refine GQ (fun k x hx=>?_) ?_
  ·obtain ⟨hk,i1,i2,hkl,h3,h4⟩:=rd hs hx
   simp only [KG,Vm,d1,d2,d3,d4,d5,d6,d7,Option.bind_some,GnU z.Steps (by omega) k x hx,i1,if_true,hkl]
   clear i1 i2 hs
   have h0:=@Gtq z.Steps k x
   generalize Gmd z.Steps k x=q at h0 ⊢
   cases q with
   | none=>rfl
   | some r=>rw [if_neg (fun h=>h0 (by simp only [Option.getD_some] at h; rw [h]))]; rfl
  ·simp only [KG,Vm,d3,d6,d1]
   rw [if_neg (by omega)]
 rw [k2]
 clear hs k2
 have h0:GK (Gmd z.Steps) 0 z.Steps≠some 0:=fun h=>by obtain ⟨i,x,_,h2⟩:=Qa h; exact Gtq h2
 generalize GK (Gmd z.Steps) 0 z.Steps=q at h0
 cases q with
 | some r=>
  have:r≠0:=fun h=>h0 (by rw [h])
  simp only [HL,Option.bind_some,eN,Option.getD_some,if_pos this]
 | none=>
  simp only [HL,Option.bind_some,eM,Option.getD_none,if_neg (show ¬ ((0:Int)≠0) from fun h=>h rfl)]
  clear h0 hh hn h1 h2 h3
  by_cases c1:z.Grace<0∨z.Grace>68719476736
  ·grind
  rw [if_neg (by omega),if_neg (by omega)]
  by_cases c2:z.Free<0∨z.Free>68719476736
  ·grind
  rw [if_neg (by omega),if_neg (by omega)]
  by_cases c3:z.MaxStay<0∨z.MaxStay>68719476736
  ·grind
  rw [if_neg (show ¬ z.MaxStay<0 by omega),if_neg (show ¬ z.MaxStay>68719476736 by omega),if_neg (show ¬ (z.Grace<0∨z.Grace>68719476736∨z.Free<0∨z.Free>68719476736∨z.MaxStay<0∨z.MaxStay>68719476736) by omega)]
  grind
def GaW (name:List UInt8) (y:Gg):Bool:=decide (y.Name=name)
def GmK (l:List Gg) (k:Nat) (x:Gg):Option Int:=if Gp9 x≠0 then some (Gp9 x) else if (l.take k).any (GaW x.Name) then some 9 else none
def GnJ (l:List Gg):Int:=if l.length>1024 then 3 else (GK (GmK l) 0 l).getD 0
def GsL (z:Gg):Prop:=z.Hours.length≤1000∧z.Steps.length≤1000
theorem Gnr {z:Gg} (h:Gp9 z=0):GsL z:=by
 unfold Gp9 GrU at h
 unfold GsL
 grind
theorem GjW (l:List Gg) (hl:Sm l) (hz:∀ z ∈ l,GsL z) (name:List UInt8):∃ z,Gdn l name=some (z,l.any (GaW name)):=by
 simp only [Gdn,Ggs,d1,d2,d3,d4,d5,d6,d7]
 have key:lp (KH l name) 0=some (HL (GK (fun _ x=>if GaW name x then some (x.Name,x.Hours,x.Steps,x.Grace,x.Free,x.DayMax,x.MaxStay) else none) 0 l)):=by
  refine GQ (fun k x hx=>?_) ?_
  ·obtain ⟨hk,i1,i2,hkl,h3,h4⟩:=rd hl hx
   have hz:=hz x (List.mem_of_getElem? hx)
   have a1:x.Hours.length≤4294967296:=by unfold GsL at hz; omega
   have a2:x.Steps.length≤4294967296:=by unfold GsL at hz; omega
   simp only [KH,U6,d1,d2,d3,d4,d5,d6,d7,hx,Option.bind_some,i1,if_true,hkl,a1,a2,GaW,decide_eq_true_eq]
   clear i1 i2 hl a1 a2 hz
   by_cases e:x.Name=name
   ·simp only [if_pos e,KC]
    cases x.Hours <;> cases x.Steps <;> simp
   ·simp only [if_neg e,KC]
  ·simp only [KH,U6,d3,d6,d1]
   rw [if_neg (by omega)]
 rw [key]
 have gen:∀ (m:List Gg) (k:Nat),(GK (fun _ x=>if GaW name x then some (x.Name,x.Hours,x.Steps,x.Grace,x.Free,x.DayMax,x.MaxStay) else none) k m).isSome=m.any (GaW name):=by
  intro m
  induction m with
  | nil=>intro k; rfl
  | cons x m ih=>intro k; unfold GK; cases h:GaW name x <;> simp [h,ih]
 have:=gen l 0
 cases he:GK (fun _ x=>if GaW name x then some (x.Name,x.Hours,x.Steps,x.Grace,x.Free,x.DayMax,x.MaxStay) else none) 0 l with
 | some r=>rw [he] at this; exact ⟨_,by rw [← this]; rfl⟩
 | none=>rw [he] at this; exact ⟨_,by rw [← this]; rfl⟩
theorem Gn7 (l:List Gg) (hl:Sm l) (name:List UInt8):∃ z,Gmu l name=some (z,l.any (GaW name)):=by
 simp only [Gmu,GkY,d1,d2,d3,d4,d5,d6,d7]
 have key:lp (M3 l name) 0=some (HL (GK (fun _ x=>if GaW name x then some (x.Name,x.Hours,x.Steps,x.Grace,x.Free,x.DayMax,x.MaxStay) else none) 0 l)):=by
  refine GQ (fun k x hx=>?_) ?_
  ·obtain ⟨hk,i1,i2,hkl,h3,h4⟩:=rd hl hx
   simp only [M3,Zd,d1,d2,d3,d4,d5,d6,d7,hx,Option.bind_some,i1,if_true,hkl,GaW,decide_eq_true_eq]
   by_cases e:x.Name=name <;> simp only [e,if_true,if_false,KC]
  ·simp only [M3,Zd,d3,d6,d1]
   rw [if_neg (by omega)]
 rw [key]
 have gen:∀ (m:List Gg) (k:Nat),(GK (fun _ x=>if GaW name x then some (x.Name,x.Hours,x.Steps,x.Grace,x.Free,x.DayMax,x.MaxStay) else none) k m).isSome=m.any (GaW name):=by
  intro m
  induction m with
  | nil=>intro k; rfl
  | cons x m ih=>intro k; unfold GK; cases h:GaW name x <;> simp [h,ih]
 have:=gen l 0
 cases he:GK (fun _ x=>if GaW name x then some (x.Name,x.Hours,x.Steps,x.Grace,x.Free,x.DayMax,x.MaxStay) else none) 0 l with
 | some r=>rw [he] at this; exact ⟨_,by rw [← this]; rfl⟩
 | none=>rw [he] at this; exact ⟨_,by rw [← this]; rfl⟩
theorem Goh {l:List Gg} {k:Nat} {z:Gg} (h:GmK l k z=none):Gp9 z=0:=by unfold GmK at h; grind
theorem Glr (l:List Gg):Xb l=some (GnJ l):=by
 simp only [Xb,Yq,d1,d2,d3,d4,d5,d6,d7,GnJ]
 by_cases hl:l.length>1024
 ·rw [if_pos (by omega),if_pos hl]
 rw [if_neg (by omega),if_neg hl]
 have hs:Sm l:=by show _≤_; omega
 have key:lp (Jw l) 0=some (HL (GK (GmK l) 0 l)):=by
  refine GnH (fun k x hx hb=>?_) ?_
  ·obtain ⟨hk,i1,i2,hkl,h3,h4⟩:=rd hs hx
   have hkl2:k≤l.length:=by omega
   have hst:Sm (l.take k):=by show _≤_; rw [List.length_take]; omega
   obtain ⟨z,hz⟩:=GjW (l.take k) hst (fun z hz=>by
    obtain ⟨i,hi⟩:=List.mem_iff_getElem?.1 hz
    have hi2:=Hg hi
    rw [List.length_take] at hi2
    rw [List.getElem?_take,if_pos (by omega)] at hi
    exact Gnr (Goh (hb i z (by omega) hi))) x.Name
   simp only [Jw,MP,d1,d2,d3,d4,d5,d6,d7,hx,hz,Option.bind_some,Gn3,i1,if_true,hkl,hkl2,GmK]
   clear i1 i2 hs hst hz hb
   rcases Hf ((l.take k).any (GaW x.Name)) with hh | hh <;> simp only [hh,if_true,if_false,Bool.false_eq_true] <;> grind [KC]
  ·simp only [Jw,MP,d3,d6,d1]
   rw [if_neg (by omega)]
 rw [key]
 cases GK (GmK l) 0 l <;> rfl
theorem GrN {l:List Gg} (h:GnJ l=0):l.length≤1024∧∀ z ∈ l,GsL z:=by
 unfold GnJ at h
 split at h
 ·cases h
 ·refine ⟨by omega,fun z hz=>?_⟩
  obtain ⟨i,hi⟩:=List.mem_iff_getElem?.1 hz
  cases he:GK (GmK l) 0 l with
  | none=>have:=Zz he i z hi; rw [Nat.zero_add] at this; exact Gnr (Goh this)
  | some r=>
   rw [he] at h
   obtain ⟨j,x,_,h2⟩:=Qa he
   simp only [Option.getD_some] at h
   subst h
   unfold GmK at h2
   grind
theorem GjT (l:List Gg):QJ l=some (GnJ l):=by
 simp only [QJ,Gcs,d1,d2,d3,d4,d5,d6,d7,GnJ]
 by_cases hl:l.length>1024
 ·rw [if_pos (by omega),if_pos hl]
 rw [if_neg (by omega),if_neg hl]
 have hs:Sm l:=by show _≤_; omega
 have key:lp (Kb l) 0=some (HL (GK (GmK l) 0 l)):=by
  refine GQ (fun k x hx=>?_) ?_
  ·obtain ⟨hk,i1,i2,hkl,h1,h2⟩:=rd hs hx
   have hq:lp (JS l k) 0=some (HL (if (l.take k).any (GaW x.Name) then some () else none)):=by
    rw [← Hj (l.take k) 0]
    refine JE (l:=l) (n:=k) (by omega) (fun j y hj hy=>?_) ?_
    ·obtain ⟨_,i3,_,_,_,_⟩:=rd hs hy
     have hjk:(j:Int)<(k:Int):=by omega
     simp only [JS,Qh,d1,d2,d3,d4,d5,d6,d7,eN,eM,hx,hy,Option.bind_some,i3,if_true,hjk,GaW]
     clear i1 i2 i3 hs
     grind [KC]
    ·simp only [JS,Qh,d3,d6,d1]
     rw [if_neg (by omega)]
   simp only [Kb,Rg,d1,d2,d3,d4,d5,d6,d7,hx,hq,Option.bind_some,GnC,i1,if_true,hkl,GmK]
   clear i1 i2 hs hq
   rcases Hf ((l.take k).any (GaW x.Name)) with hh | hh <;> simp only [hh,HL,eN,eM,if_true,if_false,Bool.false_eq_true] <;> grind [KC]
  ·simp only [Kb,Rg,d3,d6,d1]
   rw [if_neg (by omega)]
 rw [key]
 cases GK (GmK l) 0 l <;> rfl
end
end Go.Proofs.YtnlaiahcemckkaaGreatDoor.Av
