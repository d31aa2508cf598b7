import Derived.Test.YtdifanfcaemokaaGreatDoorPEi
open Prod (fst)
open Int (tdiv tmod)
set_option maxHeartbeats 4000000
set_option maxRecDepth 100000
set_option linter.unusedVariables false
set_option linter.unusedSimpArgs false
namespace Go.Proofs.YtdifanfcaemokaaGreatDoor.Av
noncomputable section
open Go Go.Proofs
def GdX (n_0:Int) (low_1:Int) (high_2:Int):HT Bool True:=.run [oc] (fun _=>Hg) <|
  .sp (n_0≥low_1)
  (.run (cs 2 (oa::oc::tc::oc::oa::(cs 2 []))) (fun γ=>Gb (dT γ.2)) <|
  .leaf (decide (n_0≤high_2)) [])
  (.run (cs 2 (oa::oc::oF::(cs 4 []))) (fun γ=>Gb (dF γ.2)) <|
  .leaf false [])
def Kf (n_0:Int) (low_1:Int) (high_2:Int):Option Bool:=(GdX n_0 low_1 high_2).den
theorem Hj (n_0:Int) (low_1:Int) (high_2:Int) (r:Bool) (h:Kf n_0 low_1 high_2=some r):RT 288 [jI n_0,jI low_1,jI high_2] (.bool r) []:=
 HA.of_ht 400 (GdX n_0 low_1 high_2) (fun (r:Bool)=>.bool r) (fun (r:Bool)=>[]) (by kernel_rfl) h
def GfG (w_0:Gl):HT Bool True:=.run (cs 2 []) (fun _=>Hg) <|
  .bd (Kf w_0.Days 1 127) fun r1=>.sp (r1=true)
  (.sp (w_0.From≥(0:Int))
  (.sp (w_0.From<w_0.To)
  (.run (cs 2 ((rN [.any,.any,.any] (.bool r1) [])::oc::tc::oc::oa::(cs 2 (tc::(cs 3 (oa::(cs 2 (tc::oc::oa::(cs 2 []))))))))) (fun γ=>k2 (Hj w_0.Days 1 127 r1 (G0 γ)) (k2 γ.1.1.2 (k2 (dT γ.1.2) (Gb (dT γ.2))))) <|
  .leaf (decide (w_0.To≤(1440:Int))) [])
  (.run (cs 2 ((rN [.any,.any,.any] (.bool r1) [])::oc::tc::oc::oa::(cs 2 (tc::(cs 3 (oa::(cs 2 (oF::(cs 4 []))))))))) (fun γ=>k2 (Hj w_0.Days 1 127 r1 (G0 γ)) (k2 γ.1.1.2 (k2 (dT γ.1.2) (Gb (dF γ.2))))) <|
  .leaf false []))
  (.run (cs 2 ((rN [.any,.any,.any] (.bool r1) [])::oc::tc::oc::oa::(cs 2 (oF::(cs 11 []))))) (fun γ=>k2 (Hj w_0.Days 1 127 r1 γ.1.1.2) (k2 γ.1.2 (Gb (dF γ.2)))) <|
  .leaf false []))
  (.run (cs 2 ((rN [.any,.any,.any] (.bool r1) [])::oc::oF::(cs 16 []))) (fun γ=>k2 (Hj w_0.Days 1 127 r1 γ.1.2) (Gb ((Ja γ.2):r1=false))) <|
  .leaf false [])
def GfF (w_0:Gl):Option Bool:=(GfG w_0).den
theorem GpD (w_0:Gl) (r:Bool) (h:GfF w_0=some r):RT 286 [.agg (Gl.enc w_0)] (.bool r) []:=
 HA.of_ht 400 (GfG w_0) (fun (r:Bool)=>.bool r) (fun (r:Bool)=>[]) (by kernel_rfl) h
def U5 (l_0:(List Gv)):Nat→HT (Nat⊕(Int⊕Unit)) True
 | k16=>.run [oa] (fun _=>Hg) <|
  .sp ((↑k16:Int)<(↑l_0.length:Int))
  (.run [bt] (fun γ=>Gb (dT γ.2)) <|
  .bd (l_0[k16]?) fun x29=>.run (oc::(oN (.i k16))::(oN (.v [jI x29.Upto,jI x29.Unit,jI x29.Cents]))::(cs 3 [])) (fun γ=>k2 (ir γ.2) (k2 (GD (f:=Gv.enc) (z:=2) (fun _=>rfl) γ.2) (Gb (GX (f:=Gv.enc) (z:=3) (j:=k16) (fun _=>rfl) γ.2 rfl)))) <|
  .gd (GS .i64 ((↑l_0.length:Int) - 1)) <| .run (cs 3 [ow,oa,oc]) (fun γ=>Gb γ.2) <|
  .bd (Kf x29.Unit 1 68719476736) fun r32=>.sp (r32=true)
  (.bd (Kf x29.Cents 0 2147483648) fun r35=>.run (cs 2 ((rN [.any,.any,.any] (.bool r32) [])::(cs 2 (oF::oc::(rN [.any,.any,.any] (.bool r35) [])::(cs 3 []))))) (fun γ=>k2 (Hj x29.Unit 1 68719476736 r32 γ.1.1.2) (k2 ((Gx γ.1.2):(!r32)=false) (Gb (Hj x29.Cents 0 2147483648 r35 γ.2)))) <|
  .sp (r35=true)
  (.run [bf] (fun γ=>Gb ((Gx γ.2):(!r35)=false)) <|
  .sp ((↑k16:Int)=((↑l_0.length:Int) - 1))
  (.sp (x29.Upto=(0:Int))
  (.run (cs 2 (tc::oc::oa::(cs 2 (oF::(cs 2 (oF::(cs 6 (bf::(cs 3 (oF::oF::(oN (.b false))::(cs 12 [bf]))))))))))) (fun γ=>k2 (Gu γ.1.2) (k2 (Gx (Gu γ.2)) (k2 (Gx (Gu γ.1.2)) (k2 fF (k2 (Gx (Gu γ.1.2)) (k2 (Gx (Gu γ.1.2)) (k2 (Gx (Gu γ.1.2)) (Gb fF)))))))) <|
  .gd (GS .i64 ((↑k16:Int)+1)) <| .run [ow,oc] (fun γ=>Gb γ.2) <|
  .leaf (.inl (k16+1)) [])
  (.run (cs 2 (tc::oc::oa::(cs 2 (tc::(cs 9 [bt,oc]))))) (fun γ=>k2 (Gu γ.1.2) (k2 (Gy (Gz γ.2)) (Gb tT))) <|
  .leaf (.inr (.inl 12)) []))
  (.bd (Kf x29.Upto 1 68719476736) fun r41=>.run (cs 2 (oF::(cs 7 (tc::oc::(rN [.any,.any,.any] (.bool r41) [])::(cs 4 []))))) (fun γ=>k2 (Gz γ.1.2) (k2 (Gy (Gz γ.1.2)) (Gb (Hj x29.Upto 1 68719476736 r41 γ.2)))) <|
  .sp (r41=true)
  (.run [bf] (fun γ=>Gb ((Gx γ.2):(!r41)=false)) <|
  .sp ((↑k16:Int)>(0:Int))
  (.gd (GS .i64 ((↑k16:Int) - 1)) <| .gd ((0:Int)≤((↑k16:Int) - 1)) <| .bd (l_0[(Int.toNat ((↑k16:Int) - 1))]?) fun x47=>.run (cs 3 [tc,ta,oN (.b true),oc,tc,tc,tc,tc,tw,.op (some true) (.i (Int.toNat ((↑k16:Int) - 1))),tc,.op (some true) (.v [jI x47.Upto]),ta,oN (.b true),oc]) (fun γ=>k2 (Gy (Gz (yA6 γ))) (k2 (Gy (Gz (yA6 γ))) (k2 (Gy (Gz (yA6 γ))) (k2 (dT (G0 γ)) (k2 (dT (G0 γ)) (k2 (dT (G0 γ)) (k2 (dT (G0 γ)) (k2 (dT (G0 γ)) (k2 γ.1.1.2 (k2 (dT (G0 γ)) (k2 (ix γ.1.2 γ.2) (k2 (GD (f:=Gv.enc) (z:=2) (fun _=>rfl) γ.2) (k2 (dT (G0 γ)) (k2 (dT (G0 γ)) (k2 (GL (f:=Gv.enc) (z:=3) (j:=(Int.toNat ((↑k16:Int) - 1))) (a:=0) (n:=1) (fun _=>rfl) γ.2 (by decide) rfl) (k2 (dT (G0 γ)) (Gb (dT (G0 γ))))))))))))))))))) <|
  .sp (x29.Upto≤x47.Upto)
  (.run [bt,oc] (fun γ=>Gb (dT γ.2)) <|
  .leaf (.inr (.inl 15)) [])
  (.run [bf] (fun γ=>Gb (dF γ.2)) <|
  .gd (GS .i64 ((↑k16:Int)+1)) <| .run [ow,oc] (fun γ=>Gb γ.2) <|
  .leaf (.inl (k16+1)) []))
  (.run (cs 3 [tc,ta,oN (.b true),oc,oF,oF,oF,oF,oF,oF,oF,oF,oF,oN (.b false),oc,bf]) (fun γ=>k2 (Gy (Gz (G0 γ))) (k2 (Gy (Gz (G0 γ))) (k2 (Gy (Gz (G0 γ))) (k2 (dF γ.2) (k2 (dF γ.2) (k2 (dF γ.2) (k2 (dF γ.2) (k2 (dF γ.2) (k2 (dF γ.2) (k2 (dF γ.2) (k2 (dF γ.2) (k2 (dF γ.2) (k2 (dF γ.2) (Gb fF)))))))))))))) <|
  .gd (GS .i64 ((↑k16:Int)+1)) <| .run [ow,oc] (fun γ=>Gb γ.2) <|
  .leaf (.inl (k16+1)) []))
  (.run [bt,oc] (fun γ=>Gb ((Gy (Ja γ.2)):(!r41)=true)) <|
  .leaf (.inr (.inl 12)) [])))
  (.run [bt,oc] (fun γ=>Gb ((Gy (Ja γ.2)):(!r35)=true)) <|
  .leaf (.inr (.inl 1)) []))
  (.run (cs 2 ((rN [.any,.any,.any] (.bool r32) [])::(cs 2 (tc::(cs 5 [bt,oc]))))) (fun γ=>k2 (Hj x29.Unit 1 68719476736 r32 γ.1.2) (k2 ((Gy (Ja γ.2)):(!r32)=true) (Gb tT))) <|
  .leaf (.inr (.inl 1)) []))
  (.run [bf] (fun γ=>Gb (dF γ.2)) <|
  .leaf (.inr (.inr (()))) [])
def KQ (l_0:(List Gv)):Nat→Option (Nat⊕(Int⊕Unit)):=fun s=>(U5 l_0 s).den
def Gf3 (l_0:(List Gv)):Nat→PS:=fun s=>(73,[(0,.lst (fl Gv.enc l_0) l_0.length),(14,.lst (fl Gv.enc l_0) l_0.length),(15,jI (↑l_0.length:Int)),(16,jI (↑s:Int))],[])
def Gf5:(Int⊕Unit)→Hm:=fun q=>match q with | Sum.inl o=>.ret | Sum.inr (o)=>(.exit 1)
def Gf4 (l_0:(List Gv)):(Int⊕Unit)→List (Nat×AV):=fun q=>match q with | Sum.inl o=>[(2,jI o)] | Sum.inr (o)=>[]
def Gf2 (l_0:(List Gv)):(Int⊕Unit)→List Hb:=fun _=>[]
theorem Gb6 (l_0:(List Gv)) {s:Nat} {r:Int⊕Unit} (h:lp (KQ l_0) s=some r):DT 0 (.loop (GK Tryz.prog 287 [1,1,0,1,0,0])) (Gf3 l_0 s).st (Gf5 r) (PS.st (73,Gf4 l_0 r,Gf2 l_0 r)):=
 GN.lp_ht 0 400 (Gf3 l_0) Gf5 (fun q=>(73,Gf4 l_0 q,Gf2 l_0 q)) (U5 l_0) (by intro k16; kernel_rfl) h
def GfE (l_0:(List Gv)):HT Int True:=.run (cs 3 [oa,oc]) (fun _=>Hg) <|
  .sp ((↑l_0.length:Int)>(16:Int))
  (.run [bt,oc] (fun γ=>Gb (dT γ.2)) <|
  .leaf 3 [])
  (.run (bf::(cs 2 [oa,oc])) (fun γ=>Gb (dF γ.2)) <|
  .sp ((↑l_0.length:Int)=(0:Int))
  (.run [bt,oc] (fun γ=>Gb (Gu γ.2)) <|
  .leaf 1 [])
  (.run (bf::(cs 3 [])) (fun γ=>Gb (Gz γ.2)) <|
  .bd (lp (KQ l_0) (0:Nat)) fun qq=>.cs qq (fun o3=>.run [.fcut 0 .ret [(2,jI o3)] [] [] [(0,.any),(14,.any),(15,.any),(16,jI (↑(0:Nat):Int))] []] (fun γ=>k2 (rfl:(jI 0:AV)=jI (↑(0:Nat):Int)) (Gb (Gb6 l_0 (s:=(0:Nat)) (r:=Sum.inl o3) (eS γ.1.2 γ.2)))) <|
  .leaf o3 [])
  (fun o3=>.run [.fcut 0 (.exit 1) [] [] [] [(0,.any),(14,.any),(15,.any),(16,jI (↑(0:Nat):Int))] [],oc] (fun γ=>k2 (rfl:(jI 0:AV)=jI (↑(0:Nat):Int)) (Gb (Gb6 l_0 (s:=(0:Nat)) (r:=Sum.inr (o3)) (eS γ.1.2 γ.2)))) <|
  .leaf 0 [])))
def GfD (l_0:(List Gv)):Option Int:=(GfE l_0).den
theorem GpC (l_0:(List Gv)) (r:Int) (h:GfD l_0=some r):RT 287 [.lst (fl Gv.enc l_0) l_0.length] (jI r) []:=
 HA.of_ht 400 (GfE l_0) (fun (r:Int)=>jI r) (fun (r:Int)=>[]) (by kernel_rfl) h
def U4 (z_0:Gg):Nat→HT (Nat⊕(Unit⊕Unit)) True
 | k17=>.run [oa] (fun _=>Hg) <|
  .sp ((↑k17:Int)<(↑z_0.Hours.length:Int))
  (.run [bt] (fun γ=>Gb (dT γ.2)) <|
  .bd (z_0.Hours[k17]?) fun x14=>.run ((oN (.i k17))::(oN (.v [jI x14.Days,jI x14.From,jI x14.To]))::(cs 2 [])) (fun γ=>k2 (ir γ.2) (k2 (GD (f:=Gl.enc) (z:=2) (fun _=>rfl) γ.2) (Gb (GX (f:=Gl.enc) (z:=3) (j:=k17) (fun _=>rfl) γ.2 rfl)))) <|
  .bd (GfF x14) fun r16=>.run [oc,rN [.any] (.bool r16) [],oc] (fun γ=>Gb (GpD x14 r16 γ.2)) <|
  .sp (r16=true)
  (.run [bf] (fun γ=>Gb ((Gx γ.2):(!r16)=false)) <|
  .gd (GS .i64 ((↑k17:Int)+1)) <| .run [ow,oc] (fun γ=>Gb γ.2) <|
  .leaf (.inl (k17+1)) [0])
  (.run [bt,oc] (fun γ=>Gb ((Gy (Ja γ.2)):(!r16)=true)) <|
  .leaf (.inr (.inl ())) [0]))
  (.run [bf] (fun γ=>Gb (dF γ.2)) <|
  .leaf (.inr (.inr (()))) [0])
def KP (z_0:Gg):Nat→Option (Nat⊕(Unit⊕Unit)):=fun s=>(U4 z_0 s).den
def GfZ (z_0:Gg):Nat→PS:=fun s=>(53,[(1,.ptr 0 0),(15,.lst (fl Gl.enc z_0.Hours) z_0.Hours.length),(16,jI (↑z_0.Hours.length:Int)),(17,jI (↑s:Int))],[(bT (Gg.enc z_0) 87)])
def Gf1:(Unit⊕Unit)→Hm:=fun q=>match q with | Sum.inl o=>.ret | Sum.inr (o)=>(.exit 0)
def Gf0 (z_0:Gg):(Unit⊕Unit)→List (Nat×AV):=fun q=>match q with | Sum.inl o=>[(2,jI 12)] | Sum.inr (o)=>[(1,.ptr 0 0)]
def GfY (z_0:Gg):(Unit⊕Unit)→List Hb:=fun _=>[(bT (Gg.enc z_0) 87)]
theorem Gb5 (z_0:Gg) {s:Nat} {r:Unit⊕Unit} (h:lp (KP z_0) s=some r):DT 1 (.loop (GK Tryz.prog 217 [1,1,1,0,1,0,0])) (GfZ z_0 s).st (Gf1 r) (PS.st (53,Gf0 z_0 r,GfY z_0 r)):=
 GN.lp_ht 1 400 (GfZ z_0) Gf1 (fun q=>(53,Gf0 z_0 q,GfY z_0 q)) (U4 z_0) (by intro k17; kernel_rfl) h
def GfC (z_0:Gg):HT Int True:=.run (cs 2 []) (fun _=>Hg) <|
  .bd (HS z_0.Name) fun r1=>.run (cs 2 [rN [.any] (.bool r1) [],oc]) (fun γ=>Gb (Hh z_0.Name r1 γ.2)) <|
  .sp (r1=true)
  (.run (bf::(cs 3 [oa])) (fun γ=>Gb ((Gx γ.2):(!r1)=false)) <|
  .sp ((↑z_0.Hours.length:Int)>(32:Int))
  (.run [bt,oc] (fun γ=>Gb (dT γ.2)) <|
  .leaf 3 [])
  (.run (bf::(cs 4 [])) (fun γ=>Gb (dF γ.2)) <|
  .bd (lp (KP z_0) (0:Nat)) fun qq=>.cs qq (fun o5=>.run [.fcut 1 .ret [(2,jI 12)] [(bT (Gg.enc z_0) 87)] [0] [(1,.any),(15,.any),(16,.any),(17,jI (↑(0:Nat):Int))] [bS]] (fun γ=>k2 (rfl:(jI 0:AV)=jI (↑(0:Nat):Int)) (Gb (Gb5 z_0 (s:=(0:Nat)) (r:=Sum.inl o5) (eS γ.1.2 γ.2)))) <|
  .leaf 12 [])
  (fun o5=>.run [.fcut 1 (.exit 0) [(1,.ptr 0 0)] [(bT (Gg.enc z_0) 87)] [0] [(1,.any),(15,.any),(16,.any),(17,jI (↑(0:Nat):Int))] [bS]] (fun γ=>k2 (rfl:(jI 0:AV)=jI (↑(0:Nat):Int)) (Gb (Gb5 z_0 (s:=(0:Nat)) (r:=Sum.inr (o5)) (eS γ.1.2 γ.2)))) <|
  .bd (GfD z_0.Steps) fun r20=>.run (cs 2 ((rN [.any] (jI r20) [])::(cs 2 [oa]))) (fun γ=>Gb (GpC z_0.Steps r20 γ.2)) <|
  .sp (r20=(0:Int))
  (.run [bf] (fun γ=>Gb (Gx (Gu γ.2))) <|
  .bd (Kf z_0.Grace 0 68719476736) fun r23=>.sp (r23=true)
  (.bd (Kf z_0.Free 0 68719476736) fun r26=>.sp (r26=true)
  (.bd (Kf z_0.MaxStay 0 68719476736) fun r29=>.run (cs 2 ((rN [.any,.any,.any] (.bool r23) [])::(cs 2 (oF::oc::(rN [.any,.any,.any] (.bool r26) [])::(cs 3 (oF::oc::(rN [.any,.any,.any] (.bool r29) [])::(cs 3 []))))))) (fun γ=>k2 (Hj z_0.Grace 0 68719476736 r23 (HW γ)) (k2 ((Gx (G0 γ)):(!r23)=false) (k2 (Hj z_0.Free 0 68719476736 r26 γ.1.1.2) (k2 ((Gx γ.1.2):(!r26)=false) (Gb (Hj z_0.MaxStay 0 68719476736 r29 γ.2)))))) <|
  .sp (r29=true)
  (.run [bf] (fun γ=>Gb ((Gx γ.2):(!r29)=false)) <|
  .bd (Kf z_0.DayMax 0 1125899906842624) fun r32=>.run (cs 2 ((rN [.any,.any,.any] (.bool r32) [])::(cs 2 []))) (fun γ=>Gb (Hj z_0.DayMax 0 1125899906842624 r32 γ.2)) <|
  .sp (r32=true)
  (.run [bf,oc] (fun γ=>Gb ((Gx γ.2):(!r32)=false)) <|
  .leaf 0 [])
  (.run [bt,oc] (fun γ=>Gb ((Gy (Ja γ.2)):(!r32)=true)) <|
  .leaf 13 []))
  (.run [bt,oc] (fun γ=>Gb ((Gy (Ja γ.2)):(!r29)=true)) <|
  .leaf 12 []))
  (.run (cs 2 ((rN [.any,.any,.any] (.bool r23) [])::(cs 2 (oF::oc::(rN [.any,.any,.any] (.bool r26) [])::(cs 3 (tc::(cs 5 [bt,oc]))))))) (fun γ=>k2 (Hj z_0.Grace 0 68719476736 r23 (G0 γ)) (k2 ((Gx γ.1.1.2):(!r23)=false) (k2 (Hj z_0.Free 0 68719476736 r26 γ.1.2) (k2 ((Gy (Ja γ.2)):(!r26)=true) (Gb tT))))) <|
  .leaf 12 []))
  (.run (cs 2 ((rN [.any,.any,.any] (.bool r23) [])::(cs 2 (tc::(cs 11 [bt,oc]))))) (fun γ=>k2 (Hj z_0.Grace 0 68719476736 r23 γ.1.2) (k2 ((Gy (Ja γ.2)):(!r23)=true) (Gb tT))) <|
  .leaf 12 []))
  (.run (bt::(cs 2 [])) (fun γ=>Gb (Gy (Gz γ.2))) <|
  .leaf r20 []))))
  (.run [bt,oc] (fun γ=>Gb ((Gy (Ja γ.2)):(!r1)=true)) <|
  .leaf 6 [])
def GfB (z_0:Gg):Option Int:=(GfC z_0).den
theorem GpB (z_0:Gg) (r:Int) (h:GfB z_0=some r):RT 217 [.agg (Gg.enc z_0)] (jI r) []:=
 HA.of_ht 400 (GfC z_0) (fun (r:Int)=>jI r) (fun (r:Int)=>[]) (by kernel_rfl) h
def Xy (l_0:(List Gg)) (name_1:(List UInt8)):Nat→HT (Nat⊕(((List UInt8)×(List Gl)×(List Gv)×Int×Int×Int×Int)⊕Unit)) True
 | k10=>.run [oa] (fun _=>Hg) <|
  .sp ((↑k10:Int)<(↑l_0.length:Int))
  (.run [bt] (fun γ=>Gb (dT γ.2)) <|
  .bd (l_0[k10]?) fun x14=>.run ((oN (.i k10))::(oN (.v [.str x14.Name,.lst (fl Gl.enc x14.Hours) x14.Hours.length,.lst (fl Gv.enc x14.Steps) x14.Steps.length,jI x14.Grace,jI x14.Free,jI x14.DayMax,jI x14.MaxStay]))::(cs 5 [oa])) (fun γ=>k2 (ir γ.2) (k2 (GD (f:=Gg.enc) (z:=6) (fun _=>rfl) γ.2) (Gb (GX (f:=Gg.enc) (z:=7) (j:=k10) (fun _=>rfl) γ.2 rfl)))) <|
  .sp (x14.Name=name_1)
  (.run [bt] (fun γ=>Gb (Gu γ.2)) <|
  .sp (0<x14.Hours.length)
  (.gd (x14.Hours.length≤4294967296) <| .sp (0<x14.Steps.length)
  (.gd (x14.Steps.length≤4294967296) <| .run (cs 6 ((oN (.ap 2))::(cs 4 ((oN (.ap 2))::(cs 6 [.tr (.frz [.c 0 1] (fl Gl.enc x14.Hours) x14.Hours.length),.tr (.frz [.c 0 2] (fl Gv.enc x14.Steps) x14.Steps.length)]))))) (fun γ=>k2 ((GZ (f:=Gl.enc) (z:=3) (fun _=>rfl) _):List.length (fl Gl.enc x14.Hours)=(x14.Hours.length*3)) (k2 (G0 γ) (k2 γ.1.1.2 (k2 ((GZ (f:=Gv.enc) (z:=3) (fun _=>rfl) _):List.length (fl Gv.enc x14.Steps)=(x14.Steps.length*3)) (k2 γ.1.2 (k2 γ.2 (k2 (⟨rfl,Goa (GZ (f:=Gl.enc) (z:=3) (fun _=>rfl) _),rfl,Nat.le_of_eq ((Nat.zero_add _).trans (GZ (f:=Gl.enc) (z:=3) (fun _=>rfl) _).symm),Nat.le_refl _⟩:4=4∧sub (fl Gl.enc x14.Hours) 0 (x14.Hours.length*3)=(fl Gl.enc x14.Hours)∧x14.Hours.length=x14.Hours.length∧0+(x14.Hours.length*3)≤List.length (fl Gl.enc x14.Hours)∧x14.Hours.length≤x14.Hours.length) (Gb (⟨rfl,Goa (GZ (f:=Gv.enc) (z:=3) (fun _=>rfl) _),rfl,Nat.le_of_eq ((Nat.zero_add _).trans (GZ (f:=Gv.enc) (z:=3) (fun _=>rfl) _).symm),Nat.le_refl _⟩:5=5∧sub (fl Gv.enc x14.Steps) 0 (x14.Steps.length*3)=(fl Gv.enc x14.Steps)∧x14.Steps.length=x14.Steps.length∧0+(x14.Steps.length*3)≤List.length (fl Gv.enc x14.Steps)∧x14.Steps.length≤x14.Steps.length))))))))) <|
  .leaf (.inr (.inl (x14.Name,x14.Hours,x14.Steps,x14.Grace,x14.Free,x14.DayMax,x14.MaxStay))) [0])
  (.run (cs 6 ((oN (.ap 2))::(cs 4 ((oN (.ap 0))::(cs 6 [.tr (.frz [.c 0 1] (fl Gl.enc x14.Hours) x14.Hours.length),.tr (.nl (.c 0 2))]))))) (fun γ=>k2 ((GZ (f:=Gl.enc) (z:=3) (fun _=>rfl) _):List.length (fl Gl.enc x14.Hours)=(x14.Hours.length*3)) (k2 γ.1.1.2 (k2 γ.1.2 (k2 ((GZ (f:=Gv.enc) (z:=3) (fun _=>rfl) _):List.length (fl Gv.enc x14.Steps)=(x14.Steps.length*3)) (k2 ((Nat.eq_zero_of_not_pos γ.2):x14.Steps.length=0) (Gb (⟨rfl,Goa (GZ (f:=Gl.enc) (z:=3) (fun _=>rfl) _),rfl,Nat.le_of_eq ((Nat.zero_add _).trans (GZ (f:=Gl.enc) (z:=3) (fun _=>rfl) _).symm),Nat.le_refl _⟩:4=4∧sub (fl Gl.enc x14.Hours) 0 (x14.Hours.length*3)=(fl Gl.enc x14.Hours)∧x14.Hours.length=x14.Hours.length∧0+(x14.Hours.length*3)≤List.length (fl Gl.enc x14.Hours)∧x14.Hours.length≤x14.Hours.length))))))) <|
  .leaf (.inr (.inl (x14.Name,x14.Hours,[],x14.Grace,x14.Free,x14.DayMax,x14.MaxStay))) [0]))
  (.sp (0<x14.Steps.length)
  (.gd (x14.Steps.length≤4294967296) <| .run (cs 6 ((oN (.ap 0))::(cs 4 ((oN (.ap 2))::(cs 6 [.tr (.nl (.c 0 1)),.tr (.frz [.c 0 2] (fl Gv.enc x14.Steps) x14.Steps.length)]))))) (fun γ=>k2 ((GZ (f:=Gl.enc) (z:=3) (fun _=>rfl) _):List.length (fl Gl.enc x14.Hours)=(x14.Hours.length*3)) (k2 ((Nat.eq_zero_of_not_pos γ.1.1.2):x14.Hours.length=0) (k2 ((GZ (f:=Gv.enc) (z:=3) (fun _=>rfl) _):List.length (fl Gv.enc x14.Steps)=(x14.Steps.length*3)) (k2 γ.1.2 (k2 γ.2 (Gb (⟨rfl,Goa (GZ (f:=Gv.enc) (z:=3) (fun _=>rfl) _),rfl,Nat.le_of_eq ((Nat.zero_add _).trans (GZ (f:=Gv.enc) (z:=3) (fun _=>rfl) _).symm),Nat.le_refl _⟩:4=4∧sub (fl Gv.enc x14.Steps) 0 (x14.Steps.length*3)=(fl Gv.enc x14.Steps)∧x14.Steps.length=x14.Steps.length∧0+(x14.Steps.length*3)≤List.length (fl Gv.enc x14.Steps)∧x14.Steps.length≤x14.Steps.length))))))) <|
  .leaf (.inr (.inl (x14.Name,[],x14.Steps,x14.Grace,x14.Free,x14.DayMax,x14.MaxStay))) [0])
  (.run (cs 6 ((oN (.ap 0))::(cs 4 ((oN (.ap 0))::(cs 6 [.tr (.unp 0),.tr (.nl (.c 0 1)),.tr (.nl (.c 0 2))]))))) (fun γ=>k2 ((GZ (f:=Gl.enc) (z:=3) (fun _=>rfl) _):List.length (fl Gl.enc x14.Hours)=(x14.Hours.length*3)) (k2 ((Nat.eq_zero_of_not_pos γ.1.2):x14.Hours.length=0) (k2 ((GZ (f:=Gv.enc) (z:=3) (fun _=>rfl) _):List.length (fl Gv.enc x14.Steps)=(x14.Steps.length*3)) (Gb ((Nat.eq_zero_of_not_pos γ.2):x14.Steps.length=0))))) <|
  .leaf (.inr (.inl (x14.Name,[],[],x14.Grace,x14.Free,x14.DayMax,x14.MaxStay))) [0])))
  (.run [bf] (fun γ=>Gb (Gz γ.2)) <|
  .gd (GS .i64 ((↑k10:Int)+1)) <| .run [ow,oc] (fun γ=>Gb γ.2) <|
  .leaf (.inl (k10+1)) [0]))
  (.run [bf] (fun γ=>Gb (dF γ.2)) <|
  .leaf (.inr (.inr (()))) [0])
def Mp (l_0:(List Gg)) (name_1:(List UInt8)):Nat→Option (Nat⊕(((List UInt8)×(List Gl)×(List Gv)×Int×Int×Int×Int)⊕Unit)):=fun s=>(Xy l_0 name_1 s).den
def Gh3 (l_0:(List Gg)) (name_1:(List UInt8)):Nat→PS:=fun s=>(22,[(1,.str name_1),(4,.ptr 0 0),(8,.lst (fl Gg.enc l_0) l_0.length),(9,jI (↑l_0.length:Int)),(10,jI (↑s:Int))],[(bT [.str [],.nils,.nils,jI 0,jI 0,jI 0,jI 0] 87)])
def Gh5:(((List UInt8)×(List Gl)×(List Gv)×Int×Int×Int×Int)⊕Unit)→Hm:=fun q=>match q with | Sum.inl o=>.ret | Sum.inr (o)=>(.exit 0)
def Gh4 (l_0:(List Gg)) (name_1:(List UInt8)):(((List UInt8)×(List Gl)×(List Gv)×Int×Int×Int×Int)⊕Unit)→List (Nat×AV):=fun q=>match q with | Sum.inl o=>[(4,.ptr 0 0),(5,.bool true)] | Sum.inr (o)=>[(4,.ptr 0 0)]
def Xx (l_0:(List Gg)) (name_1:(List UInt8)):(((List UInt8)×(List Gl)×(List Gv)×Int×Int×Int×Int)⊕Unit)→List Hb:=fun q=>match q with | Sum.inl o=>[(bF [.str o.1,.lst (fl Gl.enc o.2.1) o.2.1.length,.lst (fl Gv.enc o.2.2.1) o.2.2.1.length,jI o.2.2.2.1,jI o.2.2.2.2.1,jI o.2.2.2.2.2.1,jI o.2.2.2.2.2.2] 87)] | Sum.inr (o)=>[(bT [.str [],.nils,.nils,jI 0,jI 0,jI 0,jI 0] 87)]
theorem GdA (l_0:(List Gg)) (name_1:(List UInt8)) {s:Nat} {r:((List UInt8)×(List Gl)×(List Gv)×Int×Int×Int×Int)⊕Unit} (h:lp (Mp l_0 name_1) s=some r):DT 1 (.loop (GK Tryz.prog 218 [1,0,1,0,0])) (Gh3 l_0 name_1 s).st (Gh5 r) (PS.st (22,Gh4 l_0 name_1 r,Xx l_0 name_1 r)):=
 GN.lp_ht 1 400 (Gh3 l_0 name_1) Gh5 (fun q=>(22,Gh4 l_0 name_1 q,Xx l_0 name_1 q)) (Xy l_0 name_1) (by intro k10; kernel_rfl) h
def Gh6 (l_0:(List Gg)) (name_1:(List UInt8)):HT (Gg×Bool) True:=.run (cs 5 []) (fun _=>Hg) <|
  .bd (lp (Mp l_0 name_1) (0:Nat)) fun qq=>.cs qq (fun o1=>.run [.fcut 1 .ret [(4,.ptr 0 0),(5,.bool true)] (Xx l_0 name_1 (Sum.inl o1)) [0] [(1,.any),(4,.any),(8,.any),(9,.any),(10,jI (↑(0:Nat):Int))] [bS]] (fun γ=>k2 (rfl:(jI 0:AV)=jI (↑(0:Nat):Int)) (Gb (GdA l_0 name_1 (s:=(0:Nat)) (r:=Sum.inl o1) (eS γ.1.2 γ.2)))) <|
  .leaf ((⟨o1.1,o1.2.1,o1.2.2.1,o1.2.2.2.1,o1.2.2.2.2.1,o1.2.2.2.2.2.1,o1.2.2.2.2.2.2⟩:Gg),true) [])
  (fun o1=>.run ((.fcut 1 (.exit 0) [(4,.ptr 0 0)] (Xx l_0 name_1 (Sum.inr (o1))) [0] [(1,.any),(4,.any),(8,.any),(9,.any),(10,jI (↑(0:Nat):Int))] [bS])::(cs 3 [.tr (.unp 0),.tr (.nl (.c 0 1)),.tr (.nl (.c 0 2))])) (fun γ=>k2 (rfl:(jI 0:AV)=jI (↑(0:Nat):Int)) (Gb (GdA l_0 name_1 (s:=(0:Nat)) (r:=Sum.inr (o1)) (eS γ.1.2 γ.2)))) <|
  .leaf ((⟨([]:List UInt8),[],[],0,0,0,0⟩:Gg),false) [])
def Ge6 (l_0:(List Gg)) (name_1:(List UInt8)):Option (Gg×Bool):=(Gh6 l_0 name_1).den
theorem GjV (l_0:(List Gg)) (name_1:(List UInt8)) (r:(Gg×Bool)) (h:Ge6 l_0 name_1=some r):RT 218 [.lst (fl Gg.enc l_0) l_0.length,.str name_1] (.tup [.agg (Gg.enc r.1),.bool r.2]) []:=
 HA.of_ht 400 (Gh6 l_0 name_1) (fun (r:(Gg×Bool))=>.tup [.agg (Gg.enc r.1),.bool r.2]) (fun (r:(Gg×Bool))=>[]) (by kernel_rfl) h
def Qm (l_0:(List Gg)):Nat→HT (Nat⊕(Int⊕Unit)) True
 | k13=>.run [oa] (fun _=>Hg) <|
  .sp ((↑k13:Int)<(↑l_0.length:Int))
  (.run [bt] (fun γ=>Gb (dT γ.2)) <|
  .bd (l_0[k13]?) fun x15=>.run (oc::(oN (.i k13))::(oN (.v [.str x15.Name,.lst (fl Gl.enc x15.Hours) x15.Hours.length,.lst (fl Gv.enc x15.Steps) x15.Steps.length,jI x15.Grace,jI x15.Free,jI x15.DayMax,jI x15.MaxStay]))::(cs 3 [])) (fun γ=>k2 (ir γ.2) (k2 (GD (f:=Gg.enc) (z:=6) (fun _=>rfl) γ.2) (Gb (GX (f:=Gg.enc) (z:=7) (j:=k13) (fun _=>rfl) γ.2 rfl)))) <|
  .bd (GfB x15) fun r17=>.run (oc::(rN [.any] (jI r17) [])::(cs 2 [oa])) (fun γ=>Gb (GpB x15 r17 γ.2)) <|
  .sp (r17=(0:Int))
  (.run [bf] (fun γ=>Gb (Gx (Gu γ.2))) <|
  .gd (k13≤l_0.length) <| .bd (Ge6 (List.take k13 l_0) x15.Name) fun r21=>.run (cs 2 ((oN (.s 0 k13))::(.trp (.eqt (.t 26) (.lst (fl Gg.enc (List.take k13 l_0)) ((List.take k13 l_0).length))))::(cs 2 ((rN [.any,.any] (.tup [.agg (Gg.enc r21.1),.bool r21.2]) [])::(cs 7 []))))) (fun γ=>k2 (rfl:(↑k13:Int)=((k13:Nat):Int)) (k2 (⟨Nat.zero_le _,γ.1.2⟩:0≤k13∧k13≤l_0.length) (k2 ((Ya (RS (f:=Gg.enc) (z:=7) (fun _=>rfl) _ _) (by rw [List.length_take]; omega)):(.lst (List.take (k13*7) (fl Gg.enc l_0)) k13:AV)=.lst (fl Gg.enc (List.take k13 l_0)) ((List.take k13 l_0).length)) (Gb (GjV (List.take k13 l_0) x15.Name r21 γ.2))))) <|
  .sp (r21.2=true)
  (.run [bt,oc] (fun γ=>Gb γ.2) <|
  .leaf (.inr (.inl 9)) [])
  (.run [bf] (fun γ=>Gb ((Ja γ.2):r21.2=false)) <|
  .gd (GS .i64 ((↑k13:Int)+1)) <| .run [ow,oc] (fun γ=>Gb γ.2) <|
  .leaf (.inl (k13+1)) []))
  (.run (bt::(cs 2 [])) (fun γ=>Gb (Gy (Gz γ.2))) <|
  .leaf (.inr (.inl r17)) []))
  (.run [bf] (fun γ=>Gb (dF γ.2)) <|
  .leaf (.inr (.inr (()))) [])
def JP (l_0:(List Gg)):Nat→Option (Nat⊕(Int⊕Unit)):=fun s=>(Qm l_0 s).den
def Gb2 (l_0:(List Gg)):Nat→PS:=fun s=>(34,[(0,.lst (fl Gg.enc l_0) l_0.length),(11,.lst (fl Gg.enc l_0) l_0.length),(12,jI (↑l_0.length:Int)),(13,jI (↑s:Int))],[])
def Gb4:(Int⊕Unit)→Hm:=fun q=>match q with | Sum.inl o=>.ret | Sum.inr (o)=>(.exit 0)
def Gb3 (l_0:(List Gg)):(Int⊕Unit)→List (Nat×AV):=fun q=>match q with | Sum.inl o=>[(2,jI o)] | Sum.inr (o)=>[]
def Gb1 (l_0:(List Gg)):(Int⊕Unit)→List Hb:=fun _=>[]
theorem XV (l_0:(List Gg)) {s:Nat} {r:Int⊕Unit} (h:lp (JP l_0) s=some r):DT 0 (.loop (GK Tryz.prog 141 [1,1,0,1,0,0])) (Gb2 l_0 s).st (Gb4 r) (PS.st (34,Gb3 l_0 r,Gb1 l_0 r)):=
 GN.lp_ht 0 400 (Gb2 l_0) Gb4 (fun q=>(34,Gb3 l_0 q,Gb1 l_0 q)) (Qm l_0) (by intro k13; kernel_rfl) h
def ZK (l_0:(List Gg)):HT Int True:=.run (cs 3 [oa]) (fun _=>Hg) <|
  .sp ((↑l_0.length:Int)>(1024:Int))
  (.run [bt,oc] (fun γ=>Gb (dT γ.2)) <|
  .leaf 3 [])
  (.run (bf::(cs 3 [])) (fun γ=>Gb (dF γ.2)) <|
  .bd (lp (JP l_0) (0:Nat)) fun qq=>.cs qq (fun o2=>.run [.fcut 0 .ret [(2,jI o2)] [] [] [(0,.any),(11,.any),(12,.any),(13,jI (↑(0:Nat):Int))] []] (fun γ=>k2 (rfl:(jI 0:AV)=jI (↑(0:Nat):Int)) (Gb (XV l_0 (s:=(0:Nat)) (r:=Sum.inl o2) (eS γ.1.2 γ.2)))) <|
  .leaf o2 [])
  (fun o2=>.run [.fcut 0 (.exit 0) [] [] [] [(0,.any),(11,.any),(12,.any),(13,jI (↑(0:Nat):Int))] [],oc] (fun γ=>k2 (rfl:(jI 0:AV)=jI (↑(0:Nat):Int)) (Gb (XV l_0 (s:=(0:Nat)) (r:=Sum.inr (o2)) (eS γ.1.2 γ.2)))) <|
  .leaf 0 []))
def YL (l_0:(List Gg)):Option Int:=(ZK l_0).den
theorem Gl5 (l_0:(List Gg)) (r:Int) (h:YL l_0=some r):RT 141 [.lst (fl Gg.enc l_0) l_0.length] (jI r) []:=
 HA.of_ht 400 (ZK l_0) (fun (r:Int)=>jI r) (fun (r:Int)=>[]) (by kernel_rfl) h
def Ghm (i_0:Gp):HT Bool True:=.run (cs 2 []) (fun _=>Hg) <|
  .sp (i_0.From≥(0:Int))
  (.sp (i_0.From<i_0.To)
  (.run (cs 2 (oa::oc::tc::(cs 3 (oa::(cs 2 (tc::oc::oa::(cs 2 []))))))) (fun γ=>k2 (dT γ.1.2) (Gb (dT γ.2))) <|
  .leaf (decide (i_0.To≤(68719476736:Int))) [])
  (.run (cs 2 (oa::oc::tc::(cs 3 (oa::(cs 2 (oF::(cs 4 []))))))) (fun γ=>k2 (dT γ.1.2) (Gb (dF γ.2))) <|
  .leaf false []))
  (.run (cs 2 (oa::oc::oF::(cs 11 []))) (fun γ=>Gb (dF γ.2)) <|
  .leaf false [])
def Qy (i_0:Gp):Option Bool:=(Ghm i_0).den
theorem HZ (i_0:Gp) (r:Bool) (h:Qy i_0=some r):RT 92 [.agg (Gp.enc i_0)] (.bool r) []:=
 HA.of_ht 400 (Ghm i_0) (fun (r:Bool)=>.bool r) (fun (r:Bool)=>[]) (by kernel_rfl) h
def GdM (w_0:Gl):HT Bool True:=.run (cs 2 []) (fun _=>Hg) <|
  .sp (w_0.Days≥(1:Int))
  (.sp (w_0.Days≤(127:Int))
  (.sp (w_0.From≥(0:Int))
  (.sp (w_0.From<w_0.To)
  (.run (cs 2 (oa::oc::tc::oc::oa::(cs 2 (tc::oc::oa::(cs 2 (tc::(cs 3 (oa::(cs 2 (tc::oc::oa::(cs 2 []))))))))))) (fun γ=>k2 (dT (G0 γ)) (k2 (dT γ.1.1.2) (k2 (dT γ.1.2) (Gb (dT γ.2))))) <|
  .leaf (decide (w_0.To≤(1440:Int))) [])
  (.run (cs 2 (oa::oc::tc::oc::oa::(cs 2 (tc::oc::oa::(cs 2 (tc::(cs 3 (oa::(cs 2 (oF::(cs 4 []))))))))))) (fun γ=>k2 (dT (G0 γ)) (k2 (dT γ.1.1.2) (k2 (dT γ.1.2) (Gb (dF γ.2))))) <|
  .leaf false []))
  (.run (cs 2 (oa::oc::tc::oc::oa::(cs 2 (tc::oc::oa::(cs 2 (oF::(cs 11 []))))))) (fun γ=>k2 (dT γ.1.1.2) (k2 (dT γ.1.2) (Gb (dF γ.2)))) <|
  .leaf false []))
  (.run (cs 2 (oa::oc::tc::oc::oa::(cs 2 (oF::(cs 16 []))))) (fun γ=>k2 (dT γ.1.2) (Gb (dF γ.2))) <|
  .leaf false []))
  (.run (cs 2 (oa::oc::oF::(cs 21 []))) (fun γ=>Gb (dF γ.2)) <|
  .leaf false [])
def YX (w_0:Gl):Option Bool:=(GdM w_0).den
theorem GfL (w_0:Gl) (r:Bool) (h:YX w_0=some r):RT 93 [.agg (Gl.enc w_0)] (.bool r) []:=
 HA.of_ht 400 (GdM w_0) (fun (r:Bool)=>.bool r) (fun (r:Bool)=>[]) (by kernel_rfl) h
def Gaq (l_0:(List Gg)) (name_1:(List UInt8)):Nat→HT (Nat⊕(((List UInt8)×(List Gl)×(List Gv)×Int×Int×Int×Int)⊕Unit)) True
 | k6=>.run (cs 3 [oa]) (fun _=>Hg) <|
  .sp ((↑k6:Int)<(↑l_0.length:Int))
  (.run [bt] (fun γ=>Gb (dT γ.2)) <|
  .bd (l_0[k6]?) fun x8=>.run (cs 2 [oN (.i k6),oc,oN (.v [.str x8.Name]),oc,oa]) (fun γ=>k2 (ir γ.2) (k2 (GD (f:=Gg.enc) (z:=6) (fun _=>rfl) γ.2) (Gb (GL (f:=Gg.enc) (z:=7) (j:=k6) (a:=0) (n:=1) (fun _=>rfl) γ.2 (by decide) rfl)))) <|
  .sp (x8.Name=name_1)
  (.run (bt::(cs 2 ((oN (.i k6))::(oN (.v [.str x8.Name,.lst (fl Gl.enc x8.Hours) x8.Hours.length,.lst (fl Gv.enc x8.Steps) x8.Steps.length,jI x8.Grace,jI x8.Free,jI x8.DayMax,jI x8.MaxStay]))::(cs 2 [])))) (fun γ=>k2 (Gu γ.2) (k2 (ir γ.1.2) (k2 (GD (f:=Gg.enc) (z:=6) (fun _=>rfl) γ.1.2) (Gb (GX (f:=Gg.enc) (z:=7) (j:=k6) (fun _=>rfl) γ.1.2 rfl))))) <|
  .leaf (.inr (.inl (x8.Name,x8.Hours,x8.Steps,x8.Grace,x8.Free,x8.DayMax,x8.MaxStay))) [0])
  (.run [bf] (fun γ=>Gb (Gz γ.2)) <|
  .gd (GS .i64 ((↑k6:Int)+1)) <| .run [oc,ow,oc] (fun γ=>Gb γ.2) <|
  .leaf (.inl (k6+1)) [0]))
  (.run [bf] (fun γ=>Gb (dF γ.2)) <|
  .leaf (.inr (.inr (()))) [0])
def Qr (l_0:(List Gg)) (name_1:(List UInt8)):Nat→Option (Nat⊕(((List UInt8)×(List Gl)×(List Gv)×Int×Int×Int×Int)⊕Unit)):=fun s=>(Gaq l_0 name_1 s).den
def Glp (l_0:(List Gg)) (name_1:(List UInt8)):Nat→PS:=fun s=>(25,[(0,.lst (fl Gg.enc l_0) l_0.length),(1,.str name_1),(4,.ptr 0 0),(6,jI (↑s:Int))],[(bT [.str [],.nils,.nils,jI 0,jI 0,jI 0,jI 0] 87)])
def Glr:(((List UInt8)×(List Gl)×(List Gv)×Int×Int×Int×Int)⊕Unit)→Hm:=fun q=>match q with | Sum.inl o=>.ret | Sum.inr (o)=>(.exit 0)
def Glq (l_0:(List Gg)) (name_1:(List UInt8)):(((List UInt8)×(List Gl)×(List Gv)×Int×Int×Int×Int)⊕Unit)→List (Nat×AV):=fun q=>match q with | Sum.inl o=>[(4,.ptr 0 0),(5,.bool true)] | Sum.inr (o)=>[(4,.ptr 0 0)]
def Gao (l_0:(List Gg)) (name_1:(List UInt8)):(((List UInt8)×(List Gl)×(List Gv)×Int×Int×Int×Int)⊕Unit)→List Hb:=fun q=>match q with | Sum.inl o=>[(bT [.str o.1,.lst (fl Gl.enc o.2.1) o.2.1.length,.lst (fl Gv.enc o.2.2.1) o.2.2.1.length,jI o.2.2.2.1,jI o.2.2.2.2.1,jI o.2.2.2.2.2.1,jI o.2.2.2.2.2.2] 87)] | Sum.inr (o)=>[(bT [.str [],.nils,.nils,jI 0,jI 0,jI 0,jI 0] 87)]
theorem GfK (l_0:(List Gg)) (name_1:(List UInt8)) {s:Nat} {r:((List UInt8)×(List Gl)×(List Gv)×Int×Int×Int×Int)⊕Unit} (h:lp (Qr l_0 name_1) s=some r):DT 1 (.loop (GK Tryz.prog 89 [1,0,1,0,0])) (Glp l_0 name_1 s).st (Glr r) (PS.st (25,Glq l_0 name_1 r,Gao l_0 name_1 r)):=
 GN.lp_ht 1 400 (Glp l_0 name_1) Glr (fun q=>(25,Glq l_0 name_1 q,Gao l_0 name_1 q)) (Gaq l_0 name_1) (by intro k6; kernel_rfl) h
def Gmw (l_0:(List Gg)) (name_1:(List UInt8)):HT (Gg×Bool) True:=.run (cs 3 []) (fun _=>Hg) <|
  .bd (lp (Qr l_0 name_1) (0:Nat)) fun qq=>.cs qq (fun o1=>.run [.fcut 1 .ret [(4,.ptr 0 0),(5,.bool true)] (Gao l_0 name_1 (Sum.inl o1)) [0] [(0,.any),(1,.any),(4,.any),(6,jI (↑(0:Nat):Int))] [bS]] (fun γ=>k2 (rfl:(jI 0:AV)=jI (↑(0:Nat):Int)) (Gb (GfK l_0 name_1 (s:=(0:Nat)) (r:=Sum.inl o1) (eS γ.1.2 γ.2)))) <|
  .leaf ((⟨o1.1,o1.2.1,o1.2.2.1,o1.2.2.2.1,o1.2.2.2.2.1,o1.2.2.2.2.2.1,o1.2.2.2.2.2.2⟩:Gg),true) [])
  (fun o1=>.run ((.fcut 1 (.exit 0) [(4,.ptr 0 0)] (Gao l_0 name_1 (Sum.inr (o1))) [0] [(0,.any),(1,.any),(4,.any),(6,jI (↑(0:Nat):Int))] [bS])::(cs 3 [])) (fun γ=>k2 (rfl:(jI 0:AV)=jI (↑(0:Nat):Int)) (Gb (GfK l_0 name_1 (s:=(0:Nat)) (r:=Sum.inr (o1)) (eS γ.1.2 γ.2)))) <|
  .leaf ((⟨([]:List UInt8),[],[],0,0,0,0⟩:Gg),false) [])
def Gn6 (l_0:(List Gg)) (name_1:(List UInt8)):Option (Gg×Bool):=(Gmw l_0 name_1).den
theorem GsM (l_0:(List Gg)) (name_1:(List UInt8)) (r:(Gg×Bool)) (h:Gn6 l_0 name_1=some r):RT 89 [.lst (fl Gg.enc l_0) l_0.length,.str name_1] (.tup [.agg (Gg.enc r.1),.bool r.2]) []:=
 HA.of_ht 400 (Gmw l_0 name_1) (fun (r:(Gg×Bool))=>.tup [.agg (Gg.enc r.1),.bool r.2]) (fun (r:(Gg×Bool))=>[]) (by kernel_rfl) h
def Gmx (l_0:(List Gv)) (i_1:Int):HT Int True:=.run [oc] (fun _=>Hg) <|
  .gd ((0:Int)≤i_1) <| .bd (l_0[i_1.toNat]?) fun x2=>.sp (x2.Unit<(1:Int))
  (.run (cs 2 ((oN (.i i_1.toNat))::oc::(oN (.v [jI x2.Unit]))::oa::oc::tc::(cs 22 [bt,oc]))) (fun γ=>k2 (ix γ.1.1.2 γ.1.2) (k2 (GD (f:=Gv.enc) (z:=2) (fun _=>rfl) γ.1.2) (k2 (GL (f:=Gv.enc) (z:=3) (j:=i_1.toNat) (a:=1) (n:=1) (fun _=>rfl) γ.1.2 (by decide) rfl) (k2 (dT γ.2) (Gb tT))))) <|
  .leaf 1 [])
  (.sp (x2.Unit>(68719476736:Int))
  (.run (cs 2 ((oN (.i i_1.toNat))::oc::(oN (.v [jI x2.Unit]))::oa::oc::oF::oc::(oN (.i i_1.toNat))::oc::(oN (.v [jI x2.Unit]))::oa::(cs 2 (tc::(cs 14 [bt,oc]))))) (fun γ=>k2 (ix (G0 γ) γ.1.1.2) (k2 (GD (f:=Gv.enc) (z:=2) (fun _=>rfl) γ.1.1.2) (k2 (GL (f:=Gv.enc) (z:=3) (j:=i_1.toNat) (a:=1) (n:=1) (fun _=>rfl) γ.1.1.2 (by decide) rfl) (k2 (dF γ.1.2) (k2 (ix (G0 γ) γ.1.1.2) (k2 (GD (f:=Gv.enc) (z:=2) (fun _=>rfl) γ.1.1.2) (k2 (GL (f:=Gv.enc) (z:=3) (j:=i_1.toNat) (a:=1) (n:=1) (fun _=>rfl) γ.1.1.2 (by decide) rfl) (k2 (dT γ.2) (Gb tT))))))))) <|
  .leaf 1 [])
  (.sp (x2.Cents<(0:Int))
  (.run (cs 2 ((oN (.i i_1.toNat))::oc::(oN (.v [jI x2.Unit]))::oa::oc::oF::oc::(oN (.i i_1.toNat))::oc::(oN (.v [jI x2.Unit]))::oa::(cs 2 (oF::oc::(oN (.i i_1.toNat))::oc::(oN (.v [jI x2.Cents]))::oa::(cs 2 (tc::(cs 6 [bt,oc]))))))) (fun γ=>k2 (ix (HW γ) (G0 γ)) (k2 (GD (f:=Gv.enc) (z:=2) (fun _=>rfl) (G0 γ)) (k2 (GL (f:=Gv.enc) (z:=3) (j:=i_1.toNat) (a:=1) (n:=1) (fun _=>rfl) (G0 γ) (by decide) rfl) (k2 (dF γ.1.1.2) (k2 (ix (HW γ) (G0 γ)) (k2 (GD (f:=Gv.enc) (z:=2) (fun _=>rfl) (G0 γ)) (k2 (GL (f:=Gv.enc) (z:=3) (j:=i_1.toNat) (a:=1) (n:=1) (fun _=>rfl) (G0 γ) (by decide) rfl) (k2 (dF γ.1.2) (k2 (ix (HW γ) (G0 γ)) (k2 (GD (f:=Gv.enc) (z:=2) (fun _=>rfl) (G0 γ)) (k2 (GL (f:=Gv.enc) (z:=3) (j:=i_1.toNat) (a:=2) (n:=1) (fun _=>rfl) (G0 γ) (by decide) rfl) (k2 (dT γ.2) (Gb tT))))))))))))) <|
  .leaf 1 [])
  (.run (cs 2 ((oN (.i i_1.toNat))::oc::(oN (.v [jI x2.Unit]))::oa::oc::oF::oc::(oN (.i i_1.toNat))::oc::(oN (.v [jI x2.Unit]))::oa::(cs 2 (oF::oc::(oN (.i i_1.toNat))::oc::(oN (.v [jI x2.Cents]))::oa::(cs 2 [oF,oc,oN (.i i_1.toNat),oc,oN (.v [jI x2.Cents]),oa,oc]))))) (fun γ=>k2 (ix (HW γ) (G0 γ)) (k2 (GD (f:=Gv.enc) (z:=2) (fun _=>rfl) (G0 γ)) (k2 (GL (f:=Gv.enc) (z:=3) (j:=i_1.toNat) (a:=1) (n:=1) (fun _=>rfl) (G0 γ) (by decide) rfl) (k2 (dF γ.1.1.2) (k2 (ix (HW γ) (G0 γ)) (k2 (GD (f:=Gv.enc) (z:=2) (fun _=>rfl) (G0 γ)) (k2 (GL (f:=Gv.enc) (z:=3) (j:=i_1.toNat) (a:=1) (n:=1) (fun _=>rfl) (G0 γ) (by decide) rfl) (k2 (dF γ.1.2) (k2 (ix (HW γ) (G0 γ)) (k2 (GD (f:=Gv.enc) (z:=2) (fun _=>rfl) (G0 γ)) (k2 (GL (f:=Gv.enc) (z:=3) (j:=i_1.toNat) (a:=2) (n:=1) (fun _=>rfl) (G0 γ) (by decide) rfl) (k2 (dF γ.2) (k2 (ix (HW γ) (G0 γ)) (k2 (GD (f:=Gv.enc) (z:=2) (fun _=>rfl) (G0 γ)) (Gb (GL (f:=Gv.enc) (z:=3) (j:=i_1.toNat) (a:=2) (n:=1) (fun _=>rfl) (G0 γ) (by decide) rfl)))))))))))))))) <|
  .sp (x2.Cents>(2147483648:Int))
  (.run [bt,oc] (fun γ=>Gb (dT γ.2)) <|
  .leaf 1 [])
  (.run [bf] (fun γ=>Gb (dF γ.2)) <|
  .gd (GS .i64 ((↑l_0.length:Int) - 1)) <| .run (cs 3 [ow,oa]) (fun γ=>Gb γ.2) <|
  .sp (i_1=((↑l_0.length:Int) - 1))
  (.run (bt::(cs 2 [oN (.i i_1.toNat),oc,oN (.v [jI x2.Upto]),oa])) (fun γ=>k2 (Gu γ.2) (k2 (ix (RB γ) (yA6 γ)) (k2 (GD (f:=Gv.enc) (z:=2) (fun _=>rfl) (yA6 γ)) (Gb (GL (f:=Gv.enc) (z:=3) (j:=i_1.toNat) (a:=0) (n:=1) (fun _=>rfl) (yA6 γ) (by decide) rfl))))) <|
  .sp (x2.Upto=(0:Int))
  (.run [bf,oc] (fun γ=>Gb (Gx (Gu γ.2))) <|
  .leaf 0 [])
  (.run [bt,oc] (fun γ=>Gb (Gy (Gz γ.2))) <|
  .leaf 12 []))
  (.run [bf] (fun γ=>Gb (Gz γ.2)) <|
  .sp (x2.Upto<(1:Int))
  (.run (cs 2 ((oN (.i i_1.toNat))::oc::(oN (.v [jI x2.Upto]))::oa::oc::tc::(cs 6 [bt,oc]))) (fun γ=>k2 (ix (yA8 γ) (RB γ)) (k2 (GD (f:=Gv.enc) (z:=2) (fun _=>rfl) (RB γ)) (k2 (GL (f:=Gv.enc) (z:=3) (j:=i_1.toNat) (a:=0) (n:=1) (fun _=>rfl) (RB γ) (by decide) rfl) (k2 (dT γ.2) (Gb tT))))) <|
  .leaf 12 [])
  (.run (cs 2 [oN (.i i_1.toNat),oc,oN (.v [jI x2.Upto]),oa,oc,oF,oc,oN (.i i_1.toNat),oc,oN (.v [jI x2.Upto]),oa,oc]) (fun γ=>k2 (ix (yA8 γ) (RB γ)) (k2 (GD (f:=Gv.enc) (z:=2) (fun _=>rfl) (RB γ)) (k2 (GL (f:=Gv.enc) (z:=3) (j:=i_1.toNat) (a:=0) (n:=1) (fun _=>rfl) (RB γ) (by decide) rfl) (k2 (dF γ.2) (k2 (ix (yA8 γ) (RB γ)) (k2 (GD (f:=Gv.enc) (z:=2) (fun _=>rfl) (RB γ)) (Gb (GL (f:=Gv.enc) (z:=3) (j:=i_1.toNat) (a:=0) (n:=1) (fun _=>rfl) (RB γ) (by decide) rfl)))))))) <|
  .sp (x2.Upto>(68719476736:Int))
  (.run [bt,oc] (fun γ=>Gb (dT γ.2)) <|
  .leaf 12 [])
  (.run [bf] (fun γ=>Gb (dF γ.2)) <|
  .sp (i_1>(0:Int))
  (.gd (GS .i64 (i_1 - 1)) <| .gd ((0:Int)≤(i_1 - 1)) <| .bd (l_0[(Int.toNat (i_1 - 1))]?) fun x16=>.run [oc,oa,oc,tc,tc,.op (some true) (.i i_1.toNat),tc,.op (some true) (.v [jI x2.Upto]),tc,tc,tw,.op (some true) (.i (Int.toNat (i_1 - 1))),tc,.op (some true) (.v [jI x16.Upto]),ta,oN (.b true)] (fun γ=>k2 (dT (G0 γ)) (k2 (dT (G0 γ)) (k2 (dT (G0 γ)) (k2 (ix (GyD γ) (Gvp γ)) (k2 (GD (f:=Gv.enc) (z:=2) (fun _=>rfl) (Gvp γ)) (k2 (dT (G0 γ)) (k2 (dT (G0 γ)) (k2 (GL (f:=Gv.enc) (z:=3) (j:=i_1.toNat) (a:=0) (n:=1) (fun _=>rfl) (Gvp γ) (by decide) rfl) (k2 (dT (G0 γ)) (k2 (dT (G0 γ)) (k2 (dT (G0 γ)) (k2 γ.1.1.2 (k2 (dT (G0 γ)) (k2 (ix γ.1.2 γ.2) (k2 (GD (f:=Gv.enc) (z:=2) (fun _=>rfl) γ.2) (k2 (dT (G0 γ)) (k2 (dT (G0 γ)) (k2 (GL (f:=Gv.enc) (z:=3) (j:=(Int.toNat (i_1 - 1))) (a:=0) (n:=1) (fun _=>rfl) γ.2 (by decide) rfl) (k2 (dT (G0 γ)) (Gb (dT (G0 γ)))))))))))))))))))))) <|
  .sp (x2.Upto≤x16.Upto)
  (.run [bt,oc] (fun γ=>Gb (dT γ.2)) <|
  .leaf 15 [])
  (.run [bf,oc] (fun γ=>Gb (dF γ.2)) <|
  .leaf 0 []))
  (.run [oc,oa,oc,oF,oF,oF,oF,oF,oF,oF,oF,oF,oF,oF,oF,oN (.b false),bf,oc] (fun γ=>k2 (dF γ.2) (k2 (dF γ.2) (k2 (dF γ.2) (k2 (dF γ.2) (k2 (dF γ.2) (k2 (dF γ.2) (k2 (dF γ.2) (k2 (dF γ.2) (k2 (dF γ.2) (k2 (dF γ.2) (k2 (dF γ.2) (k2 (dF γ.2) (k2 (dF γ.2) (Gb fF)))))))))))))) <|
  .leaf 0 []))))))))
def Gn7 (l_0:(List Gv)) (i_1:Int):Option Int:=(Gmx l_0 i_1).den
theorem GsN (l_0:(List Gv)) (i_1:Int) (r:Int) (h:Gn7 l_0 i_1=some r):RT 166 [.lst (fl Gv.enc l_0) l_0.length,jI i_1] (jI r) []:=
 HA.of_ht 400 (Gmx l_0 i_1) (fun (r:Int)=>jI r) (fun (r:Int)=>[]) (by kernel_rfl) h
def Yw (z_0:Gg):Nat→HT (Nat⊕(Unit⊕Unit)) True
 | k3=>.run (cs 4 [oa]) (fun _=>Hg) <|
  .sp ((↑k3:Int)<(↑z_0.Hours.length:Int))
  (.run [bt] (fun γ=>Gb (dT γ.2)) <|
  .bd (z_0.Hours[k3]?) fun x14=>.bd (YX x14) fun r16=>.run (cs 3 [oN (.i k3),oN (.v [jI x14.Days,jI x14.From,jI x14.To]),rN [.any] (.bool r16) [],oc]) (fun γ=>k2 (ir γ.1.2) (k2 (GD (f:=Gl.enc) (z:=2) (fun _=>rfl) γ.1.2) (k2 (GX (f:=Gl.enc) (z:=3) (j:=k3) (fun _=>rfl) γ.1.2 rfl) (Gb (GfL x14 r16 γ.2))))) <|
  .sp (r16=true)
  (.run [bf] (fun γ=>Gb ((Gx γ.2):(!r16)=false)) <|
  .gd (GS .i64 ((↑k3:Int)+1)) <| .run [oc,ow,oc] (fun γ=>Gb γ.2) <|
  .leaf (.inl (k3+1)) [0])
  (.run [bt,oc] (fun γ=>Gb ((Gy (Ja γ.2)):(!r16)=true)) <|
  .leaf (.inr (.inl ())) [0]))
  (.run [bf] (fun γ=>Gb (dF γ.2)) <|
  .leaf (.inr (.inr (()))) [0])
def MU (z_0:Gg):Nat→Option (Nat⊕(Unit⊕Unit)):=fun s=>(Yw z_0 s).den
def Gjc (z_0:Gg):Nat→PS:=fun s=>(86,[(1,.ptr 0 0),(3,jI (↑s:Int))],[(bT (Gg.enc z_0) 87)])
def Gje:(Unit⊕Unit)→Hm:=fun q=>match q with | Sum.inl o=>.ret | Sum.inr (o)=>(.exit 0)
def Gjd (z_0:Gg):(Unit⊕Unit)→List (Nat×AV):=fun q=>match q with | Sum.inl o=>[(2,jI 12)] | Sum.inr (o)=>[(1,.ptr 0 0)]
def Gjb (z_0:Gg):(Unit⊕Unit)→List Hb:=fun _=>[(bT (Gg.enc z_0) 87)]
theorem GeD (z_0:Gg) {s:Nat} {r:Unit⊕Unit} (h:lp (MU z_0) s=some r):DT 1 (.loop (GK Tryz.prog 104 [1,1,1,0,1,0,0])) (Gjc z_0 s).st (Gje r) (PS.st (86,Gjd z_0 r,Gjb z_0 r)):=
 GN.lp_ht 1 400 (Gjc z_0) Gje (fun q=>(86,Gjd z_0 q,Gjb z_0 q)) (Yw z_0) (by intro k3; kernel_rfl) h
def V9 (z_0:Gg):Nat→HT (Nat⊕(Int⊕Unit)) True
 | k4=>.run (cs 4 [oa]) (fun _=>Hg) <|
  .sp ((↑k4:Int)<(↑z_0.Steps.length:Int))
  (.run [bt] (fun γ=>Gb (dT γ.2)) <|
  .bd (Gn7 z_0.Steps (↑k4:Int)) fun r29=>.run (cs 3 ((rN [.any,.any] (jI r29) [])::(cs 2 [oa]))) (fun γ=>Gb (GsN z_0.Steps (↑k4:Int) r29 γ.2)) <|
  .sp (r29=(0:Int))
  (.run [bf] (fun γ=>Gb (Gx (Gu γ.2))) <|
  .gd (GS .i64 ((↑k4:Int)+1)) <| .run [oc,ow,oc] (fun γ=>Gb γ.2) <|
  .leaf (.inl (k4+1)) [0])
  (.run (bt::(cs 2 [])) (fun γ=>Gb (Gy (Gz γ.2))) <|
  .leaf (.inr (.inl r29)) [0]))
  (.run [bf] (fun γ=>Gb (dF γ.2)) <|
  .leaf (.inr (.inr (()))) [0])
def Mb (z_0:Gg):Nat→Option (Nat⊕(Int⊕Unit)):=fun s=>(V9 z_0 s).den
def Ghe (z_0:Gg):Nat→PS:=fun s=>(86,[(1,.ptr 0 0),(4,jI (↑s:Int))],[(bT (Gg.enc z_0) 87)])
def Ghg:(Int⊕Unit)→Hm:=fun q=>match q with | Sum.inl o=>.ret | Sum.inr (o)=>(.exit 2)
def Ghf (z_0:Gg):(Int⊕Unit)→List (Nat×AV):=fun q=>match q with | Sum.inl o=>[(2,jI o)] | Sum.inr (o)=>[(1,.ptr 0 0)]
def Ghd (z_0:Gg):(Int⊕Unit)→List Hb:=fun _=>[(bT (Gg.enc z_0) 87)]
theorem GcI (z_0:Gg) {s:Nat} {r:Int⊕Unit} (h:lp (Mb z_0) s=some r):DT 1 (.loop (GK Tryz.prog 104 [1,1,1,1,1,1,0,1,0,0])) (Ghe z_0 s).st (Ghg r) (PS.st (86,Ghf z_0 r,Ghd z_0 r)):=
 GN.lp_ht 1 400 (Ghe z_0) Ghg (fun q=>(86,Ghf z_0 q,Ghd z_0 q)) (V9 z_0) (by intro k4; kernel_rfl) h
def Gkl (z_0:Gg):HT Int True:=.run (cs 2 []) (fun _=>Hg) <|
  .bd (X7 z_0.Name) fun r1=>.run (cs 2 [rN [.any] (.bool r1) [],oc]) (fun γ=>Gb (Yx z_0.Name r1 γ.2)) <|
  .sp (r1=true)
  (.run (bf::(cs 3 [oa])) (fun γ=>Gb ((Gx γ.2):(!r1)=false)) <|
  .sp ((↑z_0.Hours.length:Int)>(32:Int))
  (.run [bt,oc] (fun γ=>Gb (dT γ.2)) <|
  .leaf 3 [])
  (.run [bf,oc] (fun γ=>Gb (dF γ.2)) <|
  .bd (lp (MU z_0) (0:Nat)) fun qq=>.cs qq (fun o5=>.run [.fcut 1 .ret [(2,jI 12)] [(bT (Gg.enc z_0) 87)] [0] [(1,.any),(3,jI (↑(0:Nat):Int))] [bS]] (fun γ=>k2 (rfl:(jI 0:AV)=jI (↑(0:Nat):Int)) (Gb (GeD z_0 (s:=(0:Nat)) (r:=Sum.inl o5) (eS γ.1.2 γ.2)))) <|
  .leaf 12 [])
  (fun o5=>.run ((.fcut 1 (.exit 0) [(1,.ptr 0 0)] [(bT (Gg.enc z_0) 87)] [0] [(1,.any),(3,jI (↑(0:Nat):Int))] [bS])::(cs 3 [oa])) (fun γ=>k2 (rfl:(jI 0:AV)=jI (↑(0:Nat):Int)) (Gb (GeD z_0 (s:=(0:Nat)) (r:=Sum.inr (o5)) (eS γ.1.2 γ.2)))) <|
  .sp ((↑z_0.Steps.length:Int)>(16:Int))
  (.run [bt,oc] (fun γ=>Gb (dT γ.2)) <|
  .leaf 3 [])
  (.run (bf::(cs 3 [oa])) (fun γ=>Gb (dF γ.2)) <|
  .sp ((↑z_0.Steps.length:Int)=(0:Int))
  (.run [bt,oc] (fun γ=>Gb (Gu γ.2)) <|
  .leaf 1 [])
  (.run [bf,oc] (fun γ=>Gb (Gz γ.2)) <|
  .bd (lp (Mb z_0) (0:Nat)) fun qq=>.cs qq (fun o22=>.run [.fcut 1 .ret [(2,jI o22)] [(bT (Gg.enc z_0) 87)] [0] [(1,.any),(4,jI (↑(0:Nat):Int))] [bS]] (fun γ=>k2 (rfl:(jI 0:AV)=jI (↑(0:Nat):Int)) (Gb (GcI z_0 (s:=(0:Nat)) (r:=Sum.inl o22) (eS γ.1.2 γ.2)))) <|
  .leaf o22 [])
  (fun o22=>.run [.fcut 1 (.exit 2) [(1,.ptr 0 0)] [(bT (Gg.enc z_0) 87)] [0] [(1,.any),(4,jI (↑(0:Nat):Int))] [bS]] (fun γ=>k2 (rfl:(jI 0:AV)=jI (↑(0:Nat):Int)) (Gb (GcI z_0 (s:=(0:Nat)) (r:=Sum.inr (o22)) (eS γ.1.2 γ.2)))) <|
  .sp (z_0.Grace<(0:Int))
  (.run (cs 2 (oa::oc::tc::(cs 23 [bt,oc]))) (fun γ=>k2 (dT γ.2) (Gb tT)) <|
  .leaf 12 [])
  (.sp (z_0.Grace>(68719476736:Int))
  (.run (cs 2 (oa::oc::oF::oc::oa::(cs 2 (tc::(cs 18 [bt,oc]))))) (fun γ=>k2 (dF γ.1.2) (k2 (dT γ.2) (Gb tT))) <|
  .leaf 12 [])
  (.sp (z_0.Free<(0:Int))
  (.run (cs 2 (oa::oc::oF::oc::oa::(cs 2 (oF::oc::oa::(cs 2 (tc::(cs 13 [bt,oc]))))))) (fun γ=>k2 (dF γ.1.1.2) (k2 (dF γ.1.2) (k2 (dT γ.2) (Gb tT)))) <|
  .leaf 12 [])
  (.sp (z_0.Free>(68719476736:Int))
  (.run (cs 2 (oa::oc::oF::oc::oa::(cs 2 (oF::oc::oa::(cs 2 (oF::oc::oa::(cs 2 (tc::(cs 8 [bt,oc]))))))))) (fun γ=>k2 (dF (G0 γ)) (k2 (dF γ.1.1.2) (k2 (dF γ.1.2) (k2 (dT γ.2) (Gb tT))))) <|
  .leaf 12 [])
  (.sp (z_0.MaxStay<(0:Int))
  (.run (cs 2 (oa::oc::oF::oc::oa::(cs 2 (oF::oc::oa::(cs 2 (oF::oc::oa::(cs 2 (oF::oc::oa::(cs 2 (tc::(cs 3 [bt,oc]))))))))))) (fun γ=>k2 (dF (HW γ)) (k2 (dF (G0 γ)) (k2 (dF γ.1.1.2) (k2 (dF γ.1.2) (k2 (dT γ.2) (Gb tT)))))) <|
  .leaf 12 [])
  (.run (cs 2 (oa::oc::oF::oc::oa::(cs 2 (oF::oc::oa::(cs 2 (oF::oc::oa::(cs 2 (oF::oc::oa::(cs 2 [oF,oc,oa,oc]))))))))) (fun γ=>k2 (dF (HW γ)) (k2 (dF (G0 γ)) (k2 (dF γ.1.1.2) (k2 (dF γ.1.2) (Gb (dF γ.2)))))) <|
  .sp (z_0.MaxStay>(68719476736:Int))
  (.run [bt,oc] (fun γ=>Gb (dT γ.2)) <|
  .leaf 12 [])
  (.run [bf] (fun γ=>Gb (dF γ.2)) <|
  .sp (z_0.DayMax<(0:Int))
  (.run (cs 2 (oa::oc::tc::(cs 3 [bt,oc]))) (fun γ=>k2 (dT γ.2) (Gb tT)) <|
  .leaf 13 [])
  (.run (cs 2 [oa,oc,oF,oc,oa,oc]) (fun γ=>Gb (dF γ.2)) <|
  .sp (z_0.DayMax>(1125899906842624:Int))
  (.run [bt,oc] (fun γ=>Gb (dT γ.2)) <|
  .leaf 13 [])
  (.run [bf,oc] (fun γ=>Gb (dF γ.2)) <|
  .leaf 0 []))))))))))))))
  (.run [bt,oc] (fun γ=>Gb ((Gy (Ja γ.2)):(!r1)=true)) <|
  .leaf 6 [])
def Glo (z_0:Gg):Option Int:=(Gkl z_0).den
theorem GrD (z_0:Gg) (r:Int) (h:Glo z_0=some r):RT 104 [.agg (Gg.enc z_0)] (jI r) []:=
 HA.of_ht 400 (Gkl z_0) (fun (r:Int)=>jI r) (fun (r:Int)=>[]) (by kernel_rfl) h
def QP (l_0:(List Gg)) (k3:Nat):Nat→HT (Nat⊕(Unit⊕Unit)) True
 | k5=>.run (cs 2 [oa]) (fun _=>Hg) <|
  .sp ((↑k5:Int)<(↑k3:Int))
  (.run [bt] (fun γ=>Gb (dT γ.2)) <|
  .bd (l_0[k5]?) fun x40=>.bd (l_0[k3]?) fun x42=>.run (cs 2 ((oN (.i k5))::oc::(oN (.v [.str x40.Name]))::(cs 2 [oN (.i k3),oc,oN (.v [.str x42.Name]),oa]))) (fun γ=>k2 (ir γ.1.2) (k2 (GD (f:=Gg.enc) (z:=6) (fun _=>rfl) γ.1.2) (k2 (GL (f:=Gg.enc) (z:=7) (j:=k5) (a:=0) (n:=1) (fun _=>rfl) γ.1.2 (by decide) rfl) (k2 (ir γ.2) (k2 (GD (f:=Gg.enc) (z:=6) (fun _=>rfl) γ.2) (Gb (GL (f:=Gg.enc) (z:=7) (j:=k3) (a:=0) (n:=1) (fun _=>rfl) γ.2 (by decide) rfl))))))) <|
  .sp (x40.Name=x42.Name)
  (.run [bt,oc] (fun γ=>Gb (Gu γ.2)) <|
  .leaf (.inr (.inl ())) [])
  (.run [bf] (fun γ=>Gb (Gz γ.2)) <|
  .gd (GS .i64 ((↑k5:Int)+1)) <| .run [oc,ow,oc] (fun γ=>Gb γ.2) <|
  .leaf (.inl (k5+1)) []))
  (.run [bf] (fun γ=>Gb (dF γ.2)) <|
  .leaf (.inr (.inr (()))) [])
def J5 (l_0:(List Gg)) (k3:Nat):Nat→Option (Nat⊕(Unit⊕Unit)):=fun s=>(QP l_0 k3 s).den
def GcG (l_0:(List Gg)) (k3:Nat):Nat→PS:=fun s=>(39,[(0,.lst (fl Gg.enc l_0) l_0.length),(3,jI (↑k3:Int)),(5,jI (↑s:Int))],[])
def GcH:(Unit⊕Unit)→Hm:=fun q=>match q with | Sum.inl o=>.ret | Sum.inr (o)=>(.exit 2)
def V8 (l_0:(List Gg)) (k3:Nat):(Unit⊕Unit)→List (Nat×AV):=fun q=>match q with | Sum.inl o=>[(2,jI 9)] | Sum.inr (o)=>[(0,.lst (fl Gg.enc l_0) l_0.length),(3,jI (↑k3:Int))]
def GcF (l_0:(List Gg)) (k3:Nat):(Unit⊕Unit)→List Hb:=fun _=>[]
theorem YW (l_0:(List Gg)) (k3:Nat) {s:Nat} {r:Unit⊕Unit} (h:lp (J5 l_0 k3) s=some r):DT 0 (.loop (GK Tryz.prog 37 [1,1,0,1,0,0,1,0,0,1,1,1,0,0])) (GcG l_0 k3 s).st (GcH r) (PS.st (39,V8 l_0 k3 r,GcF l_0 k3 r)):=
 GN.lp_ht 0 400 (GcG l_0 k3) GcH (fun q=>(39,V8 l_0 k3 q,GcF l_0 k3 q)) (QP l_0 k3) (by intro k5; kernel_rfl) h
def RO (l_0:(List Gg)):Nat→HT (Nat⊕(Int⊕Unit)) True
 | k3=>.run (cs 3 [oa]) (fun _=>Hg) <|
  .sp ((↑k3:Int)<(↑l_0.length:Int))
  (.run [bt] (fun γ=>Gb (dT γ.2)) <|
  .bd (l_0[k3]?) fun x26=>.bd (Glo x26) fun r28=>.run (cs 2 ((oN (.i k3))::(oN (.v [.str x26.Name,.lst (fl Gl.enc x26.Hours) x26.Hours.length,.lst (fl Gv.enc x26.Steps) x26.Steps.length,jI x26.Grace,jI x26.Free,jI x26.DayMax,jI x26.MaxStay]))::(rN [.any] (jI r28) [])::(cs 2 [oa]))) (fun γ=>k2 (ir γ.1.2) (k2 (GD (f:=Gg.enc) (z:=6) (fun _=>rfl) γ.1.2) (k2 (GX (f:=Gg.enc) (z:=7) (j:=k3) (fun _=>rfl) γ.1.2 rfl) (Gb (GrD x26 r28 γ.2))))) <|
  .sp (r28=(0:Int))
  (.run [bf,oc] (fun γ=>Gb (Gx (Gu γ.2))) <|
  .bd (lp (J5 l_0 k3) (0:Nat)) fun qq=>.cs qq (fun o31=>.run [.fcut 0 .ret [(2,jI 9)] [] [] [(0,.any),(3,.any),(5,jI (↑(0:Nat):Int))] []] (fun γ=>k2 (rfl:(jI 0:AV)=jI (↑(0:Nat):Int)) (Gb (YW l_0 k3 (s:=(0:Nat)) (r:=Sum.inl o31) (eS γ.1.2 γ.2)))) <|
  .leaf (.inr (.inl 9)) [])
  (fun o31=>.run [.fcut 0 (.exit 2) (V8 l_0 k3 (Sum.inr (o31))) [] [] [(0,.any),(3,.any),(5,jI (↑(0:Nat):Int))] []] (fun γ=>k2 (rfl:(jI 0:AV)=jI (↑(0:Nat):Int)) (Gb (YW l_0 k3 (s:=(0:Nat)) (r:=Sum.inr (o31)) (eS γ.1.2 γ.2)))) <|
  .gd (GS .i64 ((↑k3:Int)+1)) <| .run [oc,ow,oc] (fun γ=>Gb γ.2) <|
  .leaf (.inl (k3+1)) []))
  (.run (bt::(cs 2 [])) (fun γ=>Gb (Gy (Gz γ.2))) <|
  .leaf (.inr (.inl r28)) []))
  (.run [bf] (fun γ=>Gb (dF γ.2)) <|
  .leaf (.inr (.inr (()))) [])
def Ku (l_0:(List Gg)):Nat→Option (Nat⊕(Int⊕Unit)):=fun s=>(RO l_0 s).den
def GeA (l_0:(List Gg)):Nat→PS:=fun s=>(39,[(0,.lst (fl Gg.enc l_0) l_0.length),(3,jI (↑s:Int))],[])
def GeC:(Int⊕Unit)→Hm:=fun q=>match q with | Sum.inl o=>.ret | Sum.inr (o)=>(.exit 0)
def GeB (l_0:(List Gg)):(Int⊕Unit)→List (Nat×AV):=fun q=>match q with | Sum.inl o=>[(2,jI o)] | Sum.inr (o)=>[]
def Gez (l_0:(List Gg)):(Int⊕Unit)→List Hb:=fun _=>[]
theorem Z2 (l_0:(List Gg)) {s:Nat} {r:Int⊕Unit} (h:lp (Ku l_0) s=some r):DT 0 (.loop (GK Tryz.prog 37 [1,1,0,1,0,0])) (GeA l_0 s).st (GeC r) (PS.st (39,GeB l_0 r,Gez l_0 r)):=
 GN.lp_ht 0 400 (GeA l_0) GeC (fun q=>(39,GeB l_0 q,Gez l_0 q)) (RO l_0) (by intro k3; kernel_rfl) h
def GdL (l_0:(List Gg)):HT Int True:=.run (cs 3 [oa]) (fun _=>Hg) <|
  .sp ((↑l_0.length:Int)>(1024:Int))
  (.run [bt,oc] (fun γ=>Gb (dT γ.2)) <|
  .leaf 3 [])
  (.run [bf,oc] (fun γ=>Gb (dF γ.2)) <|
  .bd (lp (Ku l_0) (0:Nat)) fun qq=>.cs qq (fun o2=>.run [.fcut 0 .ret [(2,jI o2)] [] [] [(0,.any),(3,jI (↑(0:Nat):Int))] []] (fun γ=>k2 (rfl:(jI 0:AV)=jI (↑(0:Nat):Int)) (Gb (Z2 l_0 (s:=(0:Nat)) (r:=Sum.inl o2) (eS γ.1.2 γ.2)))) <|
  .leaf o2 [])
  (fun o2=>.run [.fcut 0 (.exit 0) [] [] [] [(0,.any),(3,jI (↑(0:Nat):Int))] [],oc] (fun γ=>k2 (rfl:(jI 0:AV)=jI (↑(0:Nat):Int)) (Gb (Z2 l_0 (s:=(0:Nat)) (r:=Sum.inr (o2)) (eS γ.1.2 γ.2)))) <|
  .leaf 0 []))
def Rq (l_0:(List Gg)):Option Int:=(GdL l_0).den
theorem UX (l_0:(List Gg)) (r:Int) (h:Rq l_0=some r):RT 37 [.lst (fl Gg.enc l_0) l_0.length] (jI r) []:=
 HA.of_ht 400 (GdL l_0) (fun (r:Int)=>jI r) (fun (r:Int)=>[]) (by kernel_rfl) h
end
set_option maxHeartbeats 4000000
noncomputable section
theorem Gb7 (n a b:Int):Kf n a b=some (decide (a≤n∧n≤b)):=by
 simp only [Kf,GdX,d1,d2,d3,d6]; grind
theorem GpY (w:Gl):GfF w=some (Xv w):=by
 simp only [GfF,GfG,d1,d2,d3,d5,d6,Gb7,Hd,Xv]; grind
theorem Gdc (w:Gl):YX w=some (Xv w):=by
 simp only [YX,GdM,d1,d2,d3,d5,d6,Xv]; grind
theorem ZC (i:Gp):Qy i=some (Ub i):=by
 simp only [Qy,Ghm,d1,d2,d3,d6,Ub]; grind
def GnT (l:List Gv) (k:Nat) (x:Gv):Option Int:=
 if x.Unit<1∨x.Unit>68719476736∨x.Cents<0∨x.Cents>2147483648 then some 1
 else if k+1=l.length then (if x.Upto=0 then none else some 12)
 else if x.Upto<1∨x.Upto>68719476736 then some 12 else if 0<k∧x.Upto≤((l[k - 1]?).map (·.Upto)).getD 0 then some 15 else none
def Gu8 (l:List Gv):Int:=if l.length>16 then 3 else if l.length=0 then 1 else (GJ (GnT l) 0 l).getD 0
theorem GpX (l:List Gv):GfD l=some (Gu8 l):=by
 simp only [GfD,GfE,dA,Gu8]
 by_cases h1:l.length>16
 ·rw [if_pos (by omega),if_pos h1]
 rw [if_neg (by omega),if_neg h1]
 by_cases h2:l.length=0
 ·rw [if_pos (by omega),if_pos h2]
 rw [if_neg (by omega),if_neg h2]
 have hs:Sm l:=by show _≤_; omega
 have key:lp (KQ l) 0=some (HQ (GJ (GnT l) 0 l)):=by
  refine GP (fun k x hx=>?_) ?_
  ·obtain ⟨hk,i1,i2,hkl,h3,h4⟩:=rd hs hx
   have i3:GS .i64 ((l.length:Int) - 1):=Mh (by omega) (by omega)
   simp only [KQ,U5,dA,hx,Hd,Gb7,h3,h4,i1,i2,i3,if_true,hkl,GnT,Option.map_some,Option.getD_some]
   clear i1 i2 i3 hs
   by_cases hl:k+1=l.length
   ·simp only [if_pos hl,if_pos (show (k:Int)=(l.length:Int) - 1 by omega)]; grind [K0]
   ·simp only [if_neg hl,if_neg (show ¬ (k:Int)=(l.length:Int) - 1 by omega)]; grind [K0]
  ·simp only [KQ,U5,d3,d6,d1]
   rw [if_neg (by omega)]
 rw [key]
 cases GJ (GnT l) 0 l <;> rfl
theorem GpS (l:List Gv) (hs:l.length≤16) (k:Nat) (x:Gv) (hx:l[k]?=some x):Gn7 l k=some ((GnT l k x).getD 0):=by
 have hk:=Hl hx
 have h3:l[k - 1]?=some l[k - 1]:=List.getElem?_eq_getElem (by omega)
 have h4:((k:Int) - 1).toNat=k - 1:=by omega
 have h5:((k:Int)).toNat=k:=by omega
 have i2:GS .i64 ((k:Int) - 1):=Mh (by omega) (by omega)
 have i3:GS .i64 ((l.length:Int) - 1):=Mh (by omega) (by omega)
 simp only [Gn7,Gmx,dA,h5,hx,Hd,h3,h4,i2,i3,if_true,GnT,Option.map_some,Option.getD_some]
 clear i2 i3
 by_cases hl:k+1=l.length
 ·simp only [if_pos hl,if_pos (show (k:Int)=(l.length:Int) - 1 by omega)]; grind
 ·simp only [if_neg hl,if_neg (show ¬ (k:Int)=(l.length:Int) - 1 by omega)]; grind
theorem GvV {l:List Gv} {k:Nat} {x:Gv}:GnT l k x≠some 0:=by unfold GnT; grind
def Gr9 (z:Gg):Int:=
 if HR z.Name=false then 6 else if z.Hours.length>32 then 3 else if z.Hours.any (fun w=>!Xv w) then 12 else if Gu8 z.Steps≠0 then Gu8 z.Steps
 else if z.Grace<0∨z.Grace>68719476736∨z.Free<0∨z.Free>68719476736∨z.MaxStay<0∨z.MaxStay>68719476736 then 12
 else if z.DayMax<0∨1125899906842624<z.DayMax then 13 else 0
theorem GpW (z:Gg):GfB z=some (Gr9 z):=by
 simp only [GfB,GfC,dA,JX,Hd,Gr9]
 rcases Hk (HR z.Name) with hn | hn <;> simp only [hn,if_true,if_false,Bool.true_eq_false,Bool.false_eq_true]
 by_cases h1:z.Hours.length>32
 ·rw [if_pos (by omega),if_pos h1]
 rw [if_neg (by omega),if_neg h1]
 have hs:Sm z.Hours:=by show _≤_; omega
 have key:lp (KP z) 0=some (HQ (if z.Hours.any (fun w=>!Xv w) then some () else none)):=by
  rw [← Hq z.Hours 0]
  refine GP (fun k x hx=>?_) ?_
  ·obtain ⟨hk,i1,i2,hkl,h3,h4⟩:=rd hs hx
   simp only [KP,U4,dA,hx,Hd,GpY,i1,if_true,hkl]
   clear i1 i2 hs
   cases Xv x <;> rfl
  ·simp only [KP,U4,d3,d6,d1]
   rw [if_neg (by omega)]
 rw [key]
 clear hs key
 rcases Hk (z.Hours.any fun w=>!Xv w) with hh | hh <;> simp only [hh,HQ,Hd,eN,eM,GpX,Gb7,if_true,if_false,Bool.false_eq_true,decide_eq_true_eq]
 generalize Gu8 z.Steps=q
 by_cases h0:q=0
 rotate_left
 ·simp only [if_neg h0,if_pos h0]
 simp only [if_pos h0,if_neg (show ¬ q≠0 from fun h=>h h0)]
 by_cases c1:z.Grace<0∨z.Grace>68719476736
 ·rw [if_neg (by omega),if_pos (by omega)]
 rw [if_pos (by omega)]
 by_cases c2:z.Free<0∨z.Free>68719476736
 ·rw [if_neg (by omega),if_pos (by omega)]
 rw [if_pos (by omega)]
 by_cases c3:z.MaxStay<0∨z.MaxStay>68719476736
 ·rw [if_neg (by omega),if_pos (by omega)]
 rw [if_pos (show 0≤z.MaxStay∧z.MaxStay≤68719476736 by omega),if_neg (show ¬ (z.Grace<0∨z.Grace>68719476736∨z.Free<0∨z.Free>68719476736∨z.MaxStay<0∨z.MaxStay>68719476736) by omega)]
 by_cases c4:z.DayMax<0∨1125899906842624<z.DayMax
 ·rw [if_neg (by omega),if_pos (by omega)]
 rw [if_pos (by omega),if_neg (by omega)]
theorem Gpk (z:Gg):Glo z=some (Gr9 z):=by
 simp only [Glo,Gkl,dA,U0,Hd,Gr9]
 rcases Hk (HR z.Name) with hn | hn <;> simp only [hn,if_true,if_false,Bool.true_eq_false,Bool.false_eq_true]
 by_cases h1:z.Hours.length>32
 ·rw [if_pos (by omega),if_pos h1]
 rw [if_neg (by omega),if_neg h1]
 have hs:Sm z.Hours:=by show _≤_; omega
 have key:lp (MU z) 0=some (HQ (if z.Hours.any (fun w=>!Xv w) then some () else none)):=by
  rw [← Hq z.Hours 0]
  refine GP (fun k x hx=>?_) ?_
  ·obtain ⟨hk,i1,i2,hkl,h3,h4⟩:=rd hs hx
   simp only [MU,Yw,dA,hx,Hd,Gdc,i1,if_true,hkl]
   clear i1 i2 hs
   cases Xv x <;> rfl
  ·simp only [MU,Yw,d3,d6,d1]
   rw [if_neg (by omega)]
 rw [key]
 clear hs key
 rcases Hk (z.Hours.any fun w=>!Xv w) with hh | hh <;> simp only [hh,HQ,Hd,eN,eM,if_true,if_false,Bool.false_eq_true]
 unfold Gu8
 by_cases h2:z.Steps.length>16
 ·rw [if_pos (by omega)]; simp only [if_pos h2]; rfl
 rw [if_neg (by omega)]; simp only [if_neg h2]
 by_cases h3:z.Steps.length=0
 ·rw [if_pos (by omega)]; simp only [if_pos h3]; rfl
 rw [if_neg (by omega)]; simp only [if_neg h3]
 have hs:Sm z.Steps:=by show _≤_; omega
 have k2:lp (Mb z) 0=some (HQ (GJ (GnT z.Steps) 0 z.Steps)):=by
  refine GP (fun k x hx=>?_) ?_
  ·obtain ⟨hk,i1,i2,hkl,h3,h4⟩:=rd hs hx
   simp only [Mb,V9,dA,Hd,GpS z.Steps (by omega) k x hx,i1,if_true,hkl]
   clear i1 i2 hs
   have h0:=@GvV z.Steps k x
   generalize GnT z.Steps k x=q at h0 ⊢
   cases q with
   | none=>rfl
   | some r=>rw [if_neg (fun h=>h0 (by simp only [Option.getD_some] at h; rw [h]))]; rfl
  ·simp only [Mb,V9,d3,d6,d1]
   rw [if_neg (by omega)]
 rw [k2]
 clear hs k2
 have h0:GJ (GnT z.Steps) 0 z.Steps≠some 0:=fun h=>by obtain ⟨i,x,_,h2⟩:=RH h; exact GvV h2
 generalize GJ (GnT z.Steps) 0 z.Steps=q at h0
 cases q with
 | some r=>
  have:r≠0:=fun h=>h0 (by rw [h])
  simp only [HQ,Hd,eN,Option.getD_some,if_pos this]
 | none=>
  simp only [HQ,Hd,eM,Option.getD_none,if_neg (show ¬ ((0:Int)≠0) from fun h=>h rfl)]
  clear h0 hh hn h1 h2 h3
  by_cases c1:z.Grace<0∨z.Grace>68719476736
  ·grind
  rw [if_neg (by omega),if_neg (by omega)]
  by_cases c2:z.Free<0∨z.Free>68719476736
  ·grind
  rw [if_neg (by omega),if_neg (by omega)]
  by_cases c3:z.MaxStay<0∨z.MaxStay>68719476736
  ·grind
  rw [if_neg (show ¬ z.MaxStay<0 by omega),if_neg (show ¬ z.MaxStay>68719476736 by omega),if_neg (show ¬ (z.Grace<0∨z.Grace>68719476736∨z.Free<0∨z.Free>68719476736∨z.MaxStay<0∨z.MaxStay>68719476736) by omega)]
  grind
def Gcd (name:List UInt8) (y:Gg):Bool:=decide (y.Name=name)
def Gpz (l:List Gg) (k:Nat) (x:Gg):Option Int:=if Gr9 x≠0 then some (Gr9 x) else if (l.take k).any (Gcd x.Name) then some 9 else none
def Gpy (l:List Gg):Int:=if l.length>1024 then 3 else (GJ (Gpz l) 0 l).getD 0
def Gvs (z:Gg):Prop:=z.Hours.length≤1000∧z.Steps.length≤1000
theorem GpA {z:Gg} (h:Gr9 z=0):Gvs z:=by
 unfold Gr9 Gu8 at h
 unfold Gvs
 grind
theorem Gl6 (l:List Gg) (hl:Sm l) (hz:∀ z ∈ l,Gvs z) (name:List UInt8):∃ z,Ge6 l name=some (z,l.any (Gcd name)):=by
 simp only [Ge6,Gh6,dA]
 have key:lp (Mp l name) 0=some (HQ (GJ (fun _ x=>if Gcd name x then some (x.Name,x.Hours,x.Steps,x.Grace,x.Free,x.DayMax,x.MaxStay) else none) 0 l)):=by
  refine GP (fun k x hx=>?_) ?_
  ·obtain ⟨hk,i1,i2,hkl,h3,h4⟩:=rd hl hx
   have hz:=hz x (List.mem_of_getElem? hx)
   have a1:x.Hours.length≤4294967296:=by unfold Gvs at hz; omega
   have a2:x.Steps.length≤4294967296:=by unfold Gvs at hz; omega
   simp only [Mp,Xy,dA,hx,Hd,i1,if_true,hkl,a1,a2,Gcd,decide_eq_true_eq]
   clear i1 i2 hl a1 a2 hz
   by_cases e:x.Name=name
   ·simp only [if_pos e,K0]
    cases x.Hours <;> cases x.Steps <;> simp
   ·simp only [if_neg e,K0]
  ·simp only [Mp,Xy,d3,d6,d1]
   rw [if_neg (by omega)]
 rw [key]
 have gen:∀ (m:List Gg) (k:Nat),(GJ (fun _ x=>if Gcd name x then some (x.Name,x.Hours,x.Steps,x.Grace,x.Free,x.DayMax,x.MaxStay) else none) k m).isSome=m.any (Gcd name):=by
  intro m
  induction m with
  | nil=>intro k; rfl
  | cons x m ih=>intro k; unfold GJ; cases h:Gcd name x <;> simp [h,ih]
 have:=gen l 0
 cases he:GJ (fun _ x=>if Gcd name x then some (x.Name,x.Hours,x.Steps,x.Grace,x.Free,x.DayMax,x.MaxStay) else none) 0 l with
 | some r=>rw [he] at this; exact ⟨_,by rw [← this]; rfl⟩
 | none=>rw [he] at this; exact ⟨_,by rw [← this]; rfl⟩
theorem GpR (l:List Gg) (hl:Sm l) (name:List UInt8):∃ z,Gn6 l name=some (z,l.any (Gcd name)):=by
 simp only [Gn6,Gmw,dA]
 have key:lp (Qr l name) 0=some (HQ (GJ (fun _ x=>if Gcd name x then some (x.Name,x.Hours,x.Steps,x.Grace,x.Free,x.DayMax,x.MaxStay) else none) 0 l)):=by
  refine GP (fun k x hx=>?_) ?_
  ·obtain ⟨hk,i1,i2,hkl,h3,h4⟩:=rd hl hx
   simp only [Qr,Gaq,dA,hx,Hd,i1,if_true,hkl,Gcd,decide_eq_true_eq]
   by_cases e:x.Name=name <;> simp only [e,if_true,if_false,K0]
  ·simp only [Qr,Gaq,d3,d6,d1]
   rw [if_neg (by omega)]
 rw [key]
 have gen:∀ (m:List Gg) (k:Nat),(GJ (fun _ x=>if Gcd name x then some (x.Name,x.Hours,x.Steps,x.Grace,x.Free,x.DayMax,x.MaxStay) else none) k m).isSome=m.any (Gcd name):=by
  intro m
  induction m with
  | nil=>intro k; rfl
  | cons x m ih=>intro k; unfold GJ; cases h:Gcd name x <;> simp [h,ih]
 have:=gen l 0
 cases he:GJ (fun _ x=>if Gcd name x then some (x.Name,x.Hours,x.Steps,x.Grace,x.Free,x.DayMax,x.MaxStay) else none) 0 l with
 | some r=>rw [he] at this; exact ⟨_,by rw [← this]; rfl⟩
 | none=>rw [he] at this; exact ⟨_,by rw [← this]; rfl⟩
theorem GqI {l:List Gg} {k:Nat} {z:Gg} (h:Gpz l k z=none):Gr9 z=0:=by unfold Gpz at h; grind
theorem Gm2 (l:List Gg):YL l=some (Gpy l):=by
 simp only [YL,ZK,dA,Gpy]
 by_cases hl:l.length>1024
 ·rw [if_pos (by omega),if_pos hl]
 rw [if_neg (by omega),if_neg hl]
 have hs:Sm l:=by show _≤_; omega
 have key:lp (JP l) 0=some (HQ (GJ (Gpz l) 0 l)):=by
  refine GoU (fun k x hx hb=>?_) ?_
  ·obtain ⟨hk,i1,i2,hkl,h3,h4⟩:=rd hs hx
   have hkl2:k≤l.length:=by omega
   have hst:Sm (l.take k):=by show _≤_; rw [List.length_take]; omega
   obtain ⟨z,hz⟩:=Gl6 (l.take k) hst (fun z hz=>by
    obtain ⟨i,hi⟩:=List.mem_iff_getElem?.1 hz
    have hi2:=Hl hi
    rw [List.length_take] at hi2
    rw [List.getElem?_take,if_pos (by omega)] at hi
    exact GpA (GqI (hb i z (by omega) hi))) x.Name
   simp only [JP,Qm,dA,hx,hz,Hd,GpW,i1,if_true,hkl,hkl2,Gpz]
   clear i1 i2 hs hst hz hb
   rcases Hk ((l.take k).any (Gcd x.Name)) with hh | hh <;> simp only [hh,if_true,if_false,Bool.false_eq_true] <;> grind [K0]
  ·simp only [JP,Qm,d3,d6,d1]
   rw [if_neg (by omega)]
 rw [key]
 cases GJ (Gpz l) 0 l <;> rfl
theorem Gvr {l:List Gg} (h:Gpy l=0):l.length≤1024∧∀ z ∈ l,Gvs z:=by
 unfold Gpy at h
 split at h
 ·cases h
 ·refine ⟨by omega,fun z hz=>?_⟩
  obtain ⟨i,hi⟩:=List.mem_iff_getElem?.1 hz
  cases he:GJ (Gpz l) 0 l with
  | none=>have:=MI he i z hi; rw [Nat.zero_add] at this; exact GpA (GqI this)
  | some r=>
   rw [he] at h
   obtain ⟨j,x,_,h2⟩:=RH he
   simp only [Option.getD_some] at h
   subst h
   unfold Gpz at h2
   grind
theorem GlS (l:List Gg):Rq l=some (Gpy l):=by
 simp only [Rq,GdL,dA,Gpy]
 by_cases hl:l.length>1024
 ·rw [if_pos (by omega),if_pos hl]
 rw [if_neg (by omega),if_neg hl]
 have hs:Sm l:=by show _≤_; omega
 have key:lp (Ku l) 0=some (HQ (GJ (Gpz l) 0 l)):=by
  refine GP (fun k x hx=>?_) ?_
  ·obtain ⟨hk,i1,i2,hkl,h1,h2⟩:=rd hs hx
   have hq:lp (J5 l k) 0=some (HQ (if (l.take k).any (Gcd x.Name) then some () else none)):=by
    rw [← Hq (l.take k) 0]
    refine JW (l:=l) (n:=k) (by omega) (fun j y hj hy=>?_) ?_
    ·obtain ⟨_,i3,_,_,_,_⟩:=rd hs hy
     have hjk:(j:Int)<(k:Int):=by omega
     simp only [J5,QP,dA,eN,eM,hx,hy,Hd,i3,if_true,hjk,Gcd]
     clear i1 i2 i3 hs
     grind [K0]
    ·simp only [J5,QP,d3,d6,d1]
     rw [if_neg (by omega)]
   simp only [Ku,RO,dA,hx,hq,Hd,Gpk,i1,if_true,hkl,Gpz]
   clear i1 i2 hs hq
   rcases Hk ((l.take k).any (Gcd x.Name)) with hh | hh <;> simp only [hh,HQ,eN,eM,if_true,if_false,Bool.false_eq_true] <;> grind [K0]
  ·simp only [Ku,RO,d3,d6,d1]
   rw [if_neg (by omega)]
 rw [key]
 cases GJ (Gpz l) 0 l <;> rfl
end
end Go.Proofs.YtdifanfcaemokaaGreatDoor.Av
