import Derived.Test.YtnlaiahcemckkaaGreatDoorHPEg
open Prod (fst)
open Int (tdiv tmod)
set_option maxHeartbeats 4000000
set_option maxRecDepth 100000
set_option linter.unusedVariables false
set_option linter.unusedSimpArgs false
namespace Go.Proofs.YtnlaiahcemckkaaGreatDoor.Av
noncomputable section
open Go Go.Proofs
def Gct (t_0:Int):HT Bool True:=.run [oc] (fun _=>He) <|
  .sp (t_0≥(0:Int))
  (.run (oc::oa::oc::tc::oa::(cs 2 [])) (fun γ=>Gb (dT γ.2)) <|
  .leaf (decide (t_0<(68719476736:Int))) [])
  (.run (oc::oa::oc::oF::(cs 3 [])) (fun γ=>Gb (dF γ.2)) <|
  .leaf false [])
def X2 (t_0:Int):Option Bool:=(Gct t_0).den
theorem KE (t_0:Int) (r:Bool) (h:X2 t_0=some r):G5 Tryz.prog GT 238 [jI t_0] (.bool r) []:=
 G5.of_ht 400 (Gct t_0) (fun (r:Bool)=>.bool r) (fun (r:Bool)=>[]) (by kernel_rfl) h
def Mb (l_0:(List GD)):Nat→HT (Nat⊕(Int⊕Unit)) True
 | k7=>.run [oa] (fun _=>He) <|
  .sp ((↑k7:Int)<(↑l_0.length:Int))
  (.run [bt] (fun γ=>Gb (dT γ.2)) <|
  .bd (l_0[k7]?) fun x24=>.run (oc::(.op none (.i k7))::(.op none (.v [jI x24.From,jI x24.Delta]))::(cs 3 [])) (fun γ=>k2 (ir γ.2) (k2 (GC (f:=GD.enc) (z:=1) (fun _=>rfl) γ.2) (Gb (GU (f:=GD.enc) (z:=2) (j:=k7) (fun _=>rfl) γ.2 rfl)))) <|
  .sp ((↑k7:Int)>(0:Int))
  (.gd (GP .i64 ((↑k7:Int) - 1)) <| .gd ((0:Int)≤((↑k7:Int) - 1)) <| .bd (l_0[(Int.toNat ((↑k7:Int) - 1))]?) fun x29=>.run [oc,oa,oc,tc,tc,tc,tc,tw,.op (some true) (.i (Int.toNat ((↑k7:Int) - 1))),tc,.op (some true) (.v [jI x29.From]),ta,.op none (.b true),oc] (fun γ=>k2 (dT γ.1.1.1.2) (k2 (dT γ.1.1.1.2) (k2 (dT γ.1.1.1.2) (k2 (dT γ.1.1.1.2) (k2 (dT γ.1.1.1.2) (k2 γ.1.1.2 (k2 (dT γ.1.1.1.2) (k2 (ix γ.1.2 γ.2) (k2 (GC (f:=GD.enc) (z:=1) (fun _=>rfl) γ.2) (k2 (dT γ.1.1.1.2) (k2 (dT γ.1.1.1.2) (k2 (GL (f:=GD.enc) (z:=2) (j:=(Int.toNat ((↑k7:Int) - 1))) (a:=0) (n:=1) (fun _=>rfl) γ.2 (by decide) rfl) (k2 (dT γ.1.1.1.2) (Gb (dT γ.1.1.1.2))))))))))))))) <|
  .sp (x24.From≤x29.From)
  (.run [bt,oc] (fun γ=>Gb (dT γ.2)) <|
  .leaf (Sum.inr (Sum.inl 15)) [])
  (.run [bf] (fun γ=>Gb (dF γ.2)) <|
  .bd (X2 x24.From) fun r32=>.sp (r32=true)
  (.sp (x24.Delta<(-86400:Int))
  (.run (cs 2 ((.ret none [.any] (.bool r32) [])::(cs 2 (oF::oc::oa::(cs 2 (tc::(cs 4 [bt,oc]))))))) (fun γ=>k2 (KE x24.From r32 γ.1.1.2) (k2 ((Gs γ.1.2):(!r32)=false) (k2 (dT γ.2) (Gb (rfl:true=true))))) <|
  .leaf (Sum.inr (Sum.inl 1)) [])
  (.run (cs 2 ((.ret none [.any] (.bool r32) [])::(cs 2 (oF::oc::oa::(cs 2 (oF::oc::oa::(cs 2 []))))))) (fun γ=>k2 (KE x24.From r32 γ.1.1.2) (k2 ((Gs γ.1.2):(!r32)=false) (Gb (dF γ.2)))) <|
  .sp (x24.Delta>(86400:Int))
  (.run [bt,oc] (fun γ=>Gb (dT γ.2)) <|
  .leaf (Sum.inr (Sum.inl 1)) [])
  (.run [bf] (fun γ=>Gb (dF γ.2)) <|
  .gd (GP .i64 ((↑k7:Int)+1)) <| .run [ow,oc] (fun γ=>Gb γ.2) <|
  .leaf (Sum.inl (k7+1)) [])))
  (.run (cs 2 ((.ret none [.any] (.bool r32) [])::(cs 2 (tc::(cs 9 [bt,oc]))))) (fun γ=>k2 (KE x24.From r32 γ.1.2) (k2 ((Gu (eq_false_of_ne_true γ.2)):(!r32)=true) (Gb (rfl:true=true)))) <|
  .leaf (Sum.inr (Sum.inl 1)) [])))
  (.run [oc,oa,oc,oF,oF,oF,oF,oF,oF,oF,oF,oF,.op none (.b false),oc,bf] (fun γ=>k2 (dF γ.2) (k2 (dF γ.2) (k2 (dF γ.2) (k2 (dF γ.2) (k2 (dF γ.2) (k2 (dF γ.2) (k2 (dF γ.2) (k2 (dF γ.2) (k2 (dF γ.2) (k2 (dF γ.2) (Gb (rfl:false=false)))))))))))) <|
  .bd (X2 x24.From) fun r38=>.sp (r38=true)
  (.sp (x24.Delta<(-86400:Int))
  (.run (cs 2 ((.ret none [.any] (.bool r38) [])::(cs 2 (oF::oc::oa::(cs 2 (tc::(cs 4 [bt,oc]))))))) (fun γ=>k2 (KE x24.From r38 γ.1.1.2) (k2 ((Gs γ.1.2):(!r38)=false) (k2 (dT γ.2) (Gb (rfl:true=true))))) <|
  .leaf (Sum.inr (Sum.inl 1)) [])
  (.run (cs 2 ((.ret none [.any] (.bool r38) [])::(cs 2 (oF::oc::oa::(cs 2 (oF::oc::oa::(cs 2 []))))))) (fun γ=>k2 (KE x24.From r38 γ.1.1.2) (k2 ((Gs γ.1.2):(!r38)=false) (Gb (dF γ.2)))) <|
  .sp (x24.Delta>(86400:Int))
  (.run [bt,oc] (fun γ=>Gb (dT γ.2)) <|
  .leaf (Sum.inr (Sum.inl 1)) [])
  (.run [bf] (fun γ=>Gb (dF γ.2)) <|
  .gd (GP .i64 ((↑k7:Int)+1)) <| .run [ow,oc] (fun γ=>Gb γ.2) <|
  .leaf (Sum.inl (k7+1)) [])))
  (.run (cs 2 ((.ret none [.any] (.bool r38) [])::(cs 2 (tc::(cs 9 [bt,oc]))))) (fun γ=>k2 (KE x24.From r38 γ.1.2) (k2 ((Gu (eq_false_of_ne_true γ.2)):(!r38)=true) (Gb (rfl:true=true)))) <|
  .leaf (Sum.inr (Sum.inl 1)) [])))
  (.run [bf] (fun γ=>Gb (dF γ.2)) <|
  .leaf (Sum.inr (Sum.inr (()))) [])
def Jf (l_0:(List GD)):Nat→Option (Nat⊕(Int⊕Unit)):=fun s=>(Mb l_0 s).den
def YL (l_0:(List GD)):Nat→PS:=fun s=>(42,[(0,.lst (fl GD.enc l_0) l_0.length),(5,.lst (fl GD.enc l_0) l_0.length),(6,jI (↑l_0.length:Int)),(7,jI (↑s:Int))],[])
def Y7:(Int⊕Unit)→Hm:=fun q=>match q with | Sum.inl o=>.ret | Sum.inr (o)=>(.exit 0)
def YN (l_0:(List GD)):(Int⊕Unit)→List (Nat×AV):=fun q=>match q with | Sum.inl o=>[(2,jI o)] | Sum.inr (o)=>[]
def YZ (l_0:(List GD)):(Int⊕Unit)→List G6:=fun q=>match q with | Sum.inl o=>[] | Sum.inr (o)=>[]
theorem U4 (l_0:(List GD)) {s:Nat} {r:Int⊕Unit} (h:lp (Jf l_0) s=some r):GI Tryz.prog GT 0 (.loop (GO Tryz.prog 169 [1,0,1,0,0])) (YL l_0 s).st (Y7 r) (PS.st (42,YN l_0 r,YZ l_0 r)):=
 GI.lp_ht 0 400 (YL l_0) Y7 (fun q=>(42,YN l_0 q,YZ l_0 q)) (Mb l_0) (by intro k7; kernel_rfl) h
def V2 (l_0:(List GD)):HT Int True:=.run (cs 4 []) (fun _=>He) <|
  .bd (lp (Jf l_0) (0:Nat)) fun qq=>.cs qq (fun o1=>.run [.fcut 0 .ret [(2,jI o1)] [] [] [(0,.any),(5,.any),(6,.any),(7,jI (↑(0:Nat):Int))] []] (fun γ=>k2 (rfl:(jI 0:AV)=jI (↑(0:Nat):Int)) (Gb (U4 l_0 (s:=(0:Nat)) (r:=Sum.inl o1) (eS γ.1.2 γ.2)))) <|
  .leaf o1 [])
  (fun o1=>.run [.fcut 0 (.exit 0) [] [] [] [(0,.any),(5,.any),(6,.any),(7,jI (↑(0:Nat):Int))] [],oc] (fun γ=>k2 (rfl:(jI 0:AV)=jI (↑(0:Nat):Int)) (Gb (U4 l_0 (s:=(0:Nat)) (r:=Sum.inr (o1)) (eS γ.1.2 γ.2)))) <|
  .leaf 0 [])
def QL (l_0:(List GD)):Option Int:=(V2 l_0).den
theorem Gai (l_0:(List GD)) (r:Int) (h:QL l_0=some r):G5 Tryz.prog GT 169 [.lst (fl GD.enc l_0) l_0.length] (jI r) []:=
 G5.of_ht 400 (V2 l_0) (fun (r:Int)=>jI r) (fun (r:Int)=>[]) (by kernel_rfl) h
def Gd9 (i_0:Gn):HT Bool True:=.run (cs 2 []) (fun _=>He) <|
  .sp (i_0.From≥(0:Int))
  (.sp (i_0.From<i_0.To)
  (.run (cs 2 (oa::oc::tc::(cs 3 (oa::(cs 2 (tc::oc::oa::(cs 2 []))))))) (fun γ=>k2 (dT γ.1.2) (Gb (dT γ.2))) <|
  .leaf (decide (i_0.To≤(68719476736:Int))) [])
  (.run (cs 2 (oa::oc::tc::(cs 3 (oa::(cs 2 (oF::(cs 4 []))))))) (fun γ=>k2 (dT γ.1.2) (Gb (dF γ.2))) <|
  .leaf false []))
  (.run (cs 2 (oa::oc::oF::(cs 11 []))) (fun γ=>Gb (dF γ.2)) <|
  .leaf false [])
def Jz (i_0:Gn):Option Bool:=(Gd9 i_0).den
theorem G3 (i_0:Gn) (r:Bool) (h:Jz i_0=some r):G5 Tryz.prog GT 181 [.agg (Gn.enc i_0)] (.bool r) []:=
 G5.of_ht 400 (Gd9 i_0) (fun (r:Bool)=>.bool r) (fun (r:Bool)=>[]) (by kernel_rfl) h
def K7 (l_0:(List Gn)):Nat→HT (Nat⊕(Int⊕Unit)) True
 | k7=>.run [oa] (fun _=>He) <|
  .sp ((↑k7:Int)<(↑l_0.length:Int))
  (.run [bt] (fun γ=>Gb (dT γ.2)) <|
  .bd (l_0[k7]?) fun x17=>.run (oc::(.op none (.i k7))::(.op none (.v [jI x17.From,jI x17.To]))::(cs 3 [])) (fun γ=>k2 (ir γ.2) (k2 (GC (f:=Gn.enc) (z:=1) (fun _=>rfl) γ.2) (Gb (GU (f:=Gn.enc) (z:=2) (j:=k7) (fun _=>rfl) γ.2 rfl)))) <|
  .bd (Jz x17) fun r19=>.run (oc::(.ret none [.any] (.bool r19) [])::(cs 2 [])) (fun γ=>Gb (G3 x17 r19 γ.2)) <|
  .sp (r19=true)
  (.run [bf] (fun γ=>Gb ((Gs γ.2):(!r19)=false)) <|
  .sp ((↑k7:Int)>(0:Int))
  (.gd (GP .i64 ((↑k7:Int) - 1)) <| .gd ((0:Int)≤((↑k7:Int) - 1)) <| .bd (l_0[(Int.toNat ((↑k7:Int) - 1))]?) fun x25=>.run [oc,oa,oc,tc,tc,tc,tc,tw,.op (some true) (.i (Int.toNat ((↑k7:Int) - 1))),tc,.op (some true) (.v [jI x25.To]),ta,.op none (.b true),oc] (fun γ=>k2 (dT γ.1.1.1.2) (k2 (dT γ.1.1.1.2) (k2 (dT γ.1.1.1.2) (k2 (dT γ.1.1.1.2) (k2 (dT γ.1.1.1.2) (k2 γ.1.1.2 (k2 (dT γ.1.1.1.2) (k2 (ix γ.1.2 γ.2) (k2 (GC (f:=Gn.enc) (z:=1) (fun _=>rfl) γ.2) (k2 (dT γ.1.1.1.2) (k2 (dT γ.1.1.1.2) (k2 (GL (f:=Gn.enc) (z:=2) (j:=(Int.toNat ((↑k7:Int) - 1))) (a:=1) (n:=1) (fun _=>rfl) γ.2 (by decide) rfl) (k2 (dT γ.1.1.1.2) (Gb (dT γ.1.1.1.2))))))))))))))) <|
  .sp (x17.From≤x25.To)
  (.run [bt,oc] (fun γ=>Gb (dT γ.2)) <|
  .leaf (Sum.inr (Sum.inl 15)) [])
  (.run [bf] (fun γ=>Gb (dF γ.2)) <|
  .gd (GP .i64 ((↑k7:Int)+1)) <| .run [ow,oc] (fun γ=>Gb γ.2) <|
  .leaf (Sum.inl (k7+1)) []))
  (.run [oc,oa,oc,oF,oF,oF,oF,oF,oF,oF,oF,oF,.op none (.b false),oc,bf] (fun γ=>k2 (dF γ.2) (k2 (dF γ.2) (k2 (dF γ.2) (k2 (dF γ.2) (k2 (dF γ.2) (k2 (dF γ.2) (k2 (dF γ.2) (k2 (dF γ.2) (k2 (dF γ.2) (k2 (dF γ.2) (Gb (rfl:false=false)))))))))))) <|
  .gd (GP .i64 ((↑k7:Int)+1)) <| .run [ow,oc] (fun γ=>Gb γ.2) <|
  .leaf (Sum.inl (k7+1)) []))
  (.run [bt,oc] (fun γ=>Gb ((Gu (eq_false_of_ne_true γ.2)):(!r19)=true)) <|
  .leaf (Sum.inr (Sum.inl 12)) []))
  (.run [bf] (fun γ=>Gb (dF γ.2)) <|
  .leaf (Sum.inr (Sum.inr (()))) [])
def Jh (l_0:(List Gn)):Nat→Option (Nat⊕(Int⊕Unit)):=fun s=>(K7 l_0 s).den
def YM (l_0:(List Gn)):Nat→PS:=fun s=>(31,[(0,.lst (fl Gn.enc l_0) l_0.length),(5,.lst (fl Gn.enc l_0) l_0.length),(6,jI (↑l_0.length:Int)),(7,jI (↑s:Int))],[])
def YG:(Int⊕Unit)→Hm:=fun q=>match q with | Sum.inl o=>.ret | Sum.inr (o)=>(.exit 0)
def YP (l_0:(List Gn)):(Int⊕Unit)→List (Nat×AV):=fun q=>match q with | Sum.inl o=>[(2,jI o)] | Sum.inr (o)=>[]
def YF (l_0:(List Gn)):(Int⊕Unit)→List G6:=fun q=>match q with | Sum.inl o=>[] | Sum.inr (o)=>[]
theorem Uy (l_0:(List Gn)) {s:Nat} {r:Int⊕Unit} (h:lp (Jh l_0) s=some r):GI Tryz.prog GT 0 (.loop (GO Tryz.prog 170 [1,0,1,0,0])) (YM l_0 s).st (YG r) (PS.st (31,YP l_0 r,YF l_0 r)):=
 GI.lp_ht 0 400 (YM l_0) YG (fun q=>(31,YP l_0 q,YF l_0 q)) (K7 l_0) (by intro k7; kernel_rfl) h
def V1 (l_0:(List Gn)):HT Int True:=.run (cs 4 []) (fun _=>He) <|
  .bd (lp (Jh l_0) (0:Nat)) fun qq=>.cs qq (fun o1=>.run [.fcut 0 .ret [(2,jI o1)] [] [] [(0,.any),(5,.any),(6,.any),(7,jI (↑(0:Nat):Int))] []] (fun γ=>k2 (rfl:(jI 0:AV)=jI (↑(0:Nat):Int)) (Gb (Uy l_0 (s:=(0:Nat)) (r:=Sum.inl o1) (eS γ.1.2 γ.2)))) <|
  .leaf o1 [])
  (fun o1=>.run [.fcut 0 (.exit 0) [] [] [] [(0,.any),(5,.any),(6,.any),(7,jI (↑(0:Nat):Int))] [],oc] (fun γ=>k2 (rfl:(jI 0:AV)=jI (↑(0:Nat):Int)) (Gb (Uy l_0 (s:=(0:Nat)) (r:=Sum.inr (o1)) (eS γ.1.2 γ.2)))) <|
  .leaf 0 [])
def QN (l_0:(List Gn)):Option Int:=(V1 l_0).den
theorem ZF (l_0:(List Gn)) (r:Int) (h:QN l_0=some r):G5 Tryz.prog GT 170 [.lst (fl Gn.enc l_0) l_0.length] (jI r) []:=
 G5.of_ht 400 (V1 l_0) (fun (r:Int)=>jI r) (fun (r:Int)=>[]) (by kernel_rfl) h
def K6 (n_1:Gc) (x128:Gl):Nat→HT (Nat⊕(Int⊕Unit)) True
 | k8=>.run [oa] (fun _=>He) <|
  .sp ((↑k8:Int)<(↑n_1.Points.length:Int))
  (.run (bt::(cs 2 [])) (fun γ=>Gb (dT γ.2)) <|
  .bd (n_1.Points[k8]?) fun x144=>.run (cs 3 ((.op none (.i k8))::(.op none (.v [.str x144.Name,jI x144.Kind,.str x144.System]))::(cs 7 [oa,oc]))) (fun γ=>k2 (ir γ.2) (k2 (GC (f:=Gq.enc) (z:=2) (fun _=>rfl) γ.2) (Gb (GU (f:=Gq.enc) (z:=3) (j:=k8) (fun _=>rfl) γ.2 rfl)))) <|
  .sp (x144.Name=x128.Point)
  (.run (bt::(cs 2 [])) (fun γ=>Gb (Gp γ.2)) <|
  .leaf (Sum.inr (Sum.inl (↑k8:Int))) [0])
  (.run [bf] (fun γ=>Gb (Gw γ.2)) <|
  .gd (GP .i64 ((↑k8:Int)+1)) <| .run [ow,oc] (fun γ=>Gb γ.2) <|
  .leaf (Sum.inl (k8+1)) [0]))
  (.run [bf] (fun γ=>Gb (dF γ.2)) <|
  .leaf (Sum.inr (Sum.inr (()))) [0])
def HN (n_1:Gc) (x128:Gl):Nat→Option (Nat⊕(Int⊕Unit)):=fun s=>(K6 n_1 x128 s).den
def Y4 (n_1:Gc) (x128:Gl):Nat→PS:=fun s=>(19,[(0,.lst (fl Gq.enc n_1.Points) n_1.Points.length),(1,.fn (.func 168) [] [.ptr 0 0]),(7,jI (↑n_1.Points.length:Int)),(8,jI (↑s:Int))],[(bT (Gl.enc x128) 166)])
def YT:(Int⊕Unit)→Hm:=fun q=>match q with | Sum.inl o=>.ret | Sum.inr (o)=>(.exit 0)
def Y6 (n_1:Gc) (x128:Gl):(Int⊕Unit)→List (Nat×AV):=fun q=>match q with | Sum.inl o=>[(4,jI o)] | Sum.inr (o)=>[]
def Y1 (n_1:Gc) (x128:Gl):(Int⊕Unit)→List G6:=fun q=>match q with | Sum.inl o=>[(bT (Gl.enc x128) 166)] | Sum.inr (o)=>[(bT (Gl.enc x128) 166)]
theorem HO (n_1:Gc) (x128:Gl) {s:Nat} {r:Int⊕Unit} (h:lp (HN n_1 x128) s=some r):GI Tryz.prog GT 1 (.loop (GO Tryz.prog 237 [1,0,1,0,0])) (Y4 n_1 x128 s).st (YT r) (PS.st (19,Y6 n_1 x128 r,Y1 n_1 x128 r)):=
 GI.lp_ht 1 400 (Y4 n_1 x128) YT (fun q=>(19,Y6 n_1 x128 q,Y1 n_1 x128 q)) (K6 n_1 x128) (by intro k8; kernel_rfl) h
def Qx (l_0:(List Gl)) (n_1:Gc):(Nat×(List ((List UInt8)×Bool)))→HT ((Nat×(List ((List UInt8)×Bool)))⊕((Int×(List ((List UInt8)×Bool)))⊕(List ((List UInt8)×Bool)))) True
 | (k18,b1)=>.run [oa] (fun _=>He) <|
  .sp ((↑k18:Int)<(↑l_0.length:Int))
  (.run [bt] (fun γ=>Gb (dT γ.2)) <|
  .bd (l_0[k18]?) fun x128=>.run ((.op none (.i k18))::(.op none (.v [.str x128.Name,.str x128.Point,jI x128.Kind,jI x128.Lane,.lst (fl GD.enc x128.Offsets) x128.Offsets.length,.lst (fl Gn.enc x128.Down) x128.Down.length]))::(cs 2 [])) (fun γ=>k2 (ir γ.2) (k2 (GC (f:=Gl.enc) (z:=5) (fun _=>rfl) γ.2) (Gb (GU (f:=Gl.enc) (z:=6) (j:=k18) (fun _=>rfl) γ.2 rfl)))) <|
  .bd (HC x128.Name) fun r130=>.run (cs 2 [.ret none [.any] (.bool r130) [],oc]) (fun γ=>Gb (Ha x128.Name r130 γ.2)) <|
  .sp (r130=true)
  (.run [bf] (fun γ=>Gb ((Gs γ.2):(!r130)=false)) <|
  .sp (((V0 fst b1 x128.Name).isSome)=true)
  (.bd (V0 fst b1 x128.Name) fun q134=>.run (cs 3 [.op none (.v [.bool q134.2])]) (fun γ=>Gb ((K2 Hx (k:=x128.Name) (KD x128.Name) γ.2):Ja (List.map Ho b1) (.str x128.Name)=some (.bool q134.2))) <|
  .sp (q134.2=true)
  (.run [bt,oc] (fun γ=>Gb γ.2) <|
  .leaf (Sum.inr (Sum.inl (9,b1))) [0,1])
  (.run (bf::(cs 4 [.tr (.mp 1 (List.map Ho (HU fst b1 (x128.Name,true))))])) (fun γ=>k2 ((eq_false_of_ne_true γ.2):q134.2=false) (Gb ((List.Perm.of_eq (Xl (κ:=fst) Hx b1 (x128.Name,true))):List.Perm (YA (List.map Ho b1) (.str x128.Name) (.bool true)) (List.map Ho (HU fst b1 (x128.Name,true)))))) <|
  .bd (lp (HN n_1 x128) (0:Nat)) fun qq=>.cs qq (fun o137=>.sp (o137≥(0:Int))
  (.gd ((0:Int)≤o137) <| .bd (n_1.Points[o137.toNat]?) fun x150=>.run (cs 13 ((.fcut 1 .ret [(4,jI o137)] [(bT (Gl.enc x128) 166)] [2] [(0,.any),(1,.any),(7,.any),(8,jI (↑(0:Nat):Int))] [bS])::(cs 2 (oa::bt::(cs 2 ((.op none (.i o137.toNat))::(.op none (.v [.str x150.Name,jI x150.Kind,.str x150.System]))::(cs 10 [bf]))))))) (fun γ=>k2 (rfl:(jI 0:AV)=jI (↑(0:Nat):Int)) (k2 (HO n_1 x128 (s:=(0:Nat)) (r:=Sum.inl o137) (eS γ.1.1.1.1.2 γ.1.1.1.2)) (k2 (dT γ.1.1.2) (k2 (ix γ.1.2 γ.2) (k2 (GC (f:=Gq.enc) (z:=2) (fun _=>rfl) γ.2) (k2 (GU (f:=Gq.enc) (z:=3) (j:=o137.toNat) (fun _=>rfl) γ.2 rfl) (Gb (rfl:false=false)))))))) <|
  .sp (x128.Kind<(1:Int))
  (.run (cs 2 (oa::oc::tc::(cs 13 [bt,oc]))) (fun γ=>k2 (dT γ.2) (Gb (rfl:true=true))) <|
  .leaf (Sum.inr (Sum.inl (1,(HU fst b1 (x128.Name,true))))) [0,1])
  (.sp (x128.Kind>(3:Int))
  (.run (cs 2 (oa::oc::oF::oc::oa::(cs 2 (tc::(cs 8 [bt,oc]))))) (fun γ=>k2 (dF γ.1.2) (k2 (dT γ.2) (Gb (rfl:true=true)))) <|
  .leaf (Sum.inr (Sum.inl (1,(HU fst b1 (x128.Name,true))))) [0,1])
  (.sp (x128.Lane<(0:Int))
  (.run (cs 2 (oa::oc::oF::oc::oa::(cs 2 (oF::oc::oa::(cs 2 (tc::(cs 3 [bt,oc]))))))) (fun γ=>k2 (dF γ.1.1.2) (k2 (dF γ.1.2) (k2 (dT γ.2) (Gb (rfl:true=true))))) <|
  .leaf (Sum.inr (Sum.inl (1,(HU fst b1 (x128.Name,true))))) [0,1])
  (.run (cs 2 (oa::oc::oF::oc::oa::(cs 2 (oF::oc::oa::(cs 2 [oF,oc,oa,oc]))))) (fun γ=>k2 (dF γ.1.1.2) (k2 (dF γ.1.2) (Gb (dF γ.2)))) <|
  .sp (x128.Lane>(15:Int))
  (.run [bt,oc] (fun γ=>Gb (dT γ.2)) <|
  .leaf (Sum.inr (Sum.inl (1,(HU fst b1 (x128.Name,true))))) [0,1])
  (.run [bf] (fun γ=>Gb (dF γ.2)) <|
  .bd (QL x128.Offsets) fun r156=>.run (cs 2 ((.ret none [.any] (jI r156) [])::(cs 2 [oa]))) (fun γ=>Gb (Gai x128.Offsets r156 γ.2)) <|
  .sp (r156=(0:Int))
  (.run [bf] (fun γ=>Gb (Gs (Gp γ.2))) <|
  .bd (QN x128.Down) fun r159=>.run (cs 2 ((.ret none [.any] (jI r159) [])::(cs 2 [oa]))) (fun γ=>Gb (ZF x128.Down r159 γ.2)) <|
  .sp (r159=(0:Int))
  (.run [bf] (fun γ=>Gb (Gs (Gp γ.2))) <|
  .gd (GP .i64 ((↑k18:Int)+1)) <| .run [ow,oc] (fun γ=>Gb γ.2) <|
  .leaf (Sum.inl ((k18+1),(HU fst b1 (x128.Name,true)))) [0,1])
  (.run (bt::(cs 2 [])) (fun γ=>Gb (Gu (Gw γ.2))) <|
  .leaf (Sum.inr (Sum.inl (r159,(HU fst b1 (x128.Name,true))))) [0,1]))
  (.run (bt::(cs 2 [])) (fun γ=>Gb (Gu (Gw γ.2))) <|
  .leaf (Sum.inr (Sum.inl (r156,(HU fst b1 (x128.Name,true))))) [0,1]))))))
  (.run (cs 13 ((.fcut 1 .ret [(4,jI o137)] [(bT (Gl.enc x128) 166)] [2] [(0,.any),(1,.any),(7,.any),(8,jI (↑(0:Nat):Int))] [bS])::(cs 2 (oa::bf::(cs 12 [bt,oc]))))) (fun γ=>k2 (rfl:(jI 0:AV)=jI (↑(0:Nat):Int)) (k2 (HO n_1 x128 (s:=(0:Nat)) (r:=Sum.inl o137) (eS γ.1.1.2 γ.1.2)) (k2 (dF γ.2) (Gb (rfl:true=true))))) <|
  .leaf (Sum.inr (Sum.inl (16,(HU fst b1 (x128.Name,true))))) [0,1]))
  (fun o137=>.run (cs 13 ((.fcut 1 (.exit 0) [] [(bT (Gl.enc x128) 166)] [2] [(0,.any),(1,.any),(7,.any),(8,jI (↑(0:Nat):Int))] [bS])::(cs 4 (bf::(cs 12 [bt,oc]))))) (fun γ=>k2 (rfl:(jI 0:AV)=jI (↑(0:Nat):Int)) (k2 (HO n_1 x128 (s:=(0:Nat)) (r:=Sum.inr (o137)) (eS γ.1.2 γ.2)) (k2 (rfl:false=false) (Gb (rfl:true=true))))) <|
  .leaf (Sum.inr (Sum.inl (16,(HU fst b1 (x128.Name,true))))) [0,1])))
  (.run (cs 3 ((.op none (.b false))::bf::(cs 4 [.tr (.mp 1 (List.map Ho (HU fst b1 (x128.Name,true))))]))) (fun γ=>k2 ((VR Hx (k:=x128.Name) (KD x128.Name) (GgI γ.2)):Ja (List.map Ho b1) (.str x128.Name)=none) (k2 (rfl:false=false) (Gb ((List.Perm.of_eq (Xl (κ:=fst) Hx b1 (x128.Name,true))):List.Perm (YA (List.map Ho b1) (.str x128.Name) (.bool true)) (List.map Ho (HU fst b1 (x128.Name,true))))))) <|
  .bd (lp (HN n_1 x128) (0:Nat)) fun qq=>.cs qq (fun o163=>.sp (o163≥(0:Int))
  (.gd ((0:Int)≤o163) <| .bd (n_1.Points[o163.toNat]?) fun x176=>.run (cs 13 ((.fcut 1 .ret [(4,jI o163)] [(bT (Gl.enc x128) 166)] [2] [(0,.any),(1,.any),(7,.any),(8,jI (↑(0:Nat):Int))] [bS])::(cs 2 (oa::bt::(cs 2 ((.op none (.i o163.toNat))::(.op none (.v [.str x176.Name,jI x176.Kind,.str x176.System]))::(cs 10 [bf]))))))) (fun γ=>k2 (rfl:(jI 0:AV)=jI (↑(0:Nat):Int)) (k2 (HO n_1 x128 (s:=(0:Nat)) (r:=Sum.inl o163) (eS γ.1.1.1.1.2 γ.1.1.1.2)) (k2 (dT γ.1.1.2) (k2 (ix γ.1.2 γ.2) (k2 (GC (f:=Gq.enc) (z:=2) (fun _=>rfl) γ.2) (k2 (GU (f:=Gq.enc) (z:=3) (j:=o163.toNat) (fun _=>rfl) γ.2 rfl) (Gb (rfl:false=false)))))))) <|
  .sp (x128.Kind<(1:Int))
  (.run (cs 2 (oa::oc::tc::(cs 13 [bt,oc]))) (fun γ=>k2 (dT γ.2) (Gb (rfl:true=true))) <|
  .leaf (Sum.inr (Sum.inl (1,(HU fst b1 (x128.Name,true))))) [0,1])
  (.sp (x128.Kind>(3:Int))
  (.run (cs 2 (oa::oc::oF::oc::oa::(cs 2 (tc::(cs 8 [bt,oc]))))) (fun γ=>k2 (dF γ.1.2) (k2 (dT γ.2) (Gb (rfl:true=true)))) <|
  .leaf (Sum.inr (Sum.inl (1,(HU fst b1 (x128.Name,true))))) [0,1])
  (.sp (x128.Lane<(0:Int))
  (.run (cs 2 (oa::oc::oF::oc::oa::(cs 2 (oF::oc::oa::(cs 2 (tc::(cs 3 [bt,oc]))))))) (fun γ=>k2 (dF γ.1.1.2) (k2 (dF γ.1.2) (k2 (dT γ.2) (Gb (rfl:true=true))))) <|
  .leaf (Sum.inr (Sum.inl (1,(HU fst b1 (x128.Name,true))))) [0,1])
  (.run (cs 2 (oa::oc::oF::oc::oa::(cs 2 (oF::oc::oa::(cs 2 [oF,oc,oa,oc]))))) (fun γ=>k2 (dF γ.1.1.2) (k2 (dF γ.1.2) (Gb (dF γ.2)))) <|
  .sp (x128.Lane>(15:Int))
  (.run [bt,oc] (fun γ=>Gb (dT γ.2)) <|
  .leaf (Sum.inr (Sum.inl (1,(HU fst b1 (x128.Name,true))))) [0,1])
  (.run [bf] (fun γ=>Gb (dF γ.2)) <|
  .bd (QL x128.Offsets) fun r182=>.run (cs 2 ((.ret none [.any] (jI r182) [])::(cs 2 [oa]))) (fun γ=>Gb (Gai x128.Offsets r182 γ.2)) <|
  .sp (r182=(0:Int))
  (.run [bf] (fun γ=>Gb (Gs (Gp γ.2))) <|
  .bd (QN x128.Down) fun r185=>.run (cs 2 ((.ret none [.any] (jI r185) [])::(cs 2 [oa]))) (fun γ=>Gb (ZF x128.Down r185 γ.2)) <|
  .sp (r185=(0:Int))
  (.run [bf] (fun γ=>Gb (Gs (Gp γ.2))) <|
  .gd (GP .i64 ((↑k18:Int)+1)) <| .run [ow,oc] (fun γ=>Gb γ.2) <|
  .leaf (Sum.inl ((k18+1),(HU fst b1 (x128.Name,true)))) [0,1])
  (.run (bt::(cs 2 [])) (fun γ=>Gb (Gu (Gw γ.2))) <|
  .leaf (Sum.inr (Sum.inl (r185,(HU fst b1 (x128.Name,true))))) [0,1]))
  (.run (bt::(cs 2 [])) (fun γ=>Gb (Gu (Gw γ.2))) <|
  .leaf (Sum.inr (Sum.inl (r182,(HU fst b1 (x128.Name,true))))) [0,1]))))))
  (.run (cs 13 ((.fcut 1 .ret [(4,jI o163)] [(bT (Gl.enc x128) 166)] [2] [(0,.any),(1,.any),(7,.any),(8,jI (↑(0:Nat):Int))] [bS])::(cs 2 (oa::bf::(cs 12 [bt,oc]))))) (fun γ=>k2 (rfl:(jI 0:AV)=jI (↑(0:Nat):Int)) (k2 (HO n_1 x128 (s:=(0:Nat)) (r:=Sum.inl o163) (eS γ.1.1.2 γ.1.2)) (k2 (dF γ.2) (Gb (rfl:true=true))))) <|
  .leaf (Sum.inr (Sum.inl (16,(HU fst b1 (x128.Name,true))))) [0,1]))
  (fun o163=>.run (cs 13 ((.fcut 1 (.exit 0) [] [(bT (Gl.enc x128) 166)] [2] [(0,.any),(1,.any),(7,.any),(8,jI (↑(0:Nat):Int))] [bS])::(cs 4 (bf::(cs 12 [bt,oc]))))) (fun γ=>k2 (rfl:(jI 0:AV)=jI (↑(0:Nat):Int)) (k2 (HO n_1 x128 (s:=(0:Nat)) (r:=Sum.inr (o163)) (eS γ.1.2 γ.2)) (k2 (rfl:false=false) (Gb (rfl:true=true))))) <|
  .leaf (Sum.inr (Sum.inl (16,(HU fst b1 (x128.Name,true))))) [0,1])))
  (.run [bt,oc] (fun γ=>Gb ((Gu (eq_false_of_ne_true γ.2)):(!r130)=true)) <|
  .leaf (Sum.inr (Sum.inl (6,b1))) [0,1]))
  (.run [bf] (fun γ=>Gb (dF γ.2)) <|
  .leaf (Sum.inr (Sum.inr (b1))) [0,1])
def H5 (l_0:(List Gl)) (n_1:Gc):(Nat×(List ((List UInt8)×Bool)))→Option ((Nat×(List ((List UInt8)×Bool)))⊕((Int×(List ((List UInt8)×Bool)))⊕(List ((List UInt8)×Bool)))):=fun s=>(Qx l_0 n_1 s).den
def Gby (l_0:(List Gl)) (n_1:Gc):(Nat×(List ((List UInt8)×Bool)))→PS:=fun s=>(73,[(3,.ptr 0 0),(5,.mapr 1),(16,.lst (fl Gl.enc l_0) l_0.length),(17,jI (↑l_0.length:Int)),(18,jI (↑s.1:Int))],[(bT (Gc.enc n_1) 38),(bM .s (List.map Ho s.2))])
def GbV:((Int×(List ((List UInt8)×Bool)))⊕(List ((List UInt8)×Bool)))→Hm:=fun q=>match q with | Sum.inl o=>.ret | Sum.inr (o)=>(.exit 0)
def Gbq (l_0:(List Gl)) (n_1:Gc):((Int×(List ((List UInt8)×Bool)))⊕(List ((List UInt8)×Bool)))→List (Nat×AV):=fun q=>match q with | Sum.inl o=>[(4,jI o.1)] | Sum.inr (o)=>[]
def Qr (l_0:(List Gl)) (n_1:Gc):((Int×(List ((List UInt8)×Bool)))⊕(List ((List UInt8)×Bool)))→List G6:=fun q=>match q with | Sum.inl o=>[(bT (Gc.enc n_1) 38),(bM .s (List.map Ho o.2))] | Sum.inr (o)=>[(bT (Gc.enc n_1) 38),(bM .s (List.map Ho o))]
theorem XO (l_0:(List Gl)) (n_1:Gc) {s:(Nat×(List ((List UInt8)×Bool)))} {r:(Int×(List ((List UInt8)×Bool)))⊕(List ((List UInt8)×Bool))} (h:lp (H5 l_0 n_1) s=some r):GI Tryz.prog GT 2 (.loop (GO Tryz.prog 83 [1,1,1,0,1,0,0])) (Gby l_0 n_1 s).st (GbV r) (PS.st (73,Gbq l_0 n_1 r,Qr l_0 n_1 r)):=
 GI.lp_ht 2 400 (Gby l_0 n_1) GbV (fun q=>(73,Gbq l_0 n_1 q,Qr l_0 n_1 q)) (Qx l_0 n_1) (by rintro ⟨k18,b1⟩; kernel_rfl) h
def GaE (l_0:(List Gl)) (n_1:Gc):HT Int True:=.run (cs 4 [oa]) (fun _=>He) <|
  .sp ((↑l_0.length:Int)>(1024:Int))
  (.run [bt,oc] (fun γ=>Gb (dT γ.2)) <|
  .leaf 3 [])
  (.run (bf::(cs 5 [])) (fun γ=>Gb (dF γ.2)) <|
  .bd (lp (H5 l_0 n_1) ((0:Nat),([]:List ((List UInt8)×Bool)))) fun qq=>.cs qq (fun o2=>.run [.fcut 2 .ret [(4,jI o2.1)] (Qr l_0 n_1 (Sum.inl o2)) [0,1] [(3,.any),(5,.any),(16,.any),(17,.any),(18,jI (↑(0:Nat):Int))] [bS,bS]] (fun γ=>k2 (rfl:(jI 0:AV)=jI (↑(0:Nat):Int)) (Gb (XO l_0 n_1 (s:=((0:Nat),([]:List ((List UInt8)×Bool)))) (r:=Sum.inl o2) (eS γ.1.2 γ.2)))) <|
  .leaf o2.1 [])
  (fun o2=>.run [.fcut 2 (.exit 0) [] (Qr l_0 n_1 (Sum.inr (o2))) [0,1] [(3,.any),(5,.any),(16,.any),(17,.any),(18,jI (↑(0:Nat):Int))] [bS,bS],oc] (fun γ=>k2 (rfl:(jI 0:AV)=jI (↑(0:Nat):Int)) (Gb (XO l_0 n_1 (s:=((0:Nat),([]:List ((List UInt8)×Bool)))) (r:=Sum.inr (o2)) (eS γ.1.2 γ.2)))) <|
  .leaf 0 []))
def UP (l_0:(List Gl)) (n_1:Gc):Option Int:=(GaE l_0 n_1).den
theorem Q8 (l_0:(List Gl)) (n_1:Gc) (r:Int) (h:UP l_0 n_1=some r):G5 Tryz.prog GT 83 [.lst (fl Gl.enc l_0) l_0.length,.agg (Gc.enc n_1)] (jI r) []:=
 G5.of_ht 400 (GaE l_0 n_1) (fun (r:Int)=>jI r) (fun (r:Int)=>[]) (by kernel_rfl) h
def Q9 (n_0:Gc) (name_1:(List UInt8)):Nat→HT (Nat⊕(Unit⊕Unit)) True
 | k5=>.run (cs 4 [oa]) (fun _=>He) <|
  .sp ((↑k5:Int)<(↑n_0.Points.length:Int))
  (.run [bt] (fun γ=>Gb (dT γ.2)) <|
  .bd (n_0.Points[k5]?) fun x8=>.run (cs 3 [.op none (.i k5),oc,.op none (.v [.str x8.Name]),oc,oa]) (fun γ=>k2 (ir γ.2) (k2 (GC (f:=Gq.enc) (z:=2) (fun _=>rfl) γ.2) (Gb (GL (f:=Gq.enc) (z:=3) (j:=k5) (a:=0) (n:=1) (fun _=>rfl) γ.2 (by decide) rfl)))) <|
  .sp (x8.Name=name_1)
  (.run [bt,oc] (fun γ=>Gb (Gp γ.2)) <|
  .leaf (Sum.inr (Sum.inl ())) [0])
  (.run [bf] (fun γ=>Gb (Gw γ.2)) <|
  .gd (GP .i64 ((↑k5:Int)+1)) <| .run [oc,ow,oc] (fun γ=>Gb γ.2) <|
  .leaf (Sum.inl (k5+1)) [0]))
  (.run [bf] (fun γ=>Gb (dF γ.2)) <|
  .leaf (Sum.inr (Sum.inr (()))) [0])
def J5 (n_0:Gc) (name_1:(List UInt8)):Nat→Option (Nat⊕(Unit⊕Unit)):=fun s=>(Q9 n_0 name_1 s).den
def Gc0 (n_0:Gc) (name_1:(List UInt8)):Nat→PS:=fun s=>(21,[(1,.str name_1),(2,.ptr 0 0),(5,jI (↑s:Int))],[(bT (Gc.enc n_0) 38)])
def GcI:(Unit⊕Unit)→Hm:=fun q=>match q with | Sum.inl o=>.ret | Sum.inr (o)=>(.exit 0)
def Gdd (n_0:Gc) (name_1:(List UInt8)):(Unit⊕Unit)→List (Nat×AV):=fun q=>match q with | Sum.inl o=>[(4,.bool true)] | Sum.inr (o)=>[]
def GdH (n_0:Gc) (name_1:(List UInt8)):(Unit⊕Unit)→List G6:=fun q=>match q with | Sum.inl o=>[(bT (Gc.enc n_0) 38)] | Sum.inr (o)=>[(bT (Gc.enc n_0) 38)]
theorem Y3 (n_0:Gc) (name_1:(List UInt8)) {s:Nat} {r:Unit⊕Unit} (h:lp (J5 n_0 name_1) s=some r):GI Tryz.prog GT 1 (.loop (GO Tryz.prog 186 [1,0,1,0,0])) (Gc0 n_0 name_1 s).st (GcI r) (PS.st (21,Gdd n_0 name_1 r,GdH n_0 name_1 r)):=
 GI.lp_ht 1 400 (Gc0 n_0 name_1) GcI (fun q=>(21,Gdd n_0 name_1 q,GdH n_0 name_1 q)) (Q9 n_0 name_1) (by intro k5; kernel_rfl) h
def Gcq (n_0:Gc) (name_1:(List UInt8)):HT Bool True:=.run (cs 3 []) (fun _=>He) <|
  .bd (lp (J5 n_0 name_1) (0:Nat)) fun qq=>.cs qq (fun o1=>.run [.fcut 1 .ret [(4,.bool true)] [(bT (Gc.enc n_0) 38)] [0] [(1,.any),(2,.any),(5,jI (↑(0:Nat):Int))] [bS]] (fun γ=>k2 (rfl:(jI 0:AV)=jI (↑(0:Nat):Int)) (Gb (Y3 n_0 name_1 (s:=(0:Nat)) (r:=Sum.inl o1) (eS γ.1.2 γ.2)))) <|
  .leaf true [])
  (fun o1=>.run [.fcut 1 (.exit 0) [] [(bT (Gc.enc n_0) 38)] [0] [(1,.any),(2,.any),(5,jI (↑(0:Nat):Int))] [bS],oc] (fun γ=>k2 (rfl:(jI 0:AV)=jI (↑(0:Nat):Int)) (Gb (Y3 n_0 name_1 (s:=(0:Nat)) (r:=Sum.inr (o1)) (eS γ.1.2 γ.2)))) <|
  .leaf false [])
def GbF (n_0:Gc) (name_1:(List UInt8)):Option Bool:=(Gcq n_0 name_1).den
theorem Gl6 (n_0:Gc) (name_1:(List UInt8)) (r:Bool) (h:GbF n_0 name_1=some r):G5 Tryz.prog GT 186 [.agg (Gc.enc n_0),.str name_1] (.bool r) []:=
 G5.of_ht 400 (Gcq n_0 name_1) (fun (r:Bool)=>.bool r) (fun (r:Bool)=>[]) (by kernel_rfl) h
def Ggc (t_0:Int):HT Bool True:=.run [oc] (fun _=>He) <|
  .sp (t_0≥(0:Int))
  (.run (oc::oa::oc::tc::oa::(cs 2 [])) (fun γ=>Gb (dT γ.2)) <|
  .leaf (decide (t_0<(68719476736:Int))) [])
  (.run (oc::oa::oc::oF::(cs 3 [])) (fun γ=>Gb (dF γ.2)) <|
  .leaf false [])
def Gdm (t_0:Int):Option Bool:=(Ggc t_0).den
theorem M6 (t_0:Int) (r:Bool) (h:Gdm t_0=some r):G5 Tryz.prog GT 187 [jI t_0] (.bool r) []:=
 G5.of_ht 400 (Ggc t_0) (fun (r:Bool)=>.bool r) (fun (r:Bool)=>[]) (by kernel_rfl) h
def Gf6 (i_0:Gn):HT Bool True:=.run (cs 2 []) (fun _=>He) <|
  .sp (i_0.From≥(0:Int))
  (.sp (i_0.From<i_0.To)
  (.run (cs 2 (oa::oc::tc::(cs 3 (oa::(cs 2 (tc::oc::oa::(cs 2 []))))))) (fun γ=>k2 (dT γ.1.2) (Gb (dT γ.2))) <|
  .leaf (decide (i_0.To≤(68719476736:Int))) [])
  (.run (cs 2 (oa::oc::tc::(cs 3 (oa::(cs 2 (oF::(cs 4 []))))))) (fun γ=>k2 (dT γ.1.2) (Gb (dF γ.2))) <|
  .leaf false []))
  (.run (cs 2 (oa::oc::oF::(cs 11 []))) (fun γ=>Gb (dF γ.2)) <|
  .leaf false [])
def GgG (i_0:Gn):Option Bool:=(Gf6 i_0).den
theorem GnT (i_0:Gn) (r:Bool) (h:GgG i_0=some r):G5 Tryz.prog GT 188 [.agg (Gn.enc i_0)] (.bool r) []:=
 G5.of_ht 400 (Gf6 i_0) (fun (r:Bool)=>.bool r) (fun (r:Bool)=>[]) (by kernel_rfl) h
def GbB (d_0:Gl):Nat→HT (Nat⊕(Int⊕Unit)) True
 | k5=>.run (cs 4 [oa]) (fun _=>He) <|
  .sp ((↑k5:Int)<(↑d_0.Offsets.length:Int))
  (.run [bt] (fun γ=>Gb (dT γ.2)) <|
  .sp ((↑k5:Int)>(0:Int))
  (.bd (d_0.Offsets[k5]?) fun x34=>.gd (GP .i64 ((↑k5:Int) - 1)) <| .gd ((0:Int)≤((↑k5:Int) - 1)) <| .bd (d_0.Offsets[(Int.toNat ((↑k5:Int) - 1))]?) fun x38=>.run [oc,oa,oc,tc,tc,tc,.op (some true) (.i k5),tc,.op (some true) (.v [jI x34.From]),tc,tc,tc,tw,.op (some true) (.i (Int.toNat ((↑k5:Int) - 1))),tc,.op (some true) (.v [jI x38.From]),ta,.op none (.b true)] (fun γ=>k2 (dT γ.1.1.1.1.2) (k2 (dT γ.1.1.1.1.2) (k2 (dT γ.1.1.1.1.2) (k2 (dT γ.1.1.1.1.2) (k2 (ir γ.1.1.1.2) (k2 (GC (f:=GD.enc) (z:=1) (fun _=>rfl) γ.1.1.1.2) (k2 (dT γ.1.1.1.1.2) (k2 (dT γ.1.1.1.1.2) (k2 (GL (f:=GD.enc) (z:=2) (j:=k5) (a:=0) (n:=1) (fun _=>rfl) γ.1.1.1.2 (by decide) rfl) (k2 (dT γ.1.1.1.1.2) (k2 (dT γ.1.1.1.1.2) (k2 (dT γ.1.1.1.1.2) (k2 (dT γ.1.1.1.1.2) (k2 γ.1.1.2 (k2 (dT γ.1.1.1.1.2) (k2 (ix γ.1.2 γ.2) (k2 (GC (f:=GD.enc) (z:=1) (fun _=>rfl) γ.2) (k2 (dT γ.1.1.1.1.2) (k2 (dT γ.1.1.1.1.2) (k2 (GL (f:=GD.enc) (z:=2) (j:=(Int.toNat ((↑k5:Int) - 1))) (a:=0) (n:=1) (fun _=>rfl) γ.2 (by decide) rfl) (k2 (dT γ.1.1.1.1.2) (Gb (dT γ.1.1.1.1.2))))))))))))))))))))))) <|
  .sp (x34.From≤x38.From)
  (.run [bt,oc] (fun γ=>Gb (dT γ.2)) <|
  .leaf (Sum.inr (Sum.inl 15)) [0])
  (.run [bf] (fun γ=>Gb (dF γ.2)) <|
  .bd (Gdm x34.From) fun r41=>.sp (r41=true)
  (.sp (x34.Delta<(-86400:Int))
  (.run (cs 3 ((.op none (.i k5))::oc::(.op none (.v [jI x34.From]))::(.ret none [.any] (.bool r41) [])::(cs 2 (oF::(cs 2 ((.op none (.i k5))::oc::(.op none (.v [jI x34.Delta]))::oa::(cs 2 (tc::(cs 7 [bt,oc]))))))))) (fun γ=>k2 (ir γ.1.1.1.1.1.1.1.2) (k2 (GC (f:=GD.enc) (z:=1) (fun _=>rfl) γ.1.1.1.1.1.1.1.2) (k2 (GL (f:=GD.enc) (z:=2) (j:=k5) (a:=0) (n:=1) (fun _=>rfl) γ.1.1.1.1.1.1.1.2 (by decide) rfl) (k2 (M6 x34.From r41 γ.1.1.2) (k2 ((Gs γ.1.2):(!r41)=false) (k2 (ir γ.1.1.1.1.1.1.1.2) (k2 (GC (f:=GD.enc) (z:=1) (fun _=>rfl) γ.1.1.1.1.1.1.1.2) (k2 (GL (f:=GD.enc) (z:=2) (j:=k5) (a:=1) (n:=1) (fun _=>rfl) γ.1.1.1.1.1.1.1.2 (by decide) rfl) (k2 (dT γ.2) (Gb (rfl:true=true))))))))))) <|
  .leaf (Sum.inr (Sum.inl 1)) [0])
  (.run (cs 3 ((.op none (.i k5))::oc::(.op none (.v [jI x34.From]))::(.ret none [.any] (.bool r41) [])::(cs 2 (oF::(cs 2 ((.op none (.i k5))::oc::(.op none (.v [jI x34.Delta]))::oa::(cs 2 (oF::(cs 2 [.op none (.i k5),oc,.op none (.v [jI x34.Delta]),oa,oc]))))))))) (fun γ=>k2 (ir γ.1.1.1.1.1.1.1.2) (k2 (GC (f:=GD.enc) (z:=1) (fun _=>rfl) γ.1.1.1.1.1.1.1.2) (k2 (GL (f:=GD.enc) (z:=2) (j:=k5) (a:=0) (n:=1) (fun _=>rfl) γ.1.1.1.1.1.1.1.2 (by decide) rfl) (k2 (M6 x34.From r41 γ.1.1.2) (k2 ((Gs γ.1.2):(!r41)=false) (k2 (ir γ.1.1.1.1.1.1.1.2) (k2 (GC (f:=GD.enc) (z:=1) (fun _=>rfl) γ.1.1.1.1.1.1.1.2) (k2 (GL (f:=GD.enc) (z:=2) (j:=k5) (a:=1) (n:=1) (fun _=>rfl) γ.1.1.1.1.1.1.1.2 (by decide) rfl) (k2 (dF γ.2) (k2 (ir γ.1.1.1.1.1.1.1.2) (k2 (GC (f:=GD.enc) (z:=1) (fun _=>rfl) γ.1.1.1.1.1.1.1.2) (Gb (GL (f:=GD.enc) (z:=2) (j:=k5) (a:=1) (n:=1) (fun _=>rfl) γ.1.1.1.1.1.1.1.2 (by decide) rfl))))))))))))) <|
  .sp (x34.Delta>(86400:Int))
  (.run [bt,oc] (fun γ=>Gb (dT γ.2)) <|
  .leaf (Sum.inr (Sum.inl 1)) [0])
  (.run [bf] (fun γ=>Gb (dF γ.2)) <|
  .gd (GP .i64 ((↑k5:Int)+1)) <| .run [oc,ow,oc] (fun γ=>Gb γ.2) <|
  .leaf (Sum.inl (k5+1)) [0])))
  (.run (cs 3 ((.op none (.i k5))::oc::(.op none (.v [jI x34.From]))::(.ret none [.any] (.bool r41) [])::(cs 2 (tc::(cs 16 [bt,oc]))))) (fun γ=>k2 (ir γ.1.1.1.1.1.1.2) (k2 (GC (f:=GD.enc) (z:=1) (fun _=>rfl) γ.1.1.1.1.1.1.2) (k2 (GL (f:=GD.enc) (z:=2) (j:=k5) (a:=0) (n:=1) (fun _=>rfl) γ.1.1.1.1.1.1.2 (by decide) rfl) (k2 (M6 x34.From r41 γ.1.2) (k2 ((Gu (eq_false_of_ne_true γ.2)):(!r41)=true) (Gb (rfl:true=true))))))) <|
  .leaf (Sum.inr (Sum.inl 1)) [0])))
  (.run [oc,oa,oc,oF,oF,oF,oF,oF,oF,oF,oF,oF,oF,oF,oF,oF,oF,.op none (.b false),bf] (fun γ=>k2 (dF γ.2) (k2 (dF γ.2) (k2 (dF γ.2) (k2 (dF γ.2) (k2 (dF γ.2) (k2 (dF γ.2) (k2 (dF γ.2) (k2 (dF γ.2) (k2 (dF γ.2) (k2 (dF γ.2) (k2 (dF γ.2) (k2 (dF γ.2) (k2 (dF γ.2) (k2 (dF γ.2) (k2 (dF γ.2) (Gb (rfl:false=false))))))))))))))))) <|
  .bd (d_0.Offsets[k5]?) fun x47=>.bd (Gdm x47.From) fun r49=>.sp (r49=true)
  (.sp (x47.Delta<(-86400:Int))
  (.run (cs 3 ((.op none (.i k5))::oc::(.op none (.v [jI x47.From]))::(.ret none [.any] (.bool r49) [])::(cs 2 (oF::(cs 2 ((.op none (.i k5))::oc::(.op none (.v [jI x47.Delta]))::oa::(cs 2 (tc::(cs 7 [bt,oc]))))))))) (fun γ=>k2 (ir γ.1.1.1.2) (k2 (GC (f:=GD.enc) (z:=1) (fun _=>rfl) γ.1.1.1.2) (k2 (GL (f:=GD.enc) (z:=2) (j:=k5) (a:=0) (n:=1) (fun _=>rfl) γ.1.1.1.2 (by decide) rfl) (k2 (M6 x47.From r49 γ.1.1.2) (k2 ((Gs γ.1.2):(!r49)=false) (k2 (ir γ.1.1.1.2) (k2 (GC (f:=GD.enc) (z:=1) (fun _=>rfl) γ.1.1.1.2) (k2 (GL (f:=GD.enc) (z:=2) (j:=k5) (a:=1) (n:=1) (fun _=>rfl) γ.1.1.1.2 (by decide) rfl) (k2 (dT γ.2) (Gb (rfl:true=true))))))))))) <|
  .leaf (Sum.inr (Sum.inl 1)) [0])
  (.run (cs 3 ((.op none (.i k5))::oc::(.op none (.v [jI x47.From]))::(.ret none [.any] (.bool r49) [])::(cs 2 (oF::(cs 2 ((.op none (.i k5))::oc::(.op none (.v [jI x47.Delta]))::oa::(cs 2 (oF::(cs 2 [.op none (.i k5),oc,.op none (.v [jI x47.Delta]),oa,oc]))))))))) (fun γ=>k2 (ir γ.1.1.1.2) (k2 (GC (f:=GD.enc) (z:=1) (fun _=>rfl) γ.1.1.1.2) (k2 (GL (f:=GD.enc) (z:=2) (j:=k5) (a:=0) (n:=1) (fun _=>rfl) γ.1.1.1.2 (by decide) rfl) (k2 (M6 x47.From r49 γ.1.1.2) (k2 ((Gs γ.1.2):(!r49)=false) (k2 (ir γ.1.1.1.2) (k2 (GC (f:=GD.enc) (z:=1) (fun _=>rfl) γ.1.1.1.2) (k2 (GL (f:=GD.enc) (z:=2) (j:=k5) (a:=1) (n:=1) (fun _=>rfl) γ.1.1.1.2 (by decide) rfl) (k2 (dF γ.2) (k2 (ir γ.1.1.1.2) (k2 (GC (f:=GD.enc) (z:=1) (fun _=>rfl) γ.1.1.1.2) (Gb (GL (f:=GD.enc) (z:=2) (j:=k5) (a:=1) (n:=1) (fun _=>rfl) γ.1.1.1.2 (by decide) rfl))))))))))))) <|
  .sp (x47.Delta>(86400:Int))
  (.run [bt,oc] (fun γ=>Gb (dT γ.2)) <|
  .leaf (Sum.inr (Sum.inl 1)) [0])
  (.run [bf] (fun γ=>Gb (dF γ.2)) <|
  .gd (GP .i64 ((↑k5:Int)+1)) <| .run [oc,ow,oc] (fun γ=>Gb γ.2) <|
  .leaf (Sum.inl (k5+1)) [0])))
  (.run (cs 3 ((.op none (.i k5))::oc::(.op none (.v [jI x47.From]))::(.ret none [.any] (.bool r49) [])::(cs 2 (tc::(cs 16 [bt,oc]))))) (fun γ=>k2 (ir γ.1.1.2) (k2 (GC (f:=GD.enc) (z:=1) (fun _=>rfl) γ.1.1.2) (k2 (GL (f:=GD.enc) (z:=2) (j:=k5) (a:=0) (n:=1) (fun _=>rfl) γ.1.1.2 (by decide) rfl) (k2 (M6 x47.From r49 γ.1.2) (k2 ((Gu (eq_false_of_ne_true γ.2)):(!r49)=true) (Gb (rfl:true=true))))))) <|
  .leaf (Sum.inr (Sum.inl 1)) [0])))
  (.run [bf] (fun γ=>Gb (dF γ.2)) <|
  .leaf (Sum.inr (Sum.inr (()))) [0])
def QG (d_0:Gl):Nat→Option (Nat⊕(Int⊕Unit)):=fun s=>(GbB d_0 s).den
def GlS (d_0:Gl):Nat→PS:=fun s=>(113,[(2,.ptr 0 0),(5,jI (↑s:Int))],[(bT (Gl.enc d_0) 166)])
def GlB:(Int⊕Unit)→Hm:=fun q=>match q with | Sum.inl o=>.ret | Sum.inr (o)=>(.exit 0)
def GlT (d_0:Gl):(Int⊕Unit)→List (Nat×AV):=fun q=>match q with | Sum.inl o=>[(4,jI o)] | Sum.inr (o)=>[(2,.ptr 0 0)]
def GlR (d_0:Gl):(Int⊕Unit)→List G6:=fun q=>match q with | Sum.inl o=>[(bT (Gl.enc d_0) 166)] | Sum.inr (o)=>[(bT (Gl.enc d_0) 166)]
theorem GeQ (d_0:Gl) {s:Nat} {r:Int⊕Unit} (h:lp (QG d_0) s=some r):GI Tryz.prog GT 1 (.loop (GO Tryz.prog 116 [1,1,1,0,1,0,0])) (GlS d_0 s).st (GlB r) (PS.st (113,GlT d_0 r,GlR d_0 r)):=
 GI.lp_ht 1 400 (GlS d_0) GlB (fun q=>(113,GlT d_0 q,GlR d_0 q)) (GbB d_0) (by intro k5; kernel_rfl) h
def Zh (d_0:Gl):Nat→HT (Nat⊕(Int⊕Unit)) True
 | k6=>.run (cs 4 [oa]) (fun _=>He) <|
  .sp ((↑k6:Int)<(↑d_0.Down.length:Int))
  (.run [bt] (fun γ=>Gb (dT γ.2)) <|
  .bd (d_0.Down[k6]?) fun x71=>.bd (GgG x71) fun r73=>.run (cs 3 [.op none (.i k6),.op none (.v [jI x71.From,jI x71.To]),.ret none [.any] (.bool r73) [],oc]) (fun γ=>k2 (ir γ.1.2) (k2 (GC (f:=Gn.enc) (z:=1) (fun _=>rfl) γ.1.2) (k2 (GU (f:=Gn.enc) (z:=2) (j:=k6) (fun _=>rfl) γ.1.2 rfl) (Gb (GnT x71 r73 γ.2))))) <|
  .sp (r73=true)
  (.run [bf] (fun γ=>Gb ((Gs γ.2):(!r73)=false)) <|
  .sp ((↑k6:Int)>(0:Int))
  (.gd (GP .i64 ((↑k6:Int) - 1)) <| .gd ((0:Int)≤((↑k6:Int) - 1)) <| .bd (d_0.Down[(Int.toNat ((↑k6:Int) - 1))]?) fun x79=>.run [oc,oa,oc,tc,tc,tc,.op (some true) (.i k6),tc,.op (some true) (.v [jI x71.From]),tc,tc,tc,tw,.op (some true) (.i (Int.toNat ((↑k6:Int) - 1))),tc,.op (some true) (.v [jI x79.To]),ta,.op none (.b true)] (fun γ=>k2 (dT γ.1.1.1.2) (k2 (dT γ.1.1.1.2) (k2 (dT γ.1.1.1.2) (k2 (dT γ.1.1.1.2) (k2 (ir γ.1.1.1.1.1.1.2) (k2 (GC (f:=Gn.enc) (z:=1) (fun _=>rfl) γ.1.1.1.1.1.1.2) (k2 (dT γ.1.1.1.2) (k2 (dT γ.1.1.1.2) (k2 (GL (f:=Gn.enc) (z:=2) (j:=k6) (a:=0) (n:=1) (fun _=>rfl) γ.1.1.1.1.1.1.2 (by decide) rfl) (k2 (dT γ.1.1.1.2) (k2 (dT γ.1.1.1.2) (k2 (dT γ.1.1.1.2) (k2 (dT γ.1.1.1.2) (k2 γ.1.1.2 (k2 (dT γ.1.1.1.2) (k2 (ix γ.1.2 γ.2) (k2 (GC (f:=Gn.enc) (z:=1) (fun _=>rfl) γ.2) (k2 (dT γ.1.1.1.2) (k2 (dT γ.1.1.1.2) (k2 (GL (f:=Gn.enc) (z:=2) (j:=(Int.toNat ((↑k6:Int) - 1))) (a:=1) (n:=1) (fun _=>rfl) γ.2 (by decide) rfl) (k2 (dT γ.1.1.1.2) (Gb (dT γ.1.1.1.2))))))))))))))))))))))) <|
  .sp (x71.From≤x79.To)
  (.run [bt,oc] (fun γ=>Gb (dT γ.2)) <|
  .leaf (Sum.inr (Sum.inl 15)) [0])
  (.run [bf] (fun γ=>Gb (dF γ.2)) <|
  .gd (GP .i64 ((↑k6:Int)+1)) <| .run [oc,ow,oc] (fun γ=>Gb γ.2) <|
  .leaf (Sum.inl (k6+1)) [0]))
  (.run [oc,oa,oc,oF,oF,oF,oF,oF,oF,oF,oF,oF,oF,oF,oF,oF,oF,.op none (.b false),bf] (fun γ=>k2 (dF γ.2) (k2 (dF γ.2) (k2 (dF γ.2) (k2 (dF γ.2) (k2 (dF γ.2) (k2 (dF γ.2) (k2 (dF γ.2) (k2 (dF γ.2) (k2 (dF γ.2) (k2 (dF γ.2) (k2 (dF γ.2) (k2 (dF γ.2) (k2 (dF γ.2) (k2 (dF γ.2) (k2 (dF γ.2) (Gb (rfl:false=false))))))))))))))))) <|
  .gd (GP .i64 ((↑k6:Int)+1)) <| .run [oc,ow,oc] (fun γ=>Gb γ.2) <|
  .leaf (Sum.inl (k6+1)) [0]))
  (.run [bt,oc] (fun γ=>Gb ((Gu (eq_false_of_ne_true γ.2)):(!r73)=true)) <|
  .leaf (Sum.inr (Sum.inl 12)) [0]))
  (.run [bf] (fun γ=>Gb (dF γ.2)) <|
  .leaf (Sum.inr (Sum.inr (()))) [0])
def MX (d_0:Gl):Nat→Option (Nat⊕(Int⊕Unit)):=fun s=>(Zh d_0 s).den
def Gi8 (d_0:Gl):Nat→PS:=fun s=>(113,[(2,.ptr 0 0),(6,jI (↑s:Int))],[(bT (Gl.enc d_0) 166)])
def Gju:(Int⊕Unit)→Hm:=fun q=>match q with | Sum.inl o=>.ret | Sum.inr (o)=>(.exit 2)
def GjP (d_0:Gl):(Int⊕Unit)→List (Nat×AV):=fun q=>match q with | Sum.inl o=>[(4,jI o)] | Sum.inr (o)=>[]
def Gjs (d_0:Gl):(Int⊕Unit)→List G6:=fun q=>match q with | Sum.inl o=>[(bT (Gl.enc d_0) 166)] | Sum.inr (o)=>[(bT (Gl.enc d_0) 166)]
theorem Ges (d_0:Gl) {s:Nat} {r:Int⊕Unit} (h:lp (MX d_0) s=some r):GI Tryz.prog GT 1 (.loop (GO Tryz.prog 116 [1,1,1,1,0,1,0,0])) (Gi8 d_0 s).st (Gju r) (PS.st (113,GjP d_0 r,Gjs d_0 r)):=
 GI.lp_ht 1 400 (Gi8 d_0) Gju (fun q=>(113,GjP d_0 q,Gjs d_0 q)) (Zh d_0) (by intro k6; kernel_rfl) h
def GnI (d_0:Gl) (n_1:Gc):HT Int True:=.run (cs 3 []) (fun _=>He) <|
  .bd (GbF n_1 d_0.Point) fun r1=>.run (cs 3 [.ret none [.any,.any] (.bool r1) [],oc]) (fun γ=>Gb (Gl6 n_1 d_0.Point r1 γ.2)) <|
  .sp (r1=true)
  (.run [bf] (fun γ=>Gb ((Gs γ.2):(!r1)=false)) <|
  .sp (d_0.Kind<(1:Int))
  (.run (cs 2 (oa::oc::tc::(cs 13 [bt,oc]))) (fun γ=>k2 (dT γ.2) (Gb (rfl:true=true))) <|
  .leaf 1 [])
  (.sp (d_0.Kind>(3:Int))
  (.run (cs 2 (oa::oc::oF::oc::oa::(cs 2 (tc::(cs 8 [bt,oc]))))) (fun γ=>k2 (dF γ.1.2) (k2 (dT γ.2) (Gb (rfl:true=true)))) <|
  .leaf 1 [])
  (.sp (d_0.Lane<(0:Int))
  (.run (cs 2 (oa::oc::oF::oc::oa::(cs 2 (oF::oc::oa::(cs 2 (tc::(cs 3 [bt,oc]))))))) (fun γ=>k2 (dF γ.1.1.2) (k2 (dF γ.1.2) (k2 (dT γ.2) (Gb (rfl:true=true))))) <|
  .leaf 1 [])
  (.run (cs 2 (oa::oc::oF::oc::oa::(cs 2 (oF::oc::oa::(cs 2 [oF,oc,oa,oc]))))) (fun γ=>k2 (dF γ.1.1.2) (k2 (dF γ.1.2) (Gb (dF γ.2)))) <|
  .sp (d_0.Lane>(15:Int))
  (.run [bt,oc] (fun γ=>Gb (dT γ.2)) <|
  .leaf 1 [])
  (.run [bf,oc] (fun γ=>Gb (dF γ.2)) <|
  .bd (lp (QG d_0) (0:Nat)) fun qq=>.cs qq (fun o8=>.run [.fcut 1 .ret [(4,jI o8)] [(bT (Gl.enc d_0) 166)] [0] [(2,.any),(5,jI (↑(0:Nat):Int))] [bS]] (fun γ=>k2 (rfl:(jI 0:AV)=jI (↑(0:Nat):Int)) (Gb (GeQ d_0 (s:=(0:Nat)) (r:=Sum.inl o8) (eS γ.1.2 γ.2)))) <|
  .leaf o8 [])
  (fun o8=>.run [.fcut 1 (.exit 0) [(2,.ptr 0 0)] [(bT (Gl.enc d_0) 166)] [0] [(2,.any),(5,jI (↑(0:Nat):Int))] [bS],oc] (fun γ=>k2 (rfl:(jI 0:AV)=jI (↑(0:Nat):Int)) (Gb (GeQ d_0 (s:=(0:Nat)) (r:=Sum.inr (o8)) (eS γ.1.2 γ.2)))) <|
  .bd (lp (MX d_0) (0:Nat)) fun qq=>.cs qq (fun o55=>.run [.fcut 1 .ret [(4,jI o55)] [(bT (Gl.enc d_0) 166)] [0] [(2,.any),(6,jI (↑(0:Nat):Int))] [bS]] (fun γ=>k2 (rfl:(jI 0:AV)=jI (↑(0:Nat):Int)) (Gb (Ges d_0 (s:=(0:Nat)) (r:=Sum.inl o55) (eS γ.1.2 γ.2)))) <|
  .leaf o55 [])
  (fun o55=>.run [.fcut 1 (.exit 2) [] [(bT (Gl.enc d_0) 166)] [0] [(2,.any),(6,jI (↑(0:Nat):Int))] [bS],oc] (fun γ=>k2 (rfl:(jI 0:AV)=jI (↑(0:Nat):Int)) (Gb (Ges d_0 (s:=(0:Nat)) (r:=Sum.inr (o55)) (eS γ.1.2 γ.2)))) <|
  .leaf 0 [])))))))
  (.run [bt,oc] (fun γ=>Gb ((Gu (eq_false_of_ne_true γ.2)):(!r1)=true)) <|
  .leaf 16 [])
def Gpo (d_0:Gl) (n_1:Gc):Option Int:=(GnI d_0 n_1).den
theorem GrI (d_0:Gl) (n_1:Gc) (r:Int) (h:Gpo d_0 n_1=some r):G5 Tryz.prog GT 116 [.agg (Gl.enc d_0),.agg (Gc.enc n_1)] (jI r) []:=
 G5.of_ht 400 (GnI d_0 n_1) (fun (r:Int)=>jI r) (fun (r:Int)=>[]) (by kernel_rfl) h
def UC (l_0:(List Gl)) (n_1:Gc) (k5:Nat):Nat→HT (Nat⊕(Unit⊕Unit)) True
 | k6=>.run (cs 2 [oa]) (fun _=>He) <|
  .sp ((↑k6:Int)<(↑k5:Int))
  (.run [bt] (fun γ=>Gb (dT γ.2)) <|
  .bd (l_0[k6]?) fun x43=>.bd (l_0[k5]?) fun x45=>.run (cs 2 ((.op none (.i k6))::oc::(.op none (.v [.str x43.Name]))::(cs 2 [.op none (.i k5),oc,.op none (.v [.str x45.Name]),oa]))) (fun γ=>k2 (ir γ.1.2) (k2 (GC (f:=Gl.enc) (z:=5) (fun _=>rfl) γ.1.2) (k2 (GL (f:=Gl.enc) (z:=6) (j:=k6) (a:=0) (n:=1) (fun _=>rfl) γ.1.2 (by decide) rfl) (k2 (ir γ.2) (k2 (GC (f:=Gl.enc) (z:=5) (fun _=>rfl) γ.2) (Gb (GL (f:=Gl.enc) (z:=6) (j:=k5) (a:=0) (n:=1) (fun _=>rfl) γ.2 (by decide) rfl))))))) <|
  .sp (x43.Name=x45.Name)
  (.run [bt,oc] (fun γ=>Gb (Gp γ.2)) <|
  .leaf (Sum.inr (Sum.inl ())) [0])
  (.run [bf] (fun γ=>Gb (Gw γ.2)) <|
  .gd (GP .i64 ((↑k6:Int)+1)) <| .run [oc,ow,oc] (fun γ=>Gb γ.2) <|
  .leaf (Sum.inl (k6+1)) [0]))
  (.run [bf] (fun γ=>Gb (dF γ.2)) <|
  .leaf (Sum.inr (Sum.inr (()))) [0])
def KI (l_0:(List Gl)) (n_1:Gc) (k5:Nat):Nat→Option (Nat⊕(Unit⊕Unit)):=fun s=>(UC l_0 n_1 k5 s).den
def Gfb (l_0:(List Gl)) (n_1:Gc) (k5:Nat):Nat→PS:=fun s=>(49,[(0,.lst (fl Gl.enc l_0) l_0.length),(3,.ptr 0 0),(5,jI (↑k5:Int)),(6,jI (↑s:Int))],[(bT (Gc.enc n_1) 38)])
def Gfm:(Unit⊕Unit)→Hm:=fun q=>match q with | Sum.inl o=>.ret | Sum.inr (o)=>(.exit 2)
def ZN (l_0:(List Gl)) (n_1:Gc) (k5:Nat):(Unit⊕Unit)→List (Nat×AV):=fun q=>match q with | Sum.inl o=>[(4,jI 9)] | Sum.inr (o)=>[(0,.lst (fl Gl.enc l_0) l_0.length),(3,.ptr 0 0),(5,jI (↑k5:Int))]
def Gfs (l_0:(List Gl)) (n_1:Gc) (k5:Nat):(Unit⊕Unit)→List G6:=fun q=>match q with | Sum.inl o=>[(bT (Gc.enc n_1) 38)] | Sum.inr (o)=>[(bT (Gc.enc n_1) 38)]
theorem Gbs (l_0:(List Gl)) (n_1:Gc) (k5:Nat) {s:Nat} {r:Unit⊕Unit} (h:lp (KI l_0 n_1 k5) s=some r):GI Tryz.prog GT 1 (.loop (GO Tryz.prog 51 [1,1,0,1,0,0,1,0,0,1,0,1,0,0])) (Gfb l_0 n_1 k5 s).st (Gfm r) (PS.st (49,ZN l_0 n_1 k5 r,Gfs l_0 n_1 k5 r)):=
 GI.lp_ht 1 400 (Gfb l_0 n_1 k5) Gfm (fun q=>(49,ZN l_0 n_1 k5 q,Gfs l_0 n_1 k5 q)) (UC l_0 n_1 k5) (by intro k6; kernel_rfl) h
def Xu (l_0:(List Gl)) (n_1:Gc):Nat→HT (Nat⊕(Int⊕Unit)) True
 | k5=>.run (cs 3 [oa]) (fun _=>He) <|
  .sp ((↑k5:Int)<(↑l_0.length:Int))
  (.run [bt] (fun γ=>Gb (dT γ.2)) <|
  .bd (l_0[k5]?) fun x29=>.bd (GgV x29.Name) fun r31=>.run (cs 2 [.op none (.i k5),oc,.op none (.v [.str x29.Name]),.ret none [.any] (.bool r31) [],oc]) (fun γ=>k2 (ir γ.1.2) (k2 (GC (f:=Gl.enc) (z:=5) (fun _=>rfl) γ.1.2) (k2 (GL (f:=Gl.enc) (z:=6) (j:=k5) (a:=0) (n:=1) (fun _=>rfl) γ.1.2 (by decide) rfl) (Gb (Gn0 x29.Name r31 γ.2))))) <|
  .sp (r31=true)
  (.run [bf,oc] (fun γ=>Gb ((Gs γ.2):(!r31)=false)) <|
  .bd (lp (KI l_0 n_1 k5) (0:Nat)) fun qq=>.cs qq (fun o34=>.run [.fcut 1 .ret [(4,jI 9)] [(bT (Gc.enc n_1) 38)] [0] [(0,.any),(3,.any),(5,.any),(6,jI (↑(0:Nat):Int))] [bS]] (fun γ=>k2 (rfl:(jI 0:AV)=jI (↑(0:Nat):Int)) (Gb (Gbs l_0 n_1 k5 (s:=(0:Nat)) (r:=Sum.inl o34) (eS γ.1.2 γ.2)))) <|
  .leaf (Sum.inr (Sum.inl 9)) [0])
  (fun o34=>.run [.fcut 1 (.exit 2) (ZN l_0 n_1 k5 (Sum.inr (o34))) [(bT (Gc.enc n_1) 38)] [0] [(0,.any),(3,.any),(5,.any),(6,jI (↑(0:Nat):Int))] [bS]] (fun γ=>k2 (rfl:(jI 0:AV)=jI (↑(0:Nat):Int)) (Gb (Gbs l_0 n_1 k5 (s:=(0:Nat)) (r:=Sum.inr (o34)) (eS γ.1.2 γ.2)))) <|
  .bd (Gpo x29 n_1) fun r49=>.run (cs 2 ((.op none (.i k5))::(.op none (.v [.str x29.Name,.str x29.Point,jI x29.Kind,jI x29.Lane,.lst (fl GD.enc x29.Offsets) x29.Offsets.length,.lst (fl Gn.enc x29.Down) x29.Down.length]))::oc::(.ret none [.any,.any] (jI r49) [])::(cs 2 [oa]))) (fun γ=>k2 (ir γ.1.1.1.1.1.2) (k2 (GC (f:=Gl.enc) (z:=5) (fun _=>rfl) γ.1.1.1.1.1.2) (k2 (GU (f:=Gl.enc) (z:=6) (j:=k5) (fun _=>rfl) γ.1.1.1.1.1.2 rfl) (Gb (GrI x29 n_1 r49 γ.2))))) <|
  .sp (r49=(0:Int))
  (.run [bf] (fun γ=>Gb (Gs (Gp γ.2))) <|
  .gd (GP .i64 ((↑k5:Int)+1)) <| .run [oc,ow,oc] (fun γ=>Gb γ.2) <|
  .leaf (Sum.inl (k5+1)) [0])
  (.run (bt::(cs 2 [])) (fun γ=>Gb (Gu (Gw γ.2))) <|
  .leaf (Sum.inr (Sum.inl r49)) [0])))
  (.run [bt,oc] (fun γ=>Gb ((Gu (eq_false_of_ne_true γ.2)):(!r31)=true)) <|
  .leaf (Sum.inr (Sum.inl 6)) [0]))
  (.run [bf] (fun γ=>Gb (dF γ.2)) <|
  .leaf (Sum.inr (Sum.inr (()))) [0])
def Mo (l_0:(List Gl)) (n_1:Gc):Nat→Option (Nat⊕(Int⊕Unit)):=fun s=>(Xu l_0 n_1 s).den
def Ghv (l_0:(List Gl)) (n_1:Gc):Nat→PS:=fun s=>(49,[(0,.lst (fl Gl.enc l_0) l_0.length),(3,.ptr 0 0),(5,jI (↑s:Int))],[(bT (Gc.enc n_1) 38)])
def Gid:(Int⊕Unit)→Hm:=fun q=>match q with | Sum.inl o=>.ret | Sum.inr (o)=>(.exit 0)
def Gg0 (l_0:(List Gl)) (n_1:Gc):(Int⊕Unit)→List (Nat×AV):=fun q=>match q with | Sum.inl o=>[(4,jI o)] | Sum.inr (o)=>[]
def GhO (l_0:(List Gl)) (n_1:Gc):(Int⊕Unit)→List G6:=fun q=>match q with | Sum.inl o=>[(bT (Gc.enc n_1) 38)] | Sum.inr (o)=>[(bT (Gc.enc n_1) 38)]
theorem GcX (l_0:(List Gl)) (n_1:Gc) {s:Nat} {r:Int⊕Unit} (h:lp (Mo l_0 n_1) s=some r):GI Tryz.prog GT 1 (.loop (GO Tryz.prog 51 [1,1,0,1,0,0])) (Ghv l_0 n_1 s).st (Gid r) (PS.st (49,Gg0 l_0 n_1 r,GhO l_0 n_1 r)):=
 GI.lp_ht 1 400 (Ghv l_0 n_1) Gid (fun q=>(49,Gg0 l_0 n_1 q,GhO l_0 n_1 q)) (Xu l_0 n_1) (by intro k5; kernel_rfl) h
def GiO (l_0:(List Gl)) (n_1:Gc):HT Int True:=.run (cs 4 [oa]) (fun _=>He) <|
  .sp ((↑l_0.length:Int)>(1024:Int))
  (.run [bt,oc] (fun γ=>Gb (dT γ.2)) <|
  .leaf 3 [])
  (.run [bf,oc] (fun γ=>Gb (dF γ.2)) <|
  .bd (lp (Mo l_0 n_1) (0:Nat)) fun qq=>.cs qq (fun o2=>.run [.fcut 1 .ret [(4,jI o2)] [(bT (Gc.enc n_1) 38)] [0] [(0,.any),(3,.any),(5,jI (↑(0:Nat):Int))] [bS]] (fun γ=>k2 (rfl:(jI 0:AV)=jI (↑(0:Nat):Int)) (Gb (GcX l_0 n_1 (s:=(0:Nat)) (r:=Sum.inl o2) (eS γ.1.2 γ.2)))) <|
  .leaf o2 [])
  (fun o2=>.run [.fcut 1 (.exit 0) [] [(bT (Gc.enc n_1) 38)] [0] [(0,.any),(3,.any),(5,jI (↑(0:Nat):Int))] [bS],oc] (fun γ=>k2 (rfl:(jI 0:AV)=jI (↑(0:Nat):Int)) (Gb (GcX l_0 n_1 (s:=(0:Nat)) (r:=Sum.inr (o2)) (eS γ.1.2 γ.2)))) <|
  .leaf 0 []))
def GeN (l_0:(List Gl)) (n_1:Gc):Option Int:=(GiO l_0 n_1).den
theorem Zs (l_0:(List Gl)) (n_1:Gc) (r:Int) (h:GeN l_0 n_1=some r):G5 Tryz.prog GT 51 [.lst (fl Gl.enc l_0) l_0.length,.agg (Gc.enc n_1)] (jI r) []:=
 G5.of_ht 400 (GiO l_0 n_1) (fun (r:Int)=>jI r) (fun (r:Int)=>[]) (by kernel_rfl) h
end
set_option maxHeartbeats 4000000
noncomputable section
def Gqh (t:Int):Bool:=decide (0≤t∧t<68719476736)
def Rk (i:Gn):Bool:=decide (0≤i.From∧i.From<i.To∧i.To≤68719476736)
theorem GnG (t:Int):X2 t=some (Gqh t):=by
 simp only [X2,Gct,d1,d2,d3,d6,Gqh]; grind
theorem Gl1 (t:Int):Gdm t=some (Gqh t):=by
 simp only [Gdm,Ggc,d1,d2,d3,d6,Gqh]; grind
theorem RH (i:Gn):Jz i=some (Rk i):=by
 simp only [Jz,Gd9,d1,d2,d3,d6,Rk]; grind
theorem Gmg (i:Gn):GgG i=some (Rk i):=by
 simp only [GgG,Gf6,d1,d2,d3,d6,Rk]; grind
def GkX (l:List GD) (k:Nat) (x:GD):Option Int:=
 if 0<k∧x.From≤((l[k - 1]?).map (·.From)).getD 0 then some 15 else if Gqh x.From=false∨x.Delta < -86400∨x.Delta>86400 then some 1 else none
def Gle (l:List Gn) (k:Nat) (x:Gn):Option Int:=
 if Rk x=false then some 12 else if 0<k∧x.From≤((l[k - 1]?).map (·.To)).getD 0 then some 15 else none
theorem rd {α:Type} {l:List α} {k:Nat} {x:α} (hl:Sm l) (hx:l[k]?=some x):k<l.length∧GP .i64 ((k:Int)+1)∧GP .i64 ((k:Int) - 1)∧(k:Int)<(l.length:Int)∧l[k - 1]?=some (l[k - 1]'(by have:=Hg hx; omega))∧((k:Int) - 1).toNat=k - 1:=by
 have hk:=Hg hx
 exact ⟨hk,sm1 hl hk,KV (by omega) (by unfold Sm at hl; omega),by omega,List.getElem?_eq_getElem (by omega),by omega⟩
theorem Gks (l:List GD) (hl:Sm l):lp (Jf l) 0=some (HL (GK (GkX l) 0 l)):=by
 refine GQ (fun k x hx=>?_) ?_
 ·obtain ⟨hk,i1,i2,hkl,h1,h2⟩:=rd hl hx
  simp only [Jf,Mb,d1,d2,d3,d4,d5,d6,d7,eN,eM,hx,Option.bind_some,GnG,h2,h1,i1,i2,if_true,hkl,GkX]
  clear i1 i2 hl
  grind [KC]
 ·simp only [Jf,Mb,d3,d6,d1]
  rw [if_neg (by omega)]
theorem Gke (l:List GD) (hl:Sm l):QL l=some ((GK (GkX l) 0 l).getD 0):=by
 simp only [QL,V2,d1,d2,d3,d4,d5,d6,d7,Gks l hl]
 cases GK (GkX l) 0 l <;> rfl
theorem Gj5 (l:List Gn) (hl:Sm l):lp (Jh l) 0=some (HL (GK (Gle l) 0 l)):=by
 refine GQ (fun k x hx=>?_) ?_
 ·obtain ⟨hk,i1,i2,hkl,h1,h2⟩:=rd hl hx
  simp only [Jh,K7,d1,d2,d3,d4,d5,d6,d7,eN,eM,hx,Option.bind_some,RH,h2,h1,i1,i2,if_true,hkl,Gle]
  clear i1 i2 hl
  grind [KC]
 ·simp only [Jh,K7,d3,d6,d1]
  rw [if_neg (by omega)]
theorem GjM (l:List Gn) (hl:Sm l):QN l=some ((GK (Gle l) 0 l).getD 0):=by
 simp only [QN,V1,d1,d2,d3,d4,d5,d6,d7,Gj5 l hl]
 cases GK (Gle l) 0 l <;> rfl
def GtI (name:List UInt8) (y:Gq):Bool:=decide (y.Name=name)
def GsC (n:Gc) (x:Gl):Option Int:=
 if Yx n.Points x.Point=false then some 16 else if x.Kind<1∨x.Kind>3∨x.Lane<0∨x.Lane>15 then some 1
 else (GK (GkX x.Offsets) 0 x.Offsets).or (GK (Gle x.Down) 0 x.Down)
def GnW (l:List Gl) (n:Gc) (k:Nat) (x:Gl):Option Int:=
 if HE x.Name=false then some 6 else if (l.take k).any (fun y=>decide (y.Name=x.Name)) then some 9 else GsC n x
theorem Gv8 {l:List GD} {k:Nat} {x:GD} {r:Int} (h:GkX l k x=some r):r=15∨r=1:=by unfold GkX at h; grind
theorem Gv9 {l:List Gn} {k:Nat} {x:Gn} {r:Int} (h:Gle l k x=some r):r=15∨r=12:=by unfold Gle at h; grind
theorem GgF (l:List GD):GK (GkX l) 0 l=none∨GK (GkX l) 0 l=some 15∨GK (GkX l) 0 l=some 1:=by
 cases h:GK (GkX l) 0 l with
 | none=>exact .inl rfl
 | some r=>obtain ⟨i,x,_,h2⟩:=Qa h; rcases Gv8 h2 with rfl | rfl <;> simp
theorem GgM (l:List Gn):GK (Gle l) 0 l=none∨GK (Gle l) 0 l=some 15∨GK (Gle l) 0 l=some 12:=by
 cases h:GK (Gle l) 0 l with
 | none=>exact .inl rfl
 | some r=>obtain ⟨i,x,_,h2⟩:=Qa h; rcases Gv9 h2 with rfl | rfl <;> simp
theorem GmQ (n:Gc) (hn:Sm n.Points) (x:Gl):lp (HN n x) 0=some (HL (GK (ixG (GtI x.Point)) 0 n.Points)):=by
 refine GQ (fun k y hy=>?_) ?_
 ·obtain ⟨hk,i1,i2,hkl,h1,h2⟩:=rd hn hy
  simp only [HN,K6,d1,d2,d3,d4,d5,d6,d7,eN,eM,hy,Option.bind_some,i1,if_true,hkl,ixG,GtI,decide_eq_true_eq]
  by_cases e:y.Name=x.Point <;> simp only [e,if_true,if_false,KC]
 ·simp only [HN,K6,d3,d6,d1]
  rw [if_neg (by omega)]
theorem Gt1 (l:List Gq) (name:List UInt8):Yx l name=(l.find? (GtI name)).isSome:=by
 unfold Yx
 induction l with
 | nil=>rfl
 | cons x l ih=>simp only [List.any_cons,List.find?_cons,ih,GtI]; cases decide (x.Name=name) <;> simp [GtI]
def Gua (x:Gl):Prop:=Sm x.Offsets∧Sm x.Down
theorem Gl8 (l:List Gl) (n:Gc) (hn:Sm n.Points) (hd:∀ x ∈ l,Gua x):UP l n=some (if l.length>1024 then 3 else (GK (GnW l n) 0 l).getD 0):=by
 simp only [UP,GaE,d1,d2,d3,d4,d5,d6,d7,eN,eM]
 by_cases hl:l.length>1024
 ·rw [if_pos (by omega),if_pos hl]
 rw [if_neg (by omega),if_neg hl]
 have hs:Sm l:=by show _≤_; omega
 have key:(∀ r,GK (GnW l n) 0 l=some r→∃ q,lp (H5 l n) (0,[])=some (.inl q)∧q.1=r)∧(GK (GnW l n) 0 l=none→∃ q,lp (H5 l n) (0,[])=some (.inr q)∧True):=by
  refine GjA (l:=l) (mk:=fun k b=>(k,b)) fst (fun _ x r b=>(r,if r=6∨r=9 then b else HU fst b (x.Name,true))) (fun k x b=>HU fst b (x.Name,true)) (fun _ _ _ _=>rfl)
   (fun k b=>Gaw b (fun e=>(l.take k).any fun y=>decide (y.Name=e))) (fun k x b hx hb=>⟨?_,hb.put fun y=>Gfp hx _⟩) (fun b hb=>?_) (Gaw.nil fun k=>rfl)
  ·obtain ⟨hk,i1,i2,hkl,h1,h2⟩:=rd hs hx
   have hd:=hd x (List.mem_of_getElem? hx)
   have hb:=hb x.Name
   simp only at hb
   have hf:=VY (p:=GtI x.Point) n.Points
   simp only [H5,Qx,d1,d2,d3,d4,d5,d6,d7,hx,Option.bind_some,JF,i1,if_true,hkl,hb,GmQ n hn,Gke _ hd.1,GjM _ hd.2,GnW,GsC,Gt1]
   clear i1 i2 hs hn hd hb
   rcases hf with ⟨j,y,f1,f2,f3⟩ | ⟨f1,f3⟩
   ·rcases Hf ((l.take k).any fun y=>decide (y.Name=x.Name)) with hh | hh <;> rcases GgF x.Offsets with ho | ho | ho <;> rcases GgM x.Down with hw | hw | hw <;>
     simp only [hh,ho,hw,f1,f2,f3,HL,eN,eM,Int.toNat_natCast,Option.isSome_some,Option.isSome_none,Option.bind_some,Option.getD_some,Option.getD_none,Option.some_or,Option.none_or,if_true,if_false,Bool.false_eq_true] <;> grind [GtE]
   ·rcases Hf ((l.take k).any fun y=>decide (y.Name=x.Name)) with hh | hh <;> rcases GgF x.Offsets with ho | ho | ho <;> rcases GgM x.Down with hw | hw | hw <;>
     simp only [hh,ho,hw,f1,f3,HL,eN,eM,Int.toNat_natCast,Option.isSome_some,Option.isSome_none,Option.bind_some,Option.getD_some,Option.getD_none,Option.some_or,Option.none_or,if_true,if_false,Bool.false_eq_true] <;> grind [GtE]
  ·refine ⟨b,?_,trivial⟩
   simp only [H5,Qx,d3,d6,d1]
   rw [if_neg (by omega)]
 cases he:GK (GnW l n) 0 l with
 | some r=>
  obtain ⟨q,h1,h2⟩:=key.1 r he
  rw [h1]; simp only [Option.bind_some,eN,d1,Option.getD_some,h2]
 | none=>
  obtain ⟨q,h1,_⟩:=key.2 he
  rw [h1]; simp only [Option.bind_some,eM,d1,Option.getD_none]
theorem Gjj (n:Gc) (hn:Sm n.Points) (name:List UInt8):GbF n name=some (Yx n.Points name):=by
 simp only [GbF,Gcq,d1,d2,d3,d4,d5,d6,d7]
 have key:lp (J5 n name) 0=some (HL (if Yx n.Points name then some () else none)):=by
  unfold Yx
  rw [← Hj n.Points 0]
  refine GQ (fun k y hy=>?_) ?_
  ·obtain ⟨hk,i1,i2,hkl,h1,h2⟩:=rd hn hy
   simp only [J5,Q9,d1,d2,d3,d4,d5,d6,d7,eN,eM,hy,Option.bind_some,i1,if_true,hkl]
   clear i1 i2 hn
   grind [KC]
  ·simp only [J5,Q9,d3,d6,d1]
   rw [if_neg (by omega)]
 rw [key]
 cases Yx n.Points name <;> rfl
theorem Go7 (d:Gl) (hl:Sm d.Offsets):lp (QG d) 0=some (HL (GK (GkX d.Offsets) 0 d.Offsets)):=by
 refine GQ (fun k x hx=>?_) ?_
 ·obtain ⟨hk,i1,i2,hkl,h1,h2⟩:=rd hl hx
  simp only [QG,GbB,d1,d2,d3,d4,d5,d6,d7,eN,eM,hx,Option.bind_some,Gl1,h2,h1,i1,i2,if_true,hkl,GkX]
  clear i1 i2 hl
  grind [KC]
 ·simp only [QG,GbB,d3,d6,d1]
  rw [if_neg (by omega)]
theorem Gpm (d:Gl) (hl:Sm d.Down):lp (MX d) 0=some (HL (GK (Gle d.Down) 0 d.Down)):=by
 refine GQ (fun k x hx=>?_) ?_
 ·obtain ⟨hk,i1,i2,hkl,h1,h2⟩:=rd hl hx
  simp only [MX,Zh,d1,d2,d3,d4,d5,d6,d7,eN,eM,hx,Option.bind_some,Gmg,h2,h1,i1,i2,if_true,hkl,Gle]
  clear i1 i2 hl
  grind [KC]
 ·simp only [MX,Zh,d3,d6,d1]
  rw [if_neg (by omega)]
theorem Go8 (d:Gl) (n:Gc) (hn:Sm n.Points) (hd:Gua d):Gpo d n=some ((GsC n d).getD 0):=by
 simp only [Gpo,GnI,d1,d2,d3,d4,d5,d6,d7,Gjj n hn,Go7 d hd.1,Gpm d hd.2,Option.bind_some,GsC]
 clear hn hd
 rcases GgF d.Offsets with ho | ho | ho <;> rcases GgM d.Down with hw | hw | hw <;> simp only [ho,hw,HL,eN,eM,Option.bind_some,Option.some_or,Option.none_or] <;> grind
theorem GmJ (l:List Gl) (n:Gc) (hn:Sm n.Points) (hd:∀ x ∈ l,Gua x):GeN l n=some (if l.length>1024 then 3 else (GK (GnW l n) 0 l).getD 0):=by
 simp only [GeN,GiO,d1,d2,d3,d4,d5,d6,d7,eN,eM]
 by_cases hl:l.length>1024
 ·rw [if_pos (by omega),if_pos hl]
 rw [if_neg (by omega),if_neg hl]
 have hs:Sm l:=by show _≤_; omega
 have key:lp (Mo l n) 0=some (HL (GK (GnW l n) 0 l)):=by
  refine GQ (fun k x hx=>?_) ?_
  ·obtain ⟨hk,i1,i2,hkl,h1,h2⟩:=rd hs hx
   have hd:=hd x (List.mem_of_getElem? hx)
   have hq:lp (KI l n k) 0=some (HL (if (l.take k).any (fun y=>decide (y.Name=x.Name)) then some () else none)):=by
    rw [← Hj (l.take k) 0]
    refine JE (l:=l) (n:=k) (by omega) (fun j y hj hy=>?_) ?_
    ·obtain ⟨_,i3,_,_,_,_⟩:=rd hs hy
     have hjk:(j:Int)<(k:Int):=by omega
     simp only [KI,UC,d1,d2,d3,d4,d5,d6,d7,eN,eM,hx,hy,Option.bind_some,i3,if_true,hjk]
     clear i1 i2 i3 hs hn hd
     grind [KC]
    ·simp only [KI,UC,d3,d6,d1]
     rw [if_neg (by omega)]
   simp only [Mo,Xu,d1,d2,d3,d4,d5,d6,d7,hx,hq,Option.bind_some,RN,Gl4,Go8 x n hn hd,i1,if_true,hkl,GnW]
   clear i1 i2 hs hn hd hq
   have h0:GsC n x≠some 0:=by
    unfold GsC
    rcases GgF x.Offsets with ho | ho | ho <;> rcases GgM x.Down with hw | hw | hw <;> simp only [ho,hw,Option.some_or,Option.none_or] <;> grind
   generalize GsC n x=q at h0 ⊢
   rcases Hf ((l.take k).any fun y=>decide (y.Name=x.Name)) with hh | hh <;> rcases q with _ | r <;> simp only [hh,HL,eN,eM,Option.bind_some,if_true,if_false,Bool.false_eq_true,Option.getD_some,Option.getD_none] <;> grind [KC]
  ·simp only [Mo,Xu,d3,d6,d1]
   rw [if_neg (by omega)]
 rw [key]
 cases GK (GnW l n) 0 l <;> rfl
end
end Go.Proofs.YtnlaiahcemckkaaGreatDoor.Av
