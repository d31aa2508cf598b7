import Derived.Test.YtdifanfcaemokaaGreatDoorPEg
open Prod (fst)
open Int (tdiv tmod)
set_option maxHeartbeats 4000000
set_option maxRecDepth 100000
set_option linter.unusedVariables false
set_option linter.unusedSimpArgs false
namespace Go.Proofs.YtdifanfcaemokaaGreatDoor.Av
noncomputable section
open Go Go.Proofs
def GdD (t_0:Int):HT Bool True:=.run [oc] (fun _=>Hg) <|
  .sp (t_0≥(0:Int))
  (.run (oc::oa::oc::tc::oa::(cs 2 [])) (fun γ=>Gb (dT γ.2)) <|
  .leaf (decide (t_0<(68719476736:Int))) [])
  (.run (oc::oa::oc::oF::(cs 3 [])) (fun γ=>Gb (dF γ.2)) <|
  .leaf false [])
def YS (t_0:Int):Option Bool:=(GdD t_0).den
theorem K1 (t_0:Int) (r:Bool) (h:YS t_0=some r):RT 279 [jI t_0] (.bool r) []:=
 HA.of_ht 400 (GdD t_0) (fun (r:Bool)=>.bool r) (fun (r:Bool)=>[]) (by kernel_rfl) h
def My (l_0:(List GF)):Nat→HT (Nat⊕(Int⊕Unit)) True
 | k7=>.run [oa] (fun _=>Hg) <|
  .sp ((↑k7:Int)<(↑l_0.length:Int))
  (.run [bt] (fun γ=>Gb (dT γ.2)) <|
  .bd (l_0[k7]?) fun x24=>.run (oc::(oN (.i k7))::(oN (.v [jI x24.From,jI x24.Delta]))::(cs 3 [])) (fun γ=>k2 (ir γ.2) (k2 (GD (f:=GF.enc) (z:=1) (fun _=>rfl) γ.2) (Gb (GX (f:=GF.enc) (z:=2) (j:=k7) (fun _=>rfl) γ.2 rfl)))) <|
  .sp ((↑k7:Int)>(0:Int))
  (.gd (GS .i64 ((↑k7:Int) - 1)) <| .gd ((0:Int)≤((↑k7:Int) - 1)) <| .bd (l_0[(Int.toNat ((↑k7:Int) - 1))]?) fun x29=>.run [oc,oa,oc,tc,tc,tc,tc,tw,.op (some true) (.i (Int.toNat ((↑k7:Int) - 1))),tc,.op (some true) (.v [jI x29.From]),ta,oN (.b true),oc] (fun γ=>k2 (dT (G0 γ)) (k2 (dT (G0 γ)) (k2 (dT (G0 γ)) (k2 (dT (G0 γ)) (k2 (dT (G0 γ)) (k2 γ.1.1.2 (k2 (dT (G0 γ)) (k2 (ix γ.1.2 γ.2) (k2 (GD (f:=GF.enc) (z:=1) (fun _=>rfl) γ.2) (k2 (dT (G0 γ)) (k2 (dT (G0 γ)) (k2 (GL (f:=GF.enc) (z:=2) (j:=(Int.toNat ((↑k7:Int) - 1))) (a:=0) (n:=1) (fun _=>rfl) γ.2 (by decide) rfl) (k2 (dT (G0 γ)) (Gb (dT (G0 γ)))))))))))))))) <|
  .sp (x24.From≤x29.From)
  (.run [bt,oc] (fun γ=>Gb (dT γ.2)) <|
  .leaf (.inr (.inl 15)) [])
  (.run [bf] (fun γ=>Gb (dF γ.2)) <|
  .bd (YS x24.From) fun r32=>.sp (r32=true)
  (.sp (x24.Delta<(-86400:Int))
  (.run (cs 2 ((rN [.any] (.bool r32) [])::(cs 2 (oF::oc::oa::(cs 2 (tc::(cs 4 [bt,oc]))))))) (fun γ=>k2 (K1 x24.From r32 γ.1.1.2) (k2 ((Gx γ.1.2):(!r32)=false) (k2 (dT γ.2) (Gb tT)))) <|
  .leaf (.inr (.inl 1)) [])
  (.run (cs 2 ((rN [.any] (.bool r32) [])::(cs 2 (oF::oc::oa::(cs 2 (oF::oc::oa::(cs 2 []))))))) (fun γ=>k2 (K1 x24.From r32 γ.1.1.2) (k2 ((Gx γ.1.2):(!r32)=false) (Gb (dF γ.2)))) <|
  .sp (x24.Delta>(86400:Int))
  (.run [bt,oc] (fun γ=>Gb (dT γ.2)) <|
  .leaf (.inr (.inl 1)) [])
  (.run [bf] (fun γ=>Gb (dF γ.2)) <|
  .gd (GS .i64 ((↑k7:Int)+1)) <| .run [ow,oc] (fun γ=>Gb γ.2) <|
  .leaf (.inl (k7+1)) [])))
  (.run (cs 2 ((rN [.any] (.bool r32) [])::(cs 2 (tc::(cs 9 [bt,oc]))))) (fun γ=>k2 (K1 x24.From r32 γ.1.2) (k2 ((Gy (Ja γ.2)):(!r32)=true) (Gb tT))) <|
  .leaf (.inr (.inl 1)) [])))
  (.run [oc,oa,oc,oF,oF,oF,oF,oF,oF,oF,oF,oF,oN (.b false),oc,bf] (fun γ=>k2 (dF γ.2) (k2 (dF γ.2) (k2 (dF γ.2) (k2 (dF γ.2) (k2 (dF γ.2) (k2 (dF γ.2) (k2 (dF γ.2) (k2 (dF γ.2) (k2 (dF γ.2) (k2 (dF γ.2) (Gb fF))))))))))) <|
  .bd (YS x24.From) fun r38=>.sp (r38=true)
  (.sp (x24.Delta<(-86400:Int))
  (.run (cs 2 ((rN [.any] (.bool r38) [])::(cs 2 (oF::oc::oa::(cs 2 (tc::(cs 4 [bt,oc]))))))) (fun γ=>k2 (K1 x24.From r38 γ.1.1.2) (k2 ((Gx γ.1.2):(!r38)=false) (k2 (dT γ.2) (Gb tT)))) <|
  .leaf (.inr (.inl 1)) [])
  (.run (cs 2 ((rN [.any] (.bool r38) [])::(cs 2 (oF::oc::oa::(cs 2 (oF::oc::oa::(cs 2 []))))))) (fun γ=>k2 (K1 x24.From r38 γ.1.1.2) (k2 ((Gx γ.1.2):(!r38)=false) (Gb (dF γ.2)))) <|
  .sp (x24.Delta>(86400:Int))
  (.run [bt,oc] (fun γ=>Gb (dT γ.2)) <|
  .leaf (.inr (.inl 1)) [])
  (.run [bf] (fun γ=>Gb (dF γ.2)) <|
  .gd (GS .i64 ((↑k7:Int)+1)) <| .run [ow,oc] (fun γ=>Gb γ.2) <|
  .leaf (.inl (k7+1)) [])))
  (.run (cs 2 ((rN [.any] (.bool r38) [])::(cs 2 (tc::(cs 9 [bt,oc]))))) (fun γ=>k2 (K1 x24.From r38 γ.1.2) (k2 ((Gy (Ja γ.2)):(!r38)=true) (Gb tT))) <|
  .leaf (.inr (.inl 1)) [])))
  (.run [bf] (fun γ=>Gb (dF γ.2)) <|
  .leaf (.inr (.inr (()))) [])
def Jq (l_0:(List GF)):Nat→Option (Nat⊕(Int⊕Unit)):=fun s=>(My l_0 s).den
def ZR (l_0:(List GF)):Nat→PS:=fun s=>(42,[(0,.lst (fl GF.enc l_0) l_0.length),(5,.lst (fl GF.enc l_0) l_0.length),(6,jI (↑l_0.length:Int)),(7,jI (↑s:Int))],[])
def ZT:(Int⊕Unit)→Hm:=fun q=>match q with | Sum.inl o=>.ret | Sum.inr (o)=>(.exit 0)
def ZS (l_0:(List GF)):(Int⊕Unit)→List (Nat×AV):=fun q=>match q with | Sum.inl o=>[(2,jI o)] | Sum.inr (o)=>[]
def ZQ (l_0:(List GF)):(Int⊕Unit)→List Hb:=fun _=>[]
theorem VJ (l_0:(List GF)) {s:Nat} {r:Int⊕Unit} (h:lp (Jq l_0) s=some r):DT 0 (.loop (GK Tryz.prog 208 [1,0,1,0,0])) (ZR l_0 s).st (ZT r) (PS.st (42,ZS l_0 r,ZQ l_0 r)):=
 GN.lp_ht 0 400 (ZR l_0) ZT (fun q=>(42,ZS l_0 q,ZQ l_0 q)) (My l_0) (by intro k7; kernel_rfl) h
def X0 (l_0:(List GF)):HT Int True:=.run (cs 4 []) (fun _=>Hg) <|
  .bd (lp (Jq l_0) (0:Nat)) fun qq=>.cs qq (fun o1=>.run [.fcut 0 .ret [(2,jI o1)] [] [] [(0,.any),(5,.any),(6,.any),(7,jI (↑(0:Nat):Int))] []] (fun γ=>k2 (rfl:(jI 0:AV)=jI (↑(0:Nat):Int)) (Gb (VJ l_0 (s:=(0:Nat)) (r:=Sum.inl o1) (eS γ.1.2 γ.2)))) <|
  .leaf o1 [])
  (fun o1=>.run [.fcut 0 (.exit 0) [] [] [] [(0,.any),(5,.any),(6,.any),(7,jI (↑(0:Nat):Int))] [],oc] (fun γ=>k2 (rfl:(jI 0:AV)=jI (↑(0:Nat):Int)) (Gb (VJ l_0 (s:=(0:Nat)) (r:=Sum.inr (o1)) (eS γ.1.2 γ.2)))) <|
  .leaf 0 [])
def Rg (l_0:(List GF)):Option Int:=(X0 l_0).den
theorem GaY (l_0:(List GF)) (r:Int) (h:Rg l_0=some r):RT 208 [.lst (fl GF.enc l_0) l_0.length] (jI r) []:=
 HA.of_ht 400 (X0 l_0) (fun (r:Int)=>jI r) (fun (r:Int)=>[]) (by kernel_rfl) h
def Gfu (i_0:Gp):HT Bool True:=.run (cs 2 []) (fun _=>Hg) <|
  .sp (i_0.From≥(0:Int))
  (.sp (i_0.From<i_0.To)
  (.run (cs 2 (oa::oc::tc::(cs 3 (oa::(cs 2 (tc::oc::oa::(cs 2 []))))))) (fun γ=>k2 (dT γ.1.2) (Gb (dT γ.2))) <|
  .leaf (decide (i_0.To≤(68719476736:Int))) [])
  (.run (cs 2 (oa::oc::tc::(cs 3 (oa::(cs 2 (oF::(cs 4 []))))))) (fun γ=>k2 (dT γ.1.2) (Gb (dF γ.2))) <|
  .leaf false []))
  (.run (cs 2 (oa::oc::oF::(cs 11 []))) (fun γ=>Gb (dF γ.2)) <|
  .leaf false [])
def JQ (i_0:Gp):Option Bool:=(Gfu i_0).den
theorem G8 (i_0:Gp) (r:Bool) (h:JQ i_0=some r):RT 220 [.agg (Gp.enc i_0)] (.bool r) []:=
 HA.of_ht 400 (Gfu i_0) (fun (r:Bool)=>.bool r) (fun (r:Bool)=>[]) (by kernel_rfl) h
def Mz (l_0:(List Gp)):Nat→HT (Nat⊕(Int⊕Unit)) True
 | k7=>.run [oa] (fun _=>Hg) <|
  .sp ((↑k7:Int)<(↑l_0.length:Int))
  (.run [bt] (fun γ=>Gb (dT γ.2)) <|
  .bd (l_0[k7]?) fun x17=>.run (oc::(oN (.i k7))::(oN (.v [jI x17.From,jI x17.To]))::(cs 3 [])) (fun γ=>k2 (ir γ.2) (k2 (GD (f:=Gp.enc) (z:=1) (fun _=>rfl) γ.2) (Gb (GX (f:=Gp.enc) (z:=2) (j:=k7) (fun _=>rfl) γ.2 rfl)))) <|
  .bd (JQ x17) fun r19=>.run (oc::(rN [.any] (.bool r19) [])::(cs 2 [])) (fun γ=>Gb (G8 x17 r19 γ.2)) <|
  .sp (r19=true)
  (.run [bf] (fun γ=>Gb ((Gx γ.2):(!r19)=false)) <|
  .sp ((↑k7:Int)>(0:Int))
  (.gd (GS .i64 ((↑k7:Int) - 1)) <| .gd ((0:Int)≤((↑k7:Int) - 1)) <| .bd (l_0[(Int.toNat ((↑k7:Int) - 1))]?) fun x25=>.run [oc,oa,oc,tc,tc,tc,tc,tw,.op (some true) (.i (Int.toNat ((↑k7:Int) - 1))),tc,.op (some true) (.v [jI x25.To]),ta,oN (.b true),oc] (fun γ=>k2 (dT (G0 γ)) (k2 (dT (G0 γ)) (k2 (dT (G0 γ)) (k2 (dT (G0 γ)) (k2 (dT (G0 γ)) (k2 γ.1.1.2 (k2 (dT (G0 γ)) (k2 (ix γ.1.2 γ.2) (k2 (GD (f:=Gp.enc) (z:=1) (fun _=>rfl) γ.2) (k2 (dT (G0 γ)) (k2 (dT (G0 γ)) (k2 (GL (f:=Gp.enc) (z:=2) (j:=(Int.toNat ((↑k7:Int) - 1))) (a:=1) (n:=1) (fun _=>rfl) γ.2 (by decide) rfl) (k2 (dT (G0 γ)) (Gb (dT (G0 γ)))))))))))))))) <|
  .sp (x17.From≤x25.To)
  (.run [bt,oc] (fun γ=>Gb (dT γ.2)) <|
  .leaf (.inr (.inl 15)) [])
  (.run [bf] (fun γ=>Gb (dF γ.2)) <|
  .gd (GS .i64 ((↑k7:Int)+1)) <| .run [ow,oc] (fun γ=>Gb γ.2) <|
  .leaf (.inl (k7+1)) []))
  (.run [oc,oa,oc,oF,oF,oF,oF,oF,oF,oF,oF,oF,oN (.b false),oc,bf] (fun γ=>k2 (dF γ.2) (k2 (dF γ.2) (k2 (dF γ.2) (k2 (dF γ.2) (k2 (dF γ.2) (k2 (dF γ.2) (k2 (dF γ.2) (k2 (dF γ.2) (k2 (dF γ.2) (k2 (dF γ.2) (Gb fF))))))))))) <|
  .gd (GS .i64 ((↑k7:Int)+1)) <| .run [ow,oc] (fun γ=>Gb γ.2) <|
  .leaf (.inl (k7+1)) []))
  (.run [bt,oc] (fun γ=>Gb ((Gy (Ja γ.2)):(!r19)=true)) <|
  .leaf (.inr (.inl 12)) []))
  (.run [bf] (fun γ=>Gb (dF γ.2)) <|
  .leaf (.inr (.inr (()))) [])
def Jr (l_0:(List Gp)):Nat→Option (Nat⊕(Int⊕Unit)):=fun s=>(Mz l_0 s).den
def ZV (l_0:(List Gp)):Nat→PS:=fun s=>(31,[(0,.lst (fl Gp.enc l_0) l_0.length),(5,.lst (fl Gp.enc l_0) l_0.length),(6,jI (↑l_0.length:Int)),(7,jI (↑s:Int))],[])
def ZX:(Int⊕Unit)→Hm:=fun q=>match q with | Sum.inl o=>.ret | Sum.inr (o)=>(.exit 0)
def ZW (l_0:(List Gp)):(Int⊕Unit)→List (Nat×AV):=fun q=>match q with | Sum.inl o=>[(2,jI o)] | Sum.inr (o)=>[]
def ZU (l_0:(List Gp)):(Int⊕Unit)→List Hb:=fun _=>[]
theorem VK (l_0:(List Gp)) {s:Nat} {r:Int⊕Unit} (h:lp (Jr l_0) s=some r):DT 0 (.loop (GK Tryz.prog 209 [1,0,1,0,0])) (ZV l_0 s).st (ZX r) (PS.st (31,ZW l_0 r,ZU l_0 r)):=
 GN.lp_ht 0 400 (ZV l_0) ZX (fun q=>(31,ZW l_0 q,ZU l_0 q)) (Mz l_0) (by intro k7; kernel_rfl) h
def X1 (l_0:(List Gp)):HT Int True:=.run (cs 4 []) (fun _=>Hg) <|
  .bd (lp (Jr l_0) (0:Nat)) fun qq=>.cs qq (fun o1=>.run [.fcut 0 .ret [(2,jI o1)] [] [] [(0,.any),(5,.any),(6,.any),(7,jI (↑(0:Nat):Int))] []] (fun γ=>k2 (rfl:(jI 0:AV)=jI (↑(0:Nat):Int)) (Gb (VK l_0 (s:=(0:Nat)) (r:=Sum.inl o1) (eS γ.1.2 γ.2)))) <|
  .leaf o1 [])
  (fun o1=>.run [.fcut 0 (.exit 0) [] [] [] [(0,.any),(5,.any),(6,.any),(7,jI (↑(0:Nat):Int))] [],oc] (fun γ=>k2 (rfl:(jI 0:AV)=jI (↑(0:Nat):Int)) (Gb (VK l_0 (s:=(0:Nat)) (r:=Sum.inr (o1)) (eS γ.1.2 γ.2)))) <|
  .leaf 0 [])
def Rh (l_0:(List Gp)):Option Int:=(X1 l_0).den
theorem GaZ (l_0:(List Gp)) (r:Int) (h:Rh l_0=some r):RT 209 [.lst (fl Gp.enc l_0) l_0.length] (jI r) []:=
 HA.of_ht 400 (X1 l_0) (fun (r:Int)=>jI r) (fun (r:Int)=>[]) (by kernel_rfl) h
def Mx (n_1:Gf) (x128:Gj):Nat→HT (Nat⊕(Int⊕Unit)) True
 | k8=>.run [oa] (fun _=>Hg) <|
  .sp ((↑k8:Int)<(↑n_1.Points.length:Int))
  (.run (bt::(cs 2 [])) (fun γ=>Gb (dT γ.2)) <|
  .bd (n_1.Points[k8]?) fun x144=>.run (cs 3 ((oN (.i k8))::(oN (.v [.str x144.Name,jI x144.Kind,.str x144.System]))::(cs 7 [oa,oc]))) (fun γ=>k2 (ir γ.2) (k2 (GD (f:=Gr.enc) (z:=2) (fun _=>rfl) γ.2) (Gb (GX (f:=Gr.enc) (z:=3) (j:=k8) (fun _=>rfl) γ.2 rfl)))) <|
  .sp (x144.Name=x128.Point)
  (.run (bt::(cs 2 [])) (fun γ=>Gb (Gu γ.2)) <|
  .leaf (.inr (.inl (↑k8:Int))) [0])
  (.run [bf] (fun γ=>Gb (Gz γ.2)) <|
  .gd (GS .i64 ((↑k8:Int)+1)) <| .run [ow,oc] (fun γ=>Gb γ.2) <|
  .leaf (.inl (k8+1)) [0]))
  (.run [bf] (fun γ=>Gb (dF γ.2)) <|
  .leaf (.inr (.inr (()))) [0])
def H5 (n_1:Gf) (x128:Gj):Nat→Option (Nat⊕(Int⊕Unit)):=fun s=>(Mx n_1 x128 s).den
def ZN (n_1:Gf) (x128:Gj):Nat→PS:=fun s=>(19,[(0,.lst (fl Gr.enc n_1.Points) n_1.Points.length),(1,.fn (.func 207) [] [.ptr 0 0]),(7,jI (↑n_1.Points.length:Int)),(8,jI (↑s:Int))],[(bT (Gj.enc x128) 77)])
def ZP:(Int⊕Unit)→Hm:=fun q=>match q with | Sum.inl o=>.ret | Sum.inr (o)=>(.exit 0)
def ZO (n_1:Gf) (x128:Gj):(Int⊕Unit)→List (Nat×AV):=fun q=>match q with | Sum.inl o=>[(4,jI o)] | Sum.inr (o)=>[]
def ZM (n_1:Gf) (x128:Gj):(Int⊕Unit)→List Hb:=fun _=>[(bT (Gj.enc x128) 77)]
theorem H4 (n_1:Gf) (x128:Gj) {s:Nat} {r:Int⊕Unit} (h:lp (H5 n_1 x128) s=some r):DT 1 (.loop (GK Tryz.prog 278 [1,0,1,0,0])) (ZN n_1 x128 s).st (ZP r) (PS.st (19,ZO n_1 x128 r,ZM n_1 x128 r)):=
 GN.lp_ht 1 400 (ZN n_1 x128) ZP (fun q=>(19,ZO n_1 x128 q,ZM n_1 x128 q)) (Mx n_1 x128) (by intro k8; kernel_rfl) h
def QJ (l_0:(List Gj)) (n_1:Gf):(Nat×(List ((List UInt8)×Bool)))→HT ((Nat×(List ((List UInt8)×Bool)))⊕((Int×(List ((List UInt8)×Bool)))⊕(List ((List UInt8)×Bool)))) True
 | (k18,b1)=>.run [oa] (fun _=>Hg) <|
  .sp ((↑k18:Int)<(↑l_0.length:Int))
  (.run [bt] (fun γ=>Gb (dT γ.2)) <|
  .bd (l_0[k18]?) fun x128=>.run ((oN (.i k18))::(oN (.v [.str x128.Name,.str x128.Point,jI x128.Kind,jI x128.Lane,.lst (fl GF.enc x128.Offsets) x128.Offsets.length,.lst (fl Gp.enc x128.Down) x128.Down.length]))::(cs 2 [])) (fun γ=>k2 (ir γ.2) (k2 (GD (f:=Gj.enc) (z:=5) (fun _=>rfl) γ.2) (Gb (GX (f:=Gj.enc) (z:=6) (j:=k18) (fun _=>rfl) γ.2 rfl)))) <|
  .bd (HS x128.Name) fun r130=>.run (cs 2 [rN [.any] (.bool r130) [],oc]) (fun γ=>Gb (Hh x128.Name r130 γ.2)) <|
  .sp (r130=true)
  (.run [bf] (fun γ=>Gb ((Gx γ.2):(!r130)=false)) <|
  .sp (((X8 fst b1 x128.Name).isSome)=true)
  (.bd (X8 fst b1 x128.Name) fun q134=>.run (cs 3 [oN (.v [.bool q134.2])]) (fun γ=>Gb ((Mq HC (k:=x128.Name) (K3 x128.Name) γ.2):Jp (List.map Hs b1) (.str x128.Name)=some (.bool q134.2))) <|
  .sp (q134.2=true)
  (.run [bt,oc] (fun γ=>Gb γ.2) <|
  .leaf (.inr (.inl (9,b1))) [0,1])
  (.run (bf::(cs 4 [.tr (.mp 1 (List.map Hs (Jb fst b1 (x128.Name,true))))])) (fun γ=>k2 ((Ja γ.2):q134.2=false) (Gb ((List.Perm.of_eq (YJ (κ:=fst) HC b1 (x128.Name,true))):List.Perm (ZD (List.map Hs b1) (.str x128.Name) (.bool true)) (List.map Hs (Jb fst b1 (x128.Name,true)))))) <|
  .bd (lp (H5 n_1 x128) (0:Nat)) fun qq=>.cs qq (fun o137=>.sp (o137≥(0:Int))
  (.gd ((0:Int)≤o137) <| .bd (n_1.Points[o137.toNat]?) fun x150=>.run (cs 13 ((.fcut 1 .ret [(4,jI o137)] [(bT (Gj.enc x128) 77)] [2] [(0,.any),(1,.any),(7,.any),(8,jI (↑(0:Nat):Int))] [bS])::(cs 2 (oa::bt::(cs 2 ((oN (.i o137.toNat))::(oN (.v [.str x150.Name,jI x150.Kind,.str x150.System]))::(cs 10 [bf]))))))) (fun γ=>k2 (rfl:(jI 0:AV)=jI (↑(0:Nat):Int)) (k2 (H4 n_1 x128 (s:=(0:Nat)) (r:=Sum.inl o137) (eS (HW γ) (G0 γ))) (k2 (dT γ.1.1.2) (k2 (ix γ.1.2 γ.2) (k2 (GD (f:=Gr.enc) (z:=2) (fun _=>rfl) γ.2) (k2 (GX (f:=Gr.enc) (z:=3) (j:=o137.toNat) (fun _=>rfl) γ.2 rfl) (Gb fF))))))) <|
  .sp (x128.Kind<(1:Int))
  (.run (cs 2 (oa::oc::tc::(cs 13 [bt,oc]))) (fun γ=>k2 (dT γ.2) (Gb tT)) <|
  .leaf (.inr (.inl (1,(Jb fst b1 (x128.Name,true))))) [0,1])
  (.sp (x128.Kind>(3:Int))
  (.run (cs 2 (oa::oc::oF::oc::oa::(cs 2 (tc::(cs 8 [bt,oc]))))) (fun γ=>k2 (dF γ.1.2) (k2 (dT γ.2) (Gb tT))) <|
  .leaf (.inr (.inl (1,(Jb fst b1 (x128.Name,true))))) [0,1])
  (.sp (x128.Lane<(0:Int))
  (.run (cs 2 (oa::oc::oF::oc::oa::(cs 2 (oF::oc::oa::(cs 2 (tc::(cs 3 [bt,oc]))))))) (fun γ=>k2 (dF γ.1.1.2) (k2 (dF γ.1.2) (k2 (dT γ.2) (Gb tT)))) <|
  .leaf (.inr (.inl (1,(Jb fst b1 (x128.Name,true))))) [0,1])
  (.run (cs 2 (oa::oc::oF::oc::oa::(cs 2 (oF::oc::oa::(cs 2 [oF,oc,oa,oc]))))) (fun γ=>k2 (dF γ.1.1.2) (k2 (dF γ.1.2) (Gb (dF γ.2)))) <|
  .sp (x128.Lane>(15:Int))
  (.run [bt,oc] (fun γ=>Gb (dT γ.2)) <|
  .leaf (.inr (.inl (1,(Jb fst b1 (x128.Name,true))))) [0,1])
  (.run [bf] (fun γ=>Gb (dF γ.2)) <|
  .bd (Rg x128.Offsets) fun r156=>.run (cs 2 ((rN [.any] (jI r156) [])::(cs 2 [oa]))) (fun γ=>Gb (GaY x128.Offsets r156 γ.2)) <|
  .sp (r156=(0:Int))
  (.run [bf] (fun γ=>Gb (Gx (Gu γ.2))) <|
  .bd (Rh x128.Down) fun r159=>.run (cs 2 ((rN [.any] (jI r159) [])::(cs 2 [oa]))) (fun γ=>Gb (GaZ x128.Down r159 γ.2)) <|
  .sp (r159=(0:Int))
  (.run [bf] (fun γ=>Gb (Gx (Gu γ.2))) <|
  .gd (GS .i64 ((↑k18:Int)+1)) <| .run [ow,oc] (fun γ=>Gb γ.2) <|
  .leaf (.inl ((k18+1),(Jb fst b1 (x128.Name,true)))) [0,1])
  (.run (bt::(cs 2 [])) (fun γ=>Gb (Gy (Gz γ.2))) <|
  .leaf (.inr (.inl (r159,(Jb fst b1 (x128.Name,true))))) [0,1]))
  (.run (bt::(cs 2 [])) (fun γ=>Gb (Gy (Gz γ.2))) <|
  .leaf (.inr (.inl (r156,(Jb fst b1 (x128.Name,true))))) [0,1]))))))
  (.run (cs 13 ((.fcut 1 .ret [(4,jI o137)] [(bT (Gj.enc x128) 77)] [2] [(0,.any),(1,.any),(7,.any),(8,jI (↑(0:Nat):Int))] [bS])::(cs 2 (oa::bf::(cs 12 [bt,oc]))))) (fun γ=>k2 (rfl:(jI 0:AV)=jI (↑(0:Nat):Int)) (k2 (H4 n_1 x128 (s:=(0:Nat)) (r:=Sum.inl o137) (eS γ.1.1.2 γ.1.2)) (k2 (dF γ.2) (Gb tT)))) <|
  .leaf (.inr (.inl (16,(Jb fst b1 (x128.Name,true))))) [0,1]))
  (fun o137=>.run (cs 13 ((.fcut 1 (.exit 0) [] [(bT (Gj.enc x128) 77)] [2] [(0,.any),(1,.any),(7,.any),(8,jI (↑(0:Nat):Int))] [bS])::(cs 4 (bf::(cs 12 [bt,oc]))))) (fun γ=>k2 (rfl:(jI 0:AV)=jI (↑(0:Nat):Int)) (k2 (H4 n_1 x128 (s:=(0:Nat)) (r:=Sum.inr (o137)) (eS γ.1.2 γ.2)) (k2 fF (Gb tT)))) <|
  .leaf (.inr (.inl (16,(Jb fst b1 (x128.Name,true))))) [0,1])))
  (.run (cs 3 ((oN (.b false))::bf::(cs 4 [.tr (.mp 1 (List.map Hs (Jb fst b1 (x128.Name,true))))]))) (fun γ=>k2 ((X9 HC (k:=x128.Name) (K3 x128.Name) (Gio γ.2)):Jp (List.map Hs b1) (.str x128.Name)=none) (k2 fF (Gb ((List.Perm.of_eq (YJ (κ:=fst) HC b1 (x128.Name,true))):List.Perm (ZD (List.map Hs b1) (.str x128.Name) (.bool true)) (List.map Hs (Jb fst b1 (x128.Name,true))))))) <|
  .bd (lp (H5 n_1 x128) (0:Nat)) fun qq=>.cs qq (fun o163=>.sp (o163≥(0:Int))
  (.gd ((0:Int)≤o163) <| .bd (n_1.Points[o163.toNat]?) fun x176=>.run (cs 13 ((.fcut 1 .ret [(4,jI o163)] [(bT (Gj.enc x128) 77)] [2] [(0,.any),(1,.any),(7,.any),(8,jI (↑(0:Nat):Int))] [bS])::(cs 2 (oa::bt::(cs 2 ((oN (.i o163.toNat))::(oN (.v [.str x176.Name,jI x176.Kind,.str x176.System]))::(cs 10 [bf]))))))) (fun γ=>k2 (rfl:(jI 0:AV)=jI (↑(0:Nat):Int)) (k2 (H4 n_1 x128 (s:=(0:Nat)) (r:=Sum.inl o163) (eS (HW γ) (G0 γ))) (k2 (dT γ.1.1.2) (k2 (ix γ.1.2 γ.2) (k2 (GD (f:=Gr.enc) (z:=2) (fun _=>rfl) γ.2) (k2 (GX (f:=Gr.enc) (z:=3) (j:=o163.toNat) (fun _=>rfl) γ.2 rfl) (Gb fF))))))) <|
  .sp (x128.Kind<(1:Int))
  (.run (cs 2 (oa::oc::tc::(cs 13 [bt,oc]))) (fun γ=>k2 (dT γ.2) (Gb tT)) <|
  .leaf (.inr (.inl (1,(Jb fst b1 (x128.Name,true))))) [0,1])
  (.sp (x128.Kind>(3:Int))
  (.run (cs 2 (oa::oc::oF::oc::oa::(cs 2 (tc::(cs 8 [bt,oc]))))) (fun γ=>k2 (dF γ.1.2) (k2 (dT γ.2) (Gb tT))) <|
  .leaf (.inr (.inl (1,(Jb fst b1 (x128.Name,true))))) [0,1])
  (.sp (x128.Lane<(0:Int))
  (.run (cs 2 (oa::oc::oF::oc::oa::(cs 2 (oF::oc::oa::(cs 2 (tc::(cs 3 [bt,oc]))))))) (fun γ=>k2 (dF γ.1.1.2) (k2 (dF γ.1.2) (k2 (dT γ.2) (Gb tT)))) <|
  .leaf (.inr (.inl (1,(Jb fst b1 (x128.Name,true))))) [0,1])
  (.run (cs 2 (oa::oc::oF::oc::oa::(cs 2 (oF::oc::oa::(cs 2 [oF,oc,oa,oc]))))) (fun γ=>k2 (dF γ.1.1.2) (k2 (dF γ.1.2) (Gb (dF γ.2)))) <|
  .sp (x128.Lane>(15:Int))
  (.run [bt,oc] (fun γ=>Gb (dT γ.2)) <|
  .leaf (.inr (.inl (1,(Jb fst b1 (x128.Name,true))))) [0,1])
  (.run [bf] (fun γ=>Gb (dF γ.2)) <|
  .bd (Rg x128.Offsets) fun r182=>.run (cs 2 ((rN [.any] (jI r182) [])::(cs 2 [oa]))) (fun γ=>Gb (GaY x128.Offsets r182 γ.2)) <|
  .sp (r182=(0:Int))
  (.run [bf] (fun γ=>Gb (Gx (Gu γ.2))) <|
  .bd (Rh x128.Down) fun r185=>.run (cs 2 ((rN [.any] (jI r185) [])::(cs 2 [oa]))) (fun γ=>Gb (GaZ x128.Down r185 γ.2)) <|
  .sp (r185=(0:Int))
  (.run [bf] (fun γ=>Gb (Gx (Gu γ.2))) <|
  .gd (GS .i64 ((↑k18:Int)+1)) <| .run [ow,oc] (fun γ=>Gb γ.2) <|
  .leaf (.inl ((k18+1),(Jb fst b1 (x128.Name,true)))) [0,1])
  (.run (bt::(cs 2 [])) (fun γ=>Gb (Gy (Gz γ.2))) <|
  .leaf (.inr (.inl (r185,(Jb fst b1 (x128.Name,true))))) [0,1]))
  (.run (bt::(cs 2 [])) (fun γ=>Gb (Gy (Gz γ.2))) <|
  .leaf (.inr (.inl (r182,(Jb fst b1 (x128.Name,true))))) [0,1]))))))
  (.run (cs 13 ((.fcut 1 .ret [(4,jI o163)] [(bT (Gj.enc x128) 77)] [2] [(0,.any),(1,.any),(7,.any),(8,jI (↑(0:Nat):Int))] [bS])::(cs 2 (oa::bf::(cs 12 [bt,oc]))))) (fun γ=>k2 (rfl:(jI 0:AV)=jI (↑(0:Nat):Int)) (k2 (H4 n_1 x128 (s:=(0:Nat)) (r:=Sum.inl o163) (eS γ.1.1.2 γ.1.2)) (k2 (dF γ.2) (Gb tT)))) <|
  .leaf (.inr (.inl (16,(Jb fst b1 (x128.Name,true))))) [0,1]))
  (fun o163=>.run (cs 13 ((.fcut 1 (.exit 0) [] [(bT (Gj.enc x128) 77)] [2] [(0,.any),(1,.any),(7,.any),(8,jI (↑(0:Nat):Int))] [bS])::(cs 4 (bf::(cs 12 [bt,oc]))))) (fun γ=>k2 (rfl:(jI 0:AV)=jI (↑(0:Nat):Int)) (k2 (H4 n_1 x128 (s:=(0:Nat)) (r:=Sum.inr (o163)) (eS γ.1.2 γ.2)) (k2 fF (Gb tT)))) <|
  .leaf (.inr (.inl (16,(Jb fst b1 (x128.Name,true))))) [0,1])))
  (.run [bt,oc] (fun γ=>Gb ((Gy (Ja γ.2)):(!r130)=true)) <|
  .leaf (.inr (.inl (6,b1))) [0,1]))
  (.run [bf] (fun γ=>Gb (dF γ.2)) <|
  .leaf (.inr (.inr (b1))) [0,1])
def Ji (l_0:(List Gj)) (n_1:Gf):(Nat×(List ((List UInt8)×Bool)))→Option ((Nat×(List ((List UInt8)×Bool)))⊕((Int×(List ((List UInt8)×Bool)))⊕(List ((List UInt8)×Bool)))):=fun s=>(QJ l_0 n_1 s).den
def Gck (l_0:(List Gj)) (n_1:Gf):(Nat×(List ((List UInt8)×Bool)))→PS:=fun s=>(73,[(3,.ptr 0 0),(5,.mapr 1),(16,.lst (fl Gj.enc l_0) l_0.length),(17,jI (↑l_0.length:Int)),(18,jI (↑s.1:Int))],[(bT (Gf.enc n_1) 25),(bM .s (List.map Hs s.2))])
def Gcm:((Int×(List ((List UInt8)×Bool)))⊕(List ((List UInt8)×Bool)))→Hm:=fun q=>match q with | Sum.inl o=>.ret | Sum.inr (o)=>(.exit 0)
def Gcl (l_0:(List Gj)) (n_1:Gf):((Int×(List ((List UInt8)×Bool)))⊕(List ((List UInt8)×Bool)))→List (Nat×AV):=fun q=>match q with | Sum.inl o=>[(4,jI o.1)] | Sum.inr (o)=>[]
def QI (l_0:(List Gj)) (n_1:Gf):((Int×(List ((List UInt8)×Bool)))⊕(List ((List UInt8)×Bool)))→List Hb:=fun q=>match q with | Sum.inl o=>[(bT (Gf.enc n_1) 25),(bM .s (List.map Hs o.2))] | Sum.inr (o)=>[(bT (Gf.enc n_1) 25),(bM .s (List.map Hs o))]
theorem YR (l_0:(List Gj)) (n_1:Gf) {s:(Nat×(List ((List UInt8)×Bool)))} {r:(Int×(List ((List UInt8)×Bool)))⊕(List ((List UInt8)×Bool))} (h:lp (Ji l_0 n_1) s=some r):DT 2 (.loop (GK Tryz.prog 130 [1,1,1,0,1,0,0])) (Gck l_0 n_1 s).st (Gcm r) (PS.st (73,Gcl l_0 n_1 r,QI l_0 n_1 r)):=
 GN.lp_ht 2 400 (Gck l_0 n_1) Gcm (fun q=>(73,Gcl l_0 n_1 q,QI l_0 n_1 q)) (QJ l_0 n_1) (by rintro ⟨k18,b1⟩; kernel_rfl) h
def GaX (l_0:(List Gj)) (n_1:Gf):HT Int True:=.run (cs 4 [oa]) (fun _=>Hg) <|
  .sp ((↑l_0.length:Int)>(1024:Int))
  (.run [bt,oc] (fun γ=>Gb (dT γ.2)) <|
  .leaf 3 [])
  (.run (bf::(cs 5 [])) (fun γ=>Gb (dF γ.2)) <|
  .bd (lp (Ji l_0 n_1) ((0:Nat),([]:List ((List UInt8)×Bool)))) fun qq=>.cs qq (fun o2=>.run [.fcut 2 .ret [(4,jI o2.1)] (QI l_0 n_1 (Sum.inl o2)) [0,1] [(3,.any),(5,.any),(16,.any),(17,.any),(18,jI (↑(0:Nat):Int))] [bS,bS]] (fun γ=>k2 (rfl:(jI 0:AV)=jI (↑(0:Nat):Int)) (Gb (YR l_0 n_1 (s:=((0:Nat),([]:List ((List UInt8)×Bool)))) (r:=Sum.inl o2) (eS γ.1.2 γ.2)))) <|
  .leaf o2.1 [])
  (fun o2=>.run [.fcut 2 (.exit 0) [] (QI l_0 n_1 (Sum.inr (o2))) [0,1] [(3,.any),(5,.any),(16,.any),(17,.any),(18,jI (↑(0:Nat):Int))] [bS,bS],oc] (fun γ=>k2 (rfl:(jI 0:AV)=jI (↑(0:Nat):Int)) (Gb (YR l_0 n_1 (s:=((0:Nat),([]:List ((List UInt8)×Bool)))) (r:=Sum.inr (o2)) (eS γ.1.2 γ.2)))) <|
  .leaf 0 []))
def VI (l_0:(List Gj)) (n_1:Gf):Option Int:=(GaX l_0 n_1).den
theorem RG (l_0:(List Gj)) (n_1:Gf) (r:Int) (h:VI l_0 n_1=some r):RT 130 [.lst (fl Gj.enc l_0) l_0.length,.agg (Gf.enc n_1)] (jI r) []:=
 HA.of_ht 400 (GaX l_0 n_1) (fun (r:Int)=>jI r) (fun (r:Int)=>[]) (by kernel_rfl) h
def RI (n_0:Gf) (name_1:(List UInt8)):Nat→HT (Nat⊕(Unit⊕Unit)) True
 | k5=>.run (cs 4 [oa]) (fun _=>Hg) <|
  .sp ((↑k5:Int)<(↑n_0.Points.length:Int))
  (.run [bt] (fun γ=>Gb (dT γ.2)) <|
  .bd (n_0.Points[k5]?) fun x8=>.run (cs 3 [oN (.i k5),oc,oN (.v [.str x8.Name]),oc,oa]) (fun γ=>k2 (ir γ.2) (k2 (GD (f:=Gr.enc) (z:=2) (fun _=>rfl) γ.2) (Gb (GL (f:=Gr.enc) (z:=3) (j:=k5) (a:=0) (n:=1) (fun _=>rfl) γ.2 (by decide) rfl)))) <|
  .sp (x8.Name=name_1)
  (.run [bt,oc] (fun γ=>Gb (Gu γ.2)) <|
  .leaf (.inr (.inl ())) [0])
  (.run [bf] (fun γ=>Gb (Gz γ.2)) <|
  .gd (GS .i64 ((↑k5:Int)+1)) <| .run [oc,ow,oc] (fun γ=>Gb γ.2) <|
  .leaf (.inl (k5+1)) [0]))
  (.run [bf] (fun γ=>Gb (dF γ.2)) <|
  .leaf (.inr (.inr (()))) [0])
def Kq (n_0:Gf) (name_1:(List UInt8)):Nat→Option (Nat⊕(Unit⊕Unit)):=fun s=>(RI n_0 name_1 s).den
def Gee (n_0:Gf) (name_1:(List UInt8)):Nat→PS:=fun s=>(21,[(1,.str name_1),(2,.ptr 0 0),(5,jI (↑s:Int))],[(bT (Gf.enc n_0) 25)])
def Geg:(Unit⊕Unit)→Hm:=fun q=>match q with | Sum.inl o=>.ret | Sum.inr (o)=>(.exit 0)
def Gef (n_0:Gf) (name_1:(List UInt8)):(Unit⊕Unit)→List (Nat×AV):=fun q=>match q with | Sum.inl o=>[(4,.bool true)] | Sum.inr (o)=>[]
def Ged (n_0:Gf) (name_1:(List UInt8)):(Unit⊕Unit)→List Hb:=fun _=>[(bT (Gf.enc n_0) 25)]
theorem ZY (n_0:Gf) (name_1:(List UInt8)) {s:Nat} {r:Unit⊕Unit} (h:lp (Kq n_0 name_1) s=some r):DT 1 (.loop (GK Tryz.prog 157 [1,0,1,0,0])) (Gee n_0 name_1 s).st (Geg r) (PS.st (21,Gef n_0 name_1 r,Ged n_0 name_1 r)):=
 GN.lp_ht 1 400 (Gee n_0 name_1) Geg (fun q=>(21,Gef n_0 name_1 q,Ged n_0 name_1 q)) (RI n_0 name_1) (by intro k5; kernel_rfl) h
def GdF (n_0:Gf) (name_1:(List UInt8)):HT Bool True:=.run (cs 3 []) (fun _=>Hg) <|
  .bd (lp (Kq n_0 name_1) (0:Nat)) fun qq=>.cs qq (fun o1=>.run [.fcut 1 .ret [(4,.bool true)] [(bT (Gf.enc n_0) 25)] [0] [(1,.any),(2,.any),(5,jI (↑(0:Nat):Int))] [bS]] (fun γ=>k2 (rfl:(jI 0:AV)=jI (↑(0:Nat):Int)) (Gb (ZY n_0 name_1 (s:=(0:Nat)) (r:=Sum.inl o1) (eS γ.1.2 γ.2)))) <|
  .leaf true [])
  (fun o1=>.run [.fcut 1 (.exit 0) [] [(bT (Gf.enc n_0) 25)] [0] [(1,.any),(2,.any),(5,jI (↑(0:Nat):Int))] [bS],oc] (fun γ=>k2 (rfl:(jI 0:AV)=jI (↑(0:Nat):Int)) (Gb (ZY n_0 name_1 (s:=(0:Nat)) (r:=Sum.inr (o1)) (eS γ.1.2 γ.2)))) <|
  .leaf false [])
def Gcs (n_0:Gf) (name_1:(List UInt8)):Option Bool:=(GdF n_0 name_1).den
theorem GnG (n_0:Gf) (name_1:(List UInt8)) (r:Bool) (h:Gcs n_0 name_1=some r):RT 157 [.agg (Gf.enc n_0),.str name_1] (.bool r) []:=
 HA.of_ht 400 (GdF n_0 name_1) (fun (r:Bool)=>.bool r) (fun (r:Bool)=>[]) (by kernel_rfl) h
def GgI (t_0:Int):HT Bool True:=.run [oc] (fun _=>Hg) <|
  .sp (t_0≥(0:Int))
  (.run (oc::oa::oc::tc::oa::(cs 2 [])) (fun γ=>Gb (dT γ.2)) <|
  .leaf (decide (t_0<(68719476736:Int))) [])
  (.run (oc::oa::oc::oF::(cs 3 [])) (fun γ=>Gb (dF γ.2)) <|
  .leaf false [])
def Gec (t_0:Int):Option Bool:=(GgI t_0).den
theorem Qw (t_0:Int) (r:Bool) (h:Gec t_0=some r):RT 158 [jI t_0] (.bool r) []:=
 HA.of_ht 400 (GgI t_0) (fun (r:Bool)=>.bool r) (fun (r:Bool)=>[]) (by kernel_rfl) h
def GgH (i_0:Gp):HT Bool True:=.run (cs 2 []) (fun _=>Hg) <|
  .sp (i_0.From≥(0:Int))
  (.sp (i_0.From<i_0.To)
  (.run (cs 2 (oa::oc::tc::(cs 3 (oa::(cs 2 (tc::oc::oa::(cs 2 []))))))) (fun γ=>k2 (dT γ.1.2) (Gb (dT γ.2))) <|
  .leaf (decide (i_0.To≤(68719476736:Int))) [])
  (.run (cs 2 (oa::oc::tc::(cs 3 (oa::(cs 2 (oF::(cs 4 []))))))) (fun γ=>k2 (dT γ.1.2) (Gb (dF γ.2))) <|
  .leaf false []))
  (.run (cs 2 (oa::oc::oF::(cs 11 []))) (fun γ=>Gb (dF γ.2)) <|
  .leaf false [])
def Gik (i_0:Gp):Option Bool:=(GgH i_0).den
theorem GpM (i_0:Gp) (r:Bool) (h:Gik i_0=some r):RT 159 [.agg (Gp.enc i_0)] (.bool r) []:=
 HA.of_ht 400 (GgH i_0) (fun (r:Bool)=>.bool r) (fun (r:Bool)=>[]) (by kernel_rfl) h
def Gct (d_0:Gj):Nat→HT (Nat⊕(Int⊕Unit)) True
 | k5=>.run (cs 4 [oa]) (fun _=>Hg) <|
  .sp ((↑k5:Int)<(↑d_0.Offsets.length:Int))
  (.run [bt] (fun γ=>Gb (dT γ.2)) <|
  .sp ((↑k5:Int)>(0:Int))
  (.bd (d_0.Offsets[k5]?) fun x34=>.gd (GS .i64 ((↑k5:Int) - 1)) <| .gd ((0:Int)≤((↑k5:Int) - 1)) <| .bd (d_0.Offsets[(Int.toNat ((↑k5:Int) - 1))]?) fun x38=>.run [oc,oa,oc,tc,tc,tc,.op (some true) (.i k5),tc,.op (some true) (.v [jI x34.From]),tc,tc,tc,tw,.op (some true) (.i (Int.toNat ((↑k5:Int) - 1))),tc,.op (some true) (.v [jI x38.From]),ta,oN (.b true)] (fun γ=>k2 (dT (HW γ)) (k2 (dT (HW γ)) (k2 (dT (HW γ)) (k2 (dT (HW γ)) (k2 (ir (G0 γ)) (k2 (GD (f:=GF.enc) (z:=1) (fun _=>rfl) (G0 γ)) (k2 (dT (HW γ)) (k2 (dT (HW γ)) (k2 (GL (f:=GF.enc) (z:=2) (j:=k5) (a:=0) (n:=1) (fun _=>rfl) (G0 γ) (by decide) rfl) (k2 (dT (HW γ)) (k2 (dT (HW γ)) (k2 (dT (HW γ)) (k2 (dT (HW γ)) (k2 γ.1.1.2 (k2 (dT (HW γ)) (k2 (ix γ.1.2 γ.2) (k2 (GD (f:=GF.enc) (z:=1) (fun _=>rfl) γ.2) (k2 (dT (HW γ)) (k2 (dT (HW γ)) (k2 (GL (f:=GF.enc) (z:=2) (j:=(Int.toNat ((↑k5:Int) - 1))) (a:=0) (n:=1) (fun _=>rfl) γ.2 (by decide) rfl) (k2 (dT (HW γ)) (Gb (dT (HW γ)))))))))))))))))))))))) <|
  .sp (x34.From≤x38.From)
  (.run [bt,oc] (fun γ=>Gb (dT γ.2)) <|
  .leaf (.inr (.inl 15)) [0])
  (.run [bf] (fun γ=>Gb (dF γ.2)) <|
  .bd (Gec x34.From) fun r41=>.sp (r41=true)
  (.sp (x34.Delta<(-86400:Int))
  (.run (cs 3 ((oN (.i k5))::oc::(oN (.v [jI x34.From]))::(rN [.any] (.bool r41) [])::(cs 2 (oF::(cs 2 ((oN (.i k5))::oc::(oN (.v [jI x34.Delta]))::oa::(cs 2 (tc::(cs 7 [bt,oc]))))))))) (fun γ=>k2 (ir (RB γ)) (k2 (GD (f:=GF.enc) (z:=1) (fun _=>rfl) (RB γ)) (k2 (GL (f:=GF.enc) (z:=2) (j:=k5) (a:=0) (n:=1) (fun _=>rfl) (RB γ) (by decide) rfl) (k2 (Qw x34.From r41 γ.1.1.2) (k2 ((Gx γ.1.2):(!r41)=false) (k2 (ir (RB γ)) (k2 (GD (f:=GF.enc) (z:=1) (fun _=>rfl) (RB γ)) (k2 (GL (f:=GF.enc) (z:=2) (j:=k5) (a:=1) (n:=1) (fun _=>rfl) (RB γ) (by decide) rfl) (k2 (dT γ.2) (Gb tT)))))))))) <|
  .leaf (.inr (.inl 1)) [0])
  (.run (cs 3 ((oN (.i k5))::oc::(oN (.v [jI x34.From]))::(rN [.any] (.bool r41) [])::(cs 2 (oF::(cs 2 ((oN (.i k5))::oc::(oN (.v [jI x34.Delta]))::oa::(cs 2 (oF::(cs 2 [oN (.i k5),oc,oN (.v [jI x34.Delta]),oa,oc]))))))))) (fun γ=>k2 (ir (RB γ)) (k2 (GD (f:=GF.enc) (z:=1) (fun _=>rfl) (RB γ)) (k2 (GL (f:=GF.enc) (z:=2) (j:=k5) (a:=0) (n:=1) (fun _=>rfl) (RB γ) (by decide) rfl) (k2 (Qw x34.From r41 γ.1.1.2) (k2 ((Gx γ.1.2):(!r41)=false) (k2 (ir (RB γ)) (k2 (GD (f:=GF.enc) (z:=1) (fun _=>rfl) (RB γ)) (k2 (GL (f:=GF.enc) (z:=2) (j:=k5) (a:=1) (n:=1) (fun _=>rfl) (RB γ) (by decide) rfl) (k2 (dF γ.2) (k2 (ir (RB γ)) (k2 (GD (f:=GF.enc) (z:=1) (fun _=>rfl) (RB γ)) (Gb (GL (f:=GF.enc) (z:=2) (j:=k5) (a:=1) (n:=1) (fun _=>rfl) (RB γ) (by decide) rfl))))))))))))) <|
  .sp (x34.Delta>(86400:Int))
  (.run [bt,oc] (fun γ=>Gb (dT γ.2)) <|
  .leaf (.inr (.inl 1)) [0])
  (.run [bf] (fun γ=>Gb (dF γ.2)) <|
  .gd (GS .i64 ((↑k5:Int)+1)) <| .run [oc,ow,oc] (fun γ=>Gb γ.2) <|
  .leaf (.inl (k5+1)) [0])))
  (.run (cs 3 ((oN (.i k5))::oc::(oN (.v [jI x34.From]))::(rN [.any] (.bool r41) [])::(cs 2 (tc::(cs 16 [bt,oc]))))) (fun γ=>k2 (ir (yA6 γ)) (k2 (GD (f:=GF.enc) (z:=1) (fun _=>rfl) (yA6 γ)) (k2 (GL (f:=GF.enc) (z:=2) (j:=k5) (a:=0) (n:=1) (fun _=>rfl) (yA6 γ) (by decide) rfl) (k2 (Qw x34.From r41 γ.1.2) (k2 ((Gy (Ja γ.2)):(!r41)=true) (Gb tT)))))) <|
  .leaf (.inr (.inl 1)) [0])))
  (.run [oc,oa,oc,oF,oF,oF,oF,oF,oF,oF,oF,oF,oF,oF,oF,oF,oF,oN (.b false),bf] (fun γ=>k2 (dF γ.2) (k2 (dF γ.2) (k2 (dF γ.2) (k2 (dF γ.2) (k2 (dF γ.2) (k2 (dF γ.2) (k2 (dF γ.2) (k2 (dF γ.2) (k2 (dF γ.2) (k2 (dF γ.2) (k2 (dF γ.2) (k2 (dF γ.2) (k2 (dF γ.2) (k2 (dF γ.2) (k2 (dF γ.2) (Gb fF)))))))))))))))) <|
  .bd (d_0.Offsets[k5]?) fun x47=>.bd (Gec x47.From) fun r49=>.sp (r49=true)
  (.sp (x47.Delta<(-86400:Int))
  (.run (cs 3 ((oN (.i k5))::oc::(oN (.v [jI x47.From]))::(rN [.any] (.bool r49) [])::(cs 2 (oF::(cs 2 ((oN (.i k5))::oc::(oN (.v [jI x47.Delta]))::oa::(cs 2 (tc::(cs 7 [bt,oc]))))))))) (fun γ=>k2 (ir (G0 γ)) (k2 (GD (f:=GF.enc) (z:=1) (fun _=>rfl) (G0 γ)) (k2 (GL (f:=GF.enc) (z:=2) (j:=k5) (a:=0) (n:=1) (fun _=>rfl) (G0 γ) (by decide) rfl) (k2 (Qw x47.From r49 γ.1.1.2) (k2 ((Gx γ.1.2):(!r49)=false) (k2 (ir (G0 γ)) (k2 (GD (f:=GF.enc) (z:=1) (fun _=>rfl) (G0 γ)) (k2 (GL (f:=GF.enc) (z:=2) (j:=k5) (a:=1) (n:=1) (fun _=>rfl) (G0 γ) (by decide) rfl) (k2 (dT γ.2) (Gb tT)))))))))) <|
  .leaf (.inr (.inl 1)) [0])
  (.run (cs 3 ((oN (.i k5))::oc::(oN (.v [jI x47.From]))::(rN [.any] (.bool r49) [])::(cs 2 (oF::(cs 2 ((oN (.i k5))::oc::(oN (.v [jI x47.Delta]))::oa::(cs 2 (oF::(cs 2 [oN (.i k5),oc,oN (.v [jI x47.Delta]),oa,oc]))))))))) (fun γ=>k2 (ir (G0 γ)) (k2 (GD (f:=GF.enc) (z:=1) (fun _=>rfl) (G0 γ)) (k2 (GL (f:=GF.enc) (z:=2) (j:=k5) (a:=0) (n:=1) (fun _=>rfl) (G0 γ) (by decide) rfl) (k2 (Qw x47.From r49 γ.1.1.2) (k2 ((Gx γ.1.2):(!r49)=false) (k2 (ir (G0 γ)) (k2 (GD (f:=GF.enc) (z:=1) (fun _=>rfl) (G0 γ)) (k2 (GL (f:=GF.enc) (z:=2) (j:=k5) (a:=1) (n:=1) (fun _=>rfl) (G0 γ) (by decide) rfl) (k2 (dF γ.2) (k2 (ir (G0 γ)) (k2 (GD (f:=GF.enc) (z:=1) (fun _=>rfl) (G0 γ)) (Gb (GL (f:=GF.enc) (z:=2) (j:=k5) (a:=1) (n:=1) (fun _=>rfl) (G0 γ) (by decide) rfl))))))))))))) <|
  .sp (x47.Delta>(86400:Int))
  (.run [bt,oc] (fun γ=>Gb (dT γ.2)) <|
  .leaf (.inr (.inl 1)) [0])
  (.run [bf] (fun γ=>Gb (dF γ.2)) <|
  .gd (GS .i64 ((↑k5:Int)+1)) <| .run [oc,ow,oc] (fun γ=>Gb γ.2) <|
  .leaf (.inl (k5+1)) [0])))
  (.run (cs 3 ((oN (.i k5))::oc::(oN (.v [jI x47.From]))::(rN [.any] (.bool r49) [])::(cs 2 (tc::(cs 16 [bt,oc]))))) (fun γ=>k2 (ir γ.1.1.2) (k2 (GD (f:=GF.enc) (z:=1) (fun _=>rfl) γ.1.1.2) (k2 (GL (f:=GF.enc) (z:=2) (j:=k5) (a:=0) (n:=1) (fun _=>rfl) γ.1.1.2 (by decide) rfl) (k2 (Qw x47.From r49 γ.1.2) (k2 ((Gy (Ja γ.2)):(!r49)=true) (Gb tT)))))) <|
  .leaf (.inr (.inl 1)) [0])))
  (.run [bf] (fun γ=>Gb (dF γ.2)) <|
  .leaf (.inr (.inr (()))) [0])
def Rm (d_0:Gj):Nat→Option (Nat⊕(Int⊕Unit)):=fun s=>(Gct d_0 s).den
def Gnd (d_0:Gj):Nat→PS:=fun s=>(113,[(2,.ptr 0 0),(5,jI (↑s:Int))],[(bT (Gj.enc d_0) 77)])
def Gnf:(Int⊕Unit)→Hm:=fun q=>match q with | Sum.inl o=>.ret | Sum.inr (o)=>(.exit 0)
def Gne (d_0:Gj):(Int⊕Unit)→List (Nat×AV):=fun q=>match q with | Sum.inl o=>[(4,jI o)] | Sum.inr (o)=>[(2,.ptr 0 0)]
def Gnc (d_0:Gj):(Int⊕Unit)→List Hb:=fun _=>[(bT (Gj.enc d_0) 77)]
theorem GgJ (d_0:Gj) {s:Nat} {r:Int⊕Unit} (h:lp (Rm d_0) s=some r):DT 1 (.loop (GK Tryz.prog 98 [1,1,1,0,1,0,0])) (Gnd d_0 s).st (Gnf r) (PS.st (113,Gne d_0 r,Gnc d_0 r)):=
 GN.lp_ht 1 400 (Gnd d_0) Gnf (fun q=>(113,Gne d_0 q,Gnc d_0 q)) (Gct d_0) (by intro k5; kernel_rfl) h
def Gak (d_0:Gj):Nat→HT (Nat⊕(Int⊕Unit)) True
 | k6=>.run (cs 4 [oa]) (fun _=>Hg) <|
  .sp ((↑k6:Int)<(↑d_0.Down.length:Int))
  (.run [bt] (fun γ=>Gb (dT γ.2)) <|
  .bd (d_0.Down[k6]?) fun x71=>.bd (Gik x71) fun r73=>.run (cs 3 [oN (.i k6),oN (.v [jI x71.From,jI x71.To]),rN [.any] (.bool r73) [],oc]) (fun γ=>k2 (ir γ.1.2) (k2 (GD (f:=Gp.enc) (z:=1) (fun _=>rfl) γ.1.2) (k2 (GX (f:=Gp.enc) (z:=2) (j:=k6) (fun _=>rfl) γ.1.2 rfl) (Gb (GpM x71 r73 γ.2))))) <|
  .sp (r73=true)
  (.run [bf] (fun γ=>Gb ((Gx γ.2):(!r73)=false)) <|
  .sp ((↑k6:Int)>(0:Int))
  (.gd (GS .i64 ((↑k6:Int) - 1)) <| .gd ((0:Int)≤((↑k6:Int) - 1)) <| .bd (d_0.Down[(Int.toNat ((↑k6:Int) - 1))]?) fun x79=>.run [oc,oa,oc,tc,tc,tc,.op (some true) (.i k6),tc,.op (some true) (.v [jI x71.From]),tc,tc,tc,tw,.op (some true) (.i (Int.toNat ((↑k6:Int) - 1))),tc,.op (some true) (.v [jI x79.To]),ta,oN (.b true)] (fun γ=>k2 (dT (G0 γ)) (k2 (dT (G0 γ)) (k2 (dT (G0 γ)) (k2 (dT (G0 γ)) (k2 (ir (yA6 γ)) (k2 (GD (f:=Gp.enc) (z:=1) (fun _=>rfl) (yA6 γ)) (k2 (dT (G0 γ)) (k2 (dT (G0 γ)) (k2 (GL (f:=Gp.enc) (z:=2) (j:=k6) (a:=0) (n:=1) (fun _=>rfl) (yA6 γ) (by decide) rfl) (k2 (dT (G0 γ)) (k2 (dT (G0 γ)) (k2 (dT (G0 γ)) (k2 (dT (G0 γ)) (k2 γ.1.1.2 (k2 (dT (G0 γ)) (k2 (ix γ.1.2 γ.2) (k2 (GD (f:=Gp.enc) (z:=1) (fun _=>rfl) γ.2) (k2 (dT (G0 γ)) (k2 (dT (G0 γ)) (k2 (GL (f:=Gp.enc) (z:=2) (j:=(Int.toNat ((↑k6:Int) - 1))) (a:=1) (n:=1) (fun _=>rfl) γ.2 (by decide) rfl) (k2 (dT (G0 γ)) (Gb (dT (G0 γ)))))))))))))))))))))))) <|
  .sp (x71.From≤x79.To)
  (.run [bt,oc] (fun γ=>Gb (dT γ.2)) <|
  .leaf (.inr (.inl 15)) [0])
  (.run [bf] (fun γ=>Gb (dF γ.2)) <|
  .gd (GS .i64 ((↑k6:Int)+1)) <| .run [oc,ow,oc] (fun γ=>Gb γ.2) <|
  .leaf (.inl (k6+1)) [0]))
  (.run [oc,oa,oc,oF,oF,oF,oF,oF,oF,oF,oF,oF,oF,oF,oF,oF,oF,oN (.b false),bf] (fun γ=>k2 (dF γ.2) (k2 (dF γ.2) (k2 (dF γ.2) (k2 (dF γ.2) (k2 (dF γ.2) (k2 (dF γ.2) (k2 (dF γ.2) (k2 (dF γ.2) (k2 (dF γ.2) (k2 (dF γ.2) (k2 (dF γ.2) (k2 (dF γ.2) (k2 (dF γ.2) (k2 (dF γ.2) (k2 (dF γ.2) (Gb fF)))))))))))))))) <|
  .gd (GS .i64 ((↑k6:Int)+1)) <| .run [oc,ow,oc] (fun γ=>Gb γ.2) <|
  .leaf (.inl (k6+1)) [0]))
  (.run [bt,oc] (fun γ=>Gb ((Gy (Ja γ.2)):(!r73)=true)) <|
  .leaf (.inr (.inl 12)) [0]))
  (.run [bf] (fun γ=>Gb (dF γ.2)) <|
  .leaf (.inr (.inr (()))) [0])
def Qp (d_0:Gj):Nat→Option (Nat⊕(Int⊕Unit)):=fun s=>(Gak d_0 s).den
def Gk7 (d_0:Gj):Nat→PS:=fun s=>(113,[(2,.ptr 0 0),(6,jI (↑s:Int))],[(bT (Gj.enc d_0) 77)])
def Gk9:(Int⊕Unit)→Hm:=fun q=>match q with | Sum.inl o=>.ret | Sum.inr (o)=>(.exit 2)
def Gk8 (d_0:Gj):(Int⊕Unit)→List (Nat×AV):=fun q=>match q with | Sum.inl o=>[(4,jI o)] | Sum.inr (o)=>[]
def Gk6 (d_0:Gj):(Int⊕Unit)→List Hb:=fun _=>[(bT (Gj.enc d_0) 77)]
theorem GfI (d_0:Gj) {s:Nat} {r:Int⊕Unit} (h:lp (Qp d_0) s=some r):DT 1 (.loop (GK Tryz.prog 98 [1,1,1,1,0,1,0,0])) (Gk7 d_0 s).st (Gk9 r) (PS.st (113,Gk8 d_0 r,Gk6 d_0 r)):=
 GN.lp_ht 1 400 (Gk7 d_0) Gk9 (fun q=>(113,Gk8 d_0 q,Gk6 d_0 q)) (Gak d_0) (by intro k6; kernel_rfl) h
def GoD (d_0:Gj) (n_1:Gf):HT Int True:=.run (cs 3 []) (fun _=>Hg) <|
  .bd (Gcs n_1 d_0.Point) fun r1=>.run (cs 3 [rN [.any,.any] (.bool r1) [],oc]) (fun γ=>Gb (GnG n_1 d_0.Point r1 γ.2)) <|
  .sp (r1=true)
  (.run [bf] (fun γ=>Gb ((Gx γ.2):(!r1)=false)) <|
  .sp (d_0.Kind<(1:Int))
  (.run (cs 2 (oa::oc::tc::(cs 13 [bt,oc]))) (fun γ=>k2 (dT γ.2) (Gb tT)) <|
  .leaf 1 [])
  (.sp (d_0.Kind>(3:Int))
  (.run (cs 2 (oa::oc::oF::oc::oa::(cs 2 (tc::(cs 8 [bt,oc]))))) (fun γ=>k2 (dF γ.1.2) (k2 (dT γ.2) (Gb tT))) <|
  .leaf 1 [])
  (.sp (d_0.Lane<(0:Int))
  (.run (cs 2 (oa::oc::oF::oc::oa::(cs 2 (oF::oc::oa::(cs 2 (tc::(cs 3 [bt,oc]))))))) (fun γ=>k2 (dF γ.1.1.2) (k2 (dF γ.1.2) (k2 (dT γ.2) (Gb tT)))) <|
  .leaf 1 [])
  (.run (cs 2 (oa::oc::oF::oc::oa::(cs 2 (oF::oc::oa::(cs 2 [oF,oc,oa,oc]))))) (fun γ=>k2 (dF γ.1.1.2) (k2 (dF γ.1.2) (Gb (dF γ.2)))) <|
  .sp (d_0.Lane>(15:Int))
  (.run [bt,oc] (fun γ=>Gb (dT γ.2)) <|
  .leaf 1 [])
  (.run [bf,oc] (fun γ=>Gb (dF γ.2)) <|
  .bd (lp (Rm d_0) (0:Nat)) fun qq=>.cs qq (fun o8=>.run [.fcut 1 .ret [(4,jI o8)] [(bT (Gj.enc d_0) 77)] [0] [(2,.any),(5,jI (↑(0:Nat):Int))] [bS]] (fun γ=>k2 (rfl:(jI 0:AV)=jI (↑(0:Nat):Int)) (Gb (GgJ d_0 (s:=(0:Nat)) (r:=Sum.inl o8) (eS γ.1.2 γ.2)))) <|
  .leaf o8 [])
  (fun o8=>.run [.fcut 1 (.exit 0) [(2,.ptr 0 0)] [(bT (Gj.enc d_0) 77)] [0] [(2,.any),(5,jI (↑(0:Nat):Int))] [bS],oc] (fun γ=>k2 (rfl:(jI 0:AV)=jI (↑(0:Nat):Int)) (Gb (GgJ d_0 (s:=(0:Nat)) (r:=Sum.inr (o8)) (eS γ.1.2 γ.2)))) <|
  .bd (lp (Qp d_0) (0:Nat)) fun qq=>.cs qq (fun o55=>.run [.fcut 1 .ret [(4,jI o55)] [(bT (Gj.enc d_0) 77)] [0] [(2,.any),(6,jI (↑(0:Nat):Int))] [bS]] (fun γ=>k2 (rfl:(jI 0:AV)=jI (↑(0:Nat):Int)) (Gb (GfI d_0 (s:=(0:Nat)) (r:=Sum.inl o55) (eS γ.1.2 γ.2)))) <|
  .leaf o55 [])
  (fun o55=>.run [.fcut 1 (.exit 2) [] [(bT (Gj.enc d_0) 77)] [0] [(2,.any),(6,jI (↑(0:Nat):Int))] [bS],oc] (fun γ=>k2 (rfl:(jI 0:AV)=jI (↑(0:Nat):Int)) (Gb (GfI d_0 (s:=(0:Nat)) (r:=Sum.inr (o55)) (eS γ.1.2 γ.2)))) <|
  .leaf 0 [])))))))
  (.run [bt,oc] (fun γ=>Gb ((Gy (Ja γ.2)):(!r1)=true)) <|
  .leaf 16 [])
def Grt (d_0:Gj) (n_1:Gf):Option Int:=(GoD d_0 n_1).den
theorem Gur (d_0:Gj) (n_1:Gf) (r:Int) (h:Grt d_0 n_1=some r):RT 98 [.agg (Gj.enc d_0),.agg (Gf.enc n_1)] (jI r) []:=
 HA.of_ht 400 (GoD d_0 n_1) (fun (r:Int)=>jI r) (fun (r:Int)=>[]) (by kernel_rfl) h
def VX (l_0:(List Gj)) (n_1:Gf) (k5:Nat):Nat→HT (Nat⊕(Unit⊕Unit)) True
 | k6=>.run (cs 2 [oa]) (fun _=>Hg) <|
  .sp ((↑k6:Int)<(↑k5:Int))
  (.run [bt] (fun γ=>Gb (dT γ.2)) <|
  .bd (l_0[k6]?) fun x43=>.bd (l_0[k5]?) fun x45=>.run (cs 2 ((oN (.i k6))::oc::(oN (.v [.str x43.Name]))::(cs 2 [oN (.i k5),oc,oN (.v [.str x45.Name]),oa]))) (fun γ=>k2 (ir γ.1.2) (k2 (GD (f:=Gj.enc) (z:=5) (fun _=>rfl) γ.1.2) (k2 (GL (f:=Gj.enc) (z:=6) (j:=k6) (a:=0) (n:=1) (fun _=>rfl) γ.1.2 (by decide) rfl) (k2 (ir γ.2) (k2 (GD (f:=Gj.enc) (z:=5) (fun _=>rfl) γ.2) (Gb (GL (f:=Gj.enc) (z:=6) (j:=k5) (a:=0) (n:=1) (fun _=>rfl) γ.2 (by decide) rfl))))))) <|
  .sp (x43.Name=x45.Name)
  (.run [bt,oc] (fun γ=>Gb (Gu γ.2)) <|
  .leaf (.inr (.inl ())) [0])
  (.run [bf] (fun γ=>Gb (Gz γ.2)) <|
  .gd (GS .i64 ((↑k6:Int)+1)) <| .run [oc,ow,oc] (fun γ=>Gb γ.2) <|
  .leaf (.inl (k6+1)) [0]))
  (.run [bf] (fun γ=>Gb (dF γ.2)) <|
  .leaf (.inr (.inr (()))) [0])
def K7 (l_0:(List Gj)) (n_1:Gf) (k5:Nat):Nat→Option (Nat⊕(Unit⊕Unit)):=fun s=>(VX l_0 n_1 k5 s).den
def GgA (l_0:(List Gj)) (n_1:Gf) (k5:Nat):Nat→PS:=fun s=>(49,[(0,.lst (fl Gj.enc l_0) l_0.length),(3,.ptr 0 0),(5,jI (↑k5:Int)),(6,jI (↑s:Int))],[(bT (Gf.enc n_1) 25)])
def GgB:(Unit⊕Unit)→Hm:=fun q=>match q with | Sum.inl o=>.ret | Sum.inr (o)=>(.exit 2)
def Ga2 (l_0:(List Gj)) (n_1:Gf) (k5:Nat):(Unit⊕Unit)→List (Nat×AV):=fun q=>match q with | Sum.inl o=>[(4,jI 9)] | Sum.inr (o)=>[(0,.lst (fl Gj.enc l_0) l_0.length),(3,.ptr 0 0),(5,jI (↑k5:Int))]
def Ggz (l_0:(List Gj)) (n_1:Gf) (k5:Nat):(Unit⊕Unit)→List Hb:=fun _=>[(bT (Gf.enc n_1) 25)]
theorem Gcq (l_0:(List Gj)) (n_1:Gf) (k5:Nat) {s:Nat} {r:Unit⊕Unit} (h:lp (K7 l_0 n_1 k5) s=some r):DT 1 (.loop (GK Tryz.prog 30 [1,1,0,1,0,0,1,0,0,1,0,1,0,0])) (GgA l_0 n_1 k5 s).st (GgB r) (PS.st (49,Ga2 l_0 n_1 k5 r,Ggz l_0 n_1 k5 r)):=
 GN.lp_ht 1 400 (GgA l_0 n_1 k5) GgB (fun q=>(49,Ga2 l_0 n_1 k5 q,Ggz l_0 n_1 k5 q)) (VX l_0 n_1 k5) (by intro k6; kernel_rfl) h
def Yo (l_0:(List Gj)) (n_1:Gf):Nat→HT (Nat⊕(Int⊕Unit)) True
 | k5=>.run (cs 3 [oa]) (fun _=>Hg) <|
  .sp ((↑k5:Int)<(↑l_0.length:Int))
  (.run [bt] (fun γ=>Gb (dT γ.2)) <|
  .bd (l_0[k5]?) fun x29=>.bd (Gij x29.Name) fun r31=>.run (cs 2 [oN (.i k5),oc,oN (.v [.str x29.Name]),rN [.any] (.bool r31) [],oc]) (fun γ=>k2 (ir γ.1.2) (k2 (GD (f:=Gj.enc) (z:=5) (fun _=>rfl) γ.1.2) (k2 (GL (f:=Gj.enc) (z:=6) (j:=k5) (a:=0) (n:=1) (fun _=>rfl) γ.1.2 (by decide) rfl) (Gb (GpL x29.Name r31 γ.2))))) <|
  .sp (r31=true)
  (.run [bf,oc] (fun γ=>Gb ((Gx γ.2):(!r31)=false)) <|
  .bd (lp (K7 l_0 n_1 k5) (0:Nat)) fun qq=>.cs qq (fun o34=>.run [.fcut 1 .ret [(4,jI 9)] [(bT (Gf.enc n_1) 25)] [0] [(0,.any),(3,.any),(5,.any),(6,jI (↑(0:Nat):Int))] [bS]] (fun γ=>k2 (rfl:(jI 0:AV)=jI (↑(0:Nat):Int)) (Gb (Gcq l_0 n_1 k5 (s:=(0:Nat)) (r:=Sum.inl o34) (eS γ.1.2 γ.2)))) <|
  .leaf (.inr (.inl 9)) [0])
  (fun o34=>.run [.fcut 1 (.exit 2) (Ga2 l_0 n_1 k5 (Sum.inr (o34))) [(bT (Gf.enc n_1) 25)] [0] [(0,.any),(3,.any),(5,.any),(6,jI (↑(0:Nat):Int))] [bS]] (fun γ=>k2 (rfl:(jI 0:AV)=jI (↑(0:Nat):Int)) (Gb (Gcq l_0 n_1 k5 (s:=(0:Nat)) (r:=Sum.inr (o34)) (eS γ.1.2 γ.2)))) <|
  .bd (Grt x29 n_1) fun r49=>.run (cs 2 ((oN (.i k5))::(oN (.v [.str x29.Name,.str x29.Point,jI x29.Kind,jI x29.Lane,.lst (fl GF.enc x29.Offsets) x29.Offsets.length,.lst (fl Gp.enc x29.Down) x29.Down.length]))::oc::(rN [.any,.any] (jI r49) [])::(cs 2 [oa]))) (fun γ=>k2 (ir (RA γ)) (k2 (GD (f:=Gj.enc) (z:=5) (fun _=>rfl) (RA γ)) (k2 (GX (f:=Gj.enc) (z:=6) (j:=k5) (fun _=>rfl) (RA γ) rfl) (Gb (Gur x29 n_1 r49 γ.2))))) <|
  .sp (r49=(0:Int))
  (.run [bf] (fun γ=>Gb (Gx (Gu γ.2))) <|
  .gd (GS .i64 ((↑k5:Int)+1)) <| .run [oc,ow,oc] (fun γ=>Gb γ.2) <|
  .leaf (.inl (k5+1)) [0])
  (.run (bt::(cs 2 [])) (fun γ=>Gb (Gy (Gz γ.2))) <|
  .leaf (.inr (.inl r49)) [0])))
  (.run [bt,oc] (fun γ=>Gb ((Gy (Ja γ.2)):(!r31)=true)) <|
  .leaf (.inr (.inl 6)) [0]))
  (.run [bf] (fun γ=>Gb (dF γ.2)) <|
  .leaf (.inr (.inr (()))) [0])
def MP (l_0:(List Gj)) (n_1:Gf):Nat→Option (Nat⊕(Int⊕Unit)):=fun s=>(Yo l_0 n_1 s).den
def GiL (l_0:(List Gj)) (n_1:Gf):Nat→PS:=fun s=>(49,[(0,.lst (fl Gj.enc l_0) l_0.length),(3,.ptr 0 0),(5,jI (↑s:Int))],[(bT (Gf.enc n_1) 25)])
def GiN:(Int⊕Unit)→Hm:=fun q=>match q with | Sum.inl o=>.ret | Sum.inr (o)=>(.exit 0)
def GiM (l_0:(List Gj)) (n_1:Gf):(Int⊕Unit)→List (Nat×AV):=fun q=>match q with | Sum.inl o=>[(4,jI o)] | Sum.inr (o)=>[]
def GiK (l_0:(List Gj)) (n_1:Gf):(Int⊕Unit)→List Hb:=fun _=>[(bT (Gf.enc n_1) 25)]
theorem Geb (l_0:(List Gj)) (n_1:Gf) {s:Nat} {r:Int⊕Unit} (h:lp (MP l_0 n_1) s=some r):DT 1 (.loop (GK Tryz.prog 30 [1,1,0,1,0,0])) (GiL l_0 n_1 s).st (GiN r) (PS.st (49,GiM l_0 n_1 r,GiK l_0 n_1 r)):=
 GN.lp_ht 1 400 (GiL l_0 n_1) GiN (fun q=>(49,GiM l_0 n_1 q,GiK l_0 n_1 q)) (Yo l_0 n_1) (by intro k5; kernel_rfl) h
def Gj6 (l_0:(List Gj)) (n_1:Gf):HT Int True:=.run (cs 4 [oa]) (fun _=>Hg) <|
  .sp ((↑l_0.length:Int)>(1024:Int))
  (.run [bt,oc] (fun γ=>Gb (dT γ.2)) <|
  .leaf 3 [])
  (.run [bf,oc] (fun γ=>Gb (dF γ.2)) <|
  .bd (lp (MP l_0 n_1) (0:Nat)) fun qq=>.cs qq (fun o2=>.run [.fcut 1 .ret [(4,jI o2)] [(bT (Gf.enc n_1) 25)] [0] [(0,.any),(3,.any),(5,jI (↑(0:Nat):Int))] [bS]] (fun γ=>k2 (rfl:(jI 0:AV)=jI (↑(0:Nat):Int)) (Gb (Geb l_0 n_1 (s:=(0:Nat)) (r:=Sum.inl o2) (eS γ.1.2 γ.2)))) <|
  .leaf o2 [])
  (fun o2=>.run [.fcut 1 (.exit 0) [] [(bT (Gf.enc n_1) 25)] [0] [(0,.any),(3,.any),(5,jI (↑(0:Nat):Int))] [bS],oc] (fun γ=>k2 (rfl:(jI 0:AV)=jI (↑(0:Nat):Int)) (Gb (Geb l_0 n_1 (s:=(0:Nat)) (r:=Sum.inr (o2)) (eS γ.1.2 γ.2)))) <|
  .leaf 0 []))
def Ggy (l_0:(List Gj)) (n_1:Gf):Option Int:=(Gj6 l_0 n_1).den
theorem Gaj (l_0:(List Gj)) (n_1:Gf) (r:Int) (h:Ggy l_0 n_1=some r):RT 30 [.lst (fl Gj.enc l_0) l_0.length,.agg (Gf.enc n_1)] (jI r) []:=
 HA.of_ht 400 (Gj6 l_0 n_1) (fun (r:Int)=>jI r) (fun (r:Int)=>[]) (by kernel_rfl) h
end
set_option maxHeartbeats 4000000
noncomputable section
def Gtr (t:Int):Bool:=decide (0≤t∧t<68719476736)
def Ub (i:Gp):Bool:=decide (0≤i.From∧i.From<i.To∧i.To≤68719476736)
theorem Gox (t:Int):YS t=some (Gtr t):=by
 simp only [YS,GdD,d1,d2,d3,d6,Gtr]; grind
theorem GnN (t:Int):Gec t=some (Gtr t):=by
 simp only [Gec,GgI,d1,d2,d3,d6,Gtr]; grind
theorem Uw (i:Gp):JQ i=some (Ub i):=by
 simp only [JQ,Gfu,d1,d2,d3,d6,Ub]; grind
theorem GnM (i:Gp):Gik i=some (Ub i):=by
 simp only [Gik,GgH,d1,d2,d3,d6,Ub]; grind
def GmG (l:List GF) (k:Nat) (x:GF):Option Int:=
 if 0<k∧x.From≤((l[k - 1]?).map (·.From)).getD 0 then some 15 else if Gtr x.From=false∨x.Delta < -86400∨x.Delta>86400 then some 1 else none
def Gml (l:List Gp) (k:Nat) (x:Gp):Option Int:=
 if Ub x=false then some 12 else if 0<k∧x.From≤((l[k - 1]?).map (·.To)).getD 0 then some 15 else none
theorem rd {α:Type} {l:List α} {k:Nat} {x:α} (hl:Sm l) (hx:l[k]?=some x):k<l.length∧GS .i64 ((k:Int)+1)∧GS .i64 ((k:Int) - 1)∧(k:Int)<(l.length:Int)∧l[k - 1]?=some (l[k - 1]'(by have:=Hl hx; omega))∧((k:Int) - 1).toNat=k - 1:=by
 have hk:=Hl hx
 exact ⟨hk,sm1 hl hk,Mh (by omega) (by unfold Sm at hl; omega),by omega,List.getElem?_eq_getElem (by omega),by omega⟩
theorem GkP (l:List GF) (hl:Sm l):lp (Jq l) 0=some (HQ (GJ (GmG l) 0 l)):=by
 refine GP (fun k x hx=>?_) ?_
 ·obtain ⟨hk,i1,i2,hkl,h1,h2⟩:=rd hl hx
  simp only [Jq,My,dA,eN,eM,hx,Hd,Gox,h2,h1,i1,i2,if_true,hkl,GmG]
  clear i1 i2 hl
  grind [K0]
 ·simp only [Jq,My,d3,d6,d1]
  rw [if_neg (by omega)]
theorem GkO (l:List GF) (hl:Sm l):Rg l=some ((GJ (GmG l) 0 l).getD 0):=by
 simp only [Rg,X0,dA,GkP l hl]
 cases GJ (GmG l) 0 l <;> rfl
theorem GkR (l:List Gp) (hl:Sm l):lp (Jr l) 0=some (HQ (GJ (Gml l) 0 l)):=by
 refine GP (fun k x hx=>?_) ?_
 ·obtain ⟨hk,i1,i2,hkl,h1,h2⟩:=rd hl hx
  simp only [Jr,Mz,dA,eN,eM,hx,Hd,Uw,h2,h1,i1,i2,if_true,hkl,Gml]
  clear i1 i2 hl
  grind [K0]
 ·simp only [Jr,Mz,d3,d6,d1]
  rw [if_neg (by omega)]
theorem GkQ (l:List Gp) (hl:Sm l):Rh l=some ((GJ (Gml l) 0 l).getD 0):=by
 simp only [Rh,X1,dA,GkR l hl]
 cases GJ (Gml l) 0 l <;> rfl
def Gwd (name:List UInt8) (y:Gr):Bool:=decide (y.Name=name)
def GuZ (n:Gf) (x:Gj):Option Int:=
 if Zy n.Points x.Point=false then some 16 else if x.Kind<1∨x.Kind>3∨x.Lane<0∨x.Lane>15 then some 1
 else (GJ (GmG x.Offsets) 0 x.Offsets).or (GJ (Gml x.Down) 0 x.Down)
def GpJ (l:List Gj) (n:Gf) (k:Nat) (x:Gj):Option Int:=
 if HR x.Name=false then some 6 else if (l.take k).any (fun y=>decide (y.Name=x.Name)) then some 9 else GuZ n x
theorem Gzd {l:List GF} {k:Nat} {x:GF} {r:Int} (h:GmG l k x=some r):r=15∨r=1:=by unfold GmG at h; grind
theorem GyO {l:List Gp} {k:Nat} {x:Gp} {r:Int} (h:Gml l k x=some r):r=15∨r=12:=by unfold Gml at h; grind
theorem Gir (l:List GF):GJ (GmG l) 0 l=none∨GJ (GmG l) 0 l=some 15∨GJ (GmG l) 0 l=some 1:=by
 cases h:GJ (GmG l) 0 l with
 | none=>exact .inl rfl
 | some r=>obtain ⟨i,x,_,h2⟩:=RH h; rcases Gzd h2 with rfl | rfl <;> simp
theorem Gii (l:List Gp):GJ (Gml l) 0 l=none∨GJ (Gml l) 0 l=some 15∨GJ (Gml l) 0 l=some 12:=by
 cases h:GJ (Gml l) 0 l with
 | none=>exact .inl rfl
 | some r=>obtain ⟨i,x,_,h2⟩:=RH h; rcases GyO h2 with rfl | rfl <;> simp
theorem Gow (n:Gf) (hn:Sm n.Points) (x:Gj):lp (H5 n x) 0=some (HQ (GJ (ixG (Gwd x.Point)) 0 n.Points)):=by
 refine GP (fun k y hy=>?_) ?_
 ·obtain ⟨hk,i1,i2,hkl,h1,h2⟩:=rd hn hy
  simp only [H5,Mx,dA,eN,eM,hy,Hd,i1,if_true,hkl,ixG,Gwd,decide_eq_true_eq]
  by_cases e:y.Name=x.Point <;> simp only [e,if_true,if_false,K0]
 ·simp only [H5,Mx,d3,d6,d1]
  rw [if_neg (by omega)]
theorem Gwr (l:List Gr) (name:List UInt8):Zy l name=(l.find? (Gwd name)).isSome:=by
 unfold Zy
 induction l with
 | nil=>rfl
 | cons x l ih=>simp only [List.any_cons,List.find?_cons,ih,Gwd]; cases decide (x.Name=name) <;> simp [Gwd]
def Guh (x:Gj):Prop:=Sm x.Offsets∧Sm x.Down
theorem GnE (l:List Gj) (n:Gf) (hn:Sm n.Points) (hd:∀ x ∈ l,Guh x):VI l n=some (if l.length>1024 then 3 else (GJ (GpJ l n) 0 l).getD 0):=by
 simp only [VI,GaX,dA,eN,eM]
 by_cases hl:l.length>1024
 ·rw [if_pos (by omega),if_pos hl]
 rw [if_neg (by omega),if_neg hl]
 have hs:Sm l:=by show _≤_; omega
 have key:(∀ r,GJ (GpJ l n) 0 l=some r→∃ q,lp (Ji l n) (0,[])=some (.inl q)∧q.1=r)∧(GJ (GpJ l n) 0 l=none→∃ q,lp (Ji l n) (0,[])=some (.inr q)∧True):=by
  refine GlH (l:=l) (mk:=fun k b=>(k,b)) fst (fun _ x r b=>(r,if r=6∨r=9 then b else Jb fst b (x.Name,true))) (fun k x b=>Jb fst b (x.Name,true)) (fun _ _ _ _=>rfl)
   (fun k b=>GaO b (fun e=>(l.take k).any fun y=>decide (y.Name=e))) (fun k x b hx hb=>⟨?_,hb.put fun y=>Ggi hx _⟩) (fun b hb=>?_) (GaO.nil fun k=>rfl)
  ·obtain ⟨hk,i1,i2,hkl,h1,h2⟩:=rd hs hx
   have hd:=hd x (List.mem_of_getElem? hx)
   have hb:=hb x.Name
   simp only at hb
   have hf:=X3 (p:=Gwd x.Point) n.Points
   simp only [Ji,QJ,dA,hx,Hd,JX,i1,if_true,hkl,hb,Gow n hn,GkO _ hd.1,GkQ _ hd.2,GpJ,GuZ,Gwr]
   clear i1 i2 hs hn hd hb
   rcases hf with ⟨j,y,f1,f2,f3⟩ | ⟨f1,f3⟩
   ·rcases Hk ((l.take k).any fun y=>decide (y.Name=x.Name)) with hh | hh <;> rcases Gir x.Offsets with ho | ho | ho <;> rcases Gii x.Down with hw | hw | hw <;>
     simp only [hh,ho,hw,f1,f2,f3,HQ,eN,eM,Int.toNat_natCast,Option.isSome_some,Option.isSome_none,Hd,Option.getD_some,Option.getD_none,Option.some_or,Option.none_or,if_true,if_false,Bool.false_eq_true] <;> grind [GwU]
   ·rcases Hk ((l.take k).any fun y=>decide (y.Name=x.Name)) with hh | hh <;> rcases Gir x.Offsets with ho | ho | ho <;> rcases Gii x.Down with hw | hw | hw <;>
     simp only [hh,ho,hw,f1,f3,HQ,eN,eM,Int.toNat_natCast,Option.isSome_some,Option.isSome_none,Hd,Option.getD_some,Option.getD_none,Option.some_or,Option.none_or,if_true,if_false,Bool.false_eq_true] <;> grind [GwU]
  ·refine ⟨b,?_,trivial⟩
   simp only [Ji,QJ,d3,d6,d1]
   rw [if_neg (by omega)]
 cases he:GJ (GpJ l n) 0 l with
 | some r=>
  obtain ⟨q,h1,h2⟩:=key.1 r he
  rw [h1]; simp only [Hd,eN,d1,Option.getD_some,h2]
 | none=>
  obtain ⟨q,h1,_⟩:=key.2 he
  rw [h1]; simp only [Hd,eM,d1,Option.getD_none]
theorem GlO (n:Gf) (hn:Sm n.Points) (name:List UInt8):Gcs n name=some (Zy n.Points name):=by
 simp only [Gcs,GdF,dA]
 have key:lp (Kq n name) 0=some (HQ (if Zy n.Points name then some () else none)):=by
  unfold Zy
  rw [← Hq n.Points 0]
  refine GP (fun k y hy=>?_) ?_
  ·obtain ⟨hk,i1,i2,hkl,h1,h2⟩:=rd hn hy
   simp only [Kq,RI,dA,eN,eM,hy,Hd,i1,if_true,hkl]
   clear i1 i2 hn
   grind [K0]
  ·simp only [Kq,RI,d3,d6,d1]
   rw [if_neg (by omega)]
 rw [key]
 cases Zy n.Points name <;> rfl
theorem GrX (d:Gj) (hl:Sm d.Offsets):lp (Rm d) 0=some (HQ (GJ (GmG d.Offsets) 0 d.Offsets)):=by
 refine GP (fun k x hx=>?_) ?_
 ·obtain ⟨hk,i1,i2,hkl,h1,h2⟩:=rd hl hx
  simp only [Rm,Gct,dA,eN,eM,hx,Hd,GnN,h2,h1,i1,i2,if_true,hkl,GmG]
  clear i1 i2 hl
  grind [K0]
 ·simp only [Rm,Gct,d3,d6,d1]
  rw [if_neg (by omega)]
theorem GrW (d:Gj) (hl:Sm d.Down):lp (Qp d) 0=some (HQ (GJ (Gml d.Down) 0 d.Down)):=by
 refine GP (fun k x hx=>?_) ?_
 ·obtain ⟨hk,i1,i2,hkl,h1,h2⟩:=rd hl hx
  simp only [Qp,Gak,dA,eN,eM,hx,Hd,GnM,h2,h1,i1,i2,if_true,hkl,Gml]
  clear i1 i2 hl
  grind [K0]
 ·simp only [Qp,Gak,d3,d6,d1]
  rw [if_neg (by omega)]
theorem GrY (d:Gj) (n:Gf) (hn:Sm n.Points) (hd:Guh d):Grt d n=some ((GuZ n d).getD 0):=by
 simp only [Grt,GoD,dA,GlO n hn,GrX d hd.1,GrW d hd.2,Hd,GuZ]
 clear hn hd
 rcases Gir d.Offsets with ho | ho | ho <;> rcases Gii d.Down with hw | hw | hw <;> simp only [ho,hw,HQ,eN,eM,Hd,Option.some_or,Option.none_or] <;> grind
theorem Go9 (l:List Gj) (n:Gf) (hn:Sm n.Points) (hd:∀ x ∈ l,Guh x):Ggy l n=some (if l.length>1024 then 3 else (GJ (GpJ l n) 0 l).getD 0):=by
 simp only [Ggy,Gj6,dA,eN,eM]
 by_cases hl:l.length>1024
 ·rw [if_pos (by omega),if_pos hl]
 rw [if_neg (by omega),if_neg hl]
 have hs:Sm l:=by show _≤_; omega
 have key:lp (MP l n) 0=some (HQ (GJ (GpJ l n) 0 l)):=by
  refine GP (fun k x hx=>?_) ?_
  ·obtain ⟨hk,i1,i2,hkl,h1,h2⟩:=rd hs hx
   have hd:=hd x (List.mem_of_getElem? hx)
   have hq:lp (K7 l n k) 0=some (HQ (if (l.take k).any (fun y=>decide (y.Name=x.Name)) then some () else none)):=by
    rw [← Hq (l.take k) 0]
    refine JW (l:=l) (n:=k) (by omega) (fun j y hj hy=>?_) ?_
    ·obtain ⟨_,i3,_,_,_,_⟩:=rd hs hy
     have hjk:(j:Int)<(k:Int):=by omega
     simp only [K7,VX,dA,eN,eM,hx,hy,Hd,i3,if_true,hjk]
     clear i1 i2 i3 hs hn hd
     grind [K0]
    ·simp only [K7,VX,d3,d6,d1]
     rw [if_neg (by omega)]
   simp only [MP,Yo,dA,hx,hq,Hd,U0,GnL,GrY x n hn hd,i1,if_true,hkl,GpJ]
   clear i1 i2 hs hn hd hq
   have h0:GuZ n x≠some 0:=by
    unfold GuZ
    rcases Gir x.Offsets with ho | ho | ho <;> rcases Gii x.Down with hw | hw | hw <;> simp only [ho,hw,Option.some_or,Option.none_or] <;> grind
   generalize GuZ n x=q at h0 ⊢
   rcases Hk ((l.take k).any fun y=>decide (y.Name=x.Name)) with hh | hh <;> rcases q with _ | r <;> simp only [hh,HQ,eN,eM,Hd,if_true,if_false,Bool.false_eq_true,Option.getD_some,Option.getD_none] <;> grind [K0]
  ·simp only [MP,Yo,d3,d6,d1]
   rw [if_neg (by omega)]
 rw [key]
 cases GJ (GpJ l n) 0 l <;> rfl
end
end Go.Proofs.YtdifanfcaemokaaGreatDoor.Av
