import Derived.Test.YtdifanfcaemokaaGreatDoorPEt
import Derived.Test.YtdifanfcaemokaaGreatDoorPEd
open Prod (fst)
open Int (tdiv tmod)
set_option maxHeartbeats 4000000
set_option maxRecDepth 100000
set_option linter.unusedVariables false
set_option linter.unusedSimpArgs false
namespace Go.Proofs.YtdifanfcaemokaaGreatDoor.Av
noncomputable section
open Go Go.Proofs
def Gj3 (i_0:Gp):HT Bool True:=.run (cs 2 []) (fun _=>Hg) <|
  .sp (i_0.From≥(0:Int))
  (.sp (i_0.From<i_0.To)
  (.run (cs 2 (oa::oc::tc::(cs 3 (oa::(cs 2 (tc::oc::oa::(cs 2 []))))))) (fun γ=>k2 (dT γ.1.2) (Gb (dT γ.2))) <|
  .leaf (decide (i_0.To≤(68719476736:Int))) [])
  (.run (cs 2 (oa::oc::tc::(cs 3 (oa::(cs 2 (oF::(cs 4 []))))))) (fun γ=>k2 (dT γ.1.2) (Gb (dF γ.2))) <|
  .leaf false []))
  (.run (cs 2 (oa::oc::oF::(cs 11 []))) (fun γ=>Gb (dF γ.2)) <|
  .leaf false [])
def Gk2 (i_0:Gp):Option Bool:=(Gj3 i_0).den
theorem Grr (i_0:Gp) (r:Bool) (h:Gk2 i_0=some r):RT 161 [.agg (Gp.enc i_0)] (.bool r) []:=
 HA.of_ht 400 (Gj3 i_0) (fun (r:Bool)=>.bool r) (fun (r:Bool)=>[]) (by kernel_rfl) h
def X5 (w_0:Gl):HT Bool True:=.run (cs 2 []) (fun _=>Hg) <|
  .sp (w_0.Days≥(1:Int))
  (.sp (w_0.Days≤(127:Int))
  (.sp (w_0.From≥(0:Int))
  (.sp (w_0.From<w_0.To)
  (.run (cs 2 (oa::oc::tc::oc::oa::(cs 2 (tc::oc::oa::(cs 2 (tc::(cs 3 (oa::(cs 2 (tc::oc::oa::(cs 2 []))))))))))) (fun γ=>k2 (dT (G0 γ)) (k2 (dT γ.1.1.2) (k2 (dT γ.1.2) (Gb (dT γ.2))))) <|
  .leaf (decide (w_0.To≤(1440:Int))) [])
  (.run (cs 2 (oa::oc::tc::oc::oa::(cs 2 (tc::oc::oa::(cs 2 (tc::(cs 3 (oa::(cs 2 (oF::(cs 4 []))))))))))) (fun γ=>k2 (dT (G0 γ)) (k2 (dT γ.1.1.2) (k2 (dT γ.1.2) (Gb (dF γ.2))))) <|
  .leaf false []))
  (.run (cs 2 (oa::oc::tc::oc::oa::(cs 2 (tc::oc::oa::(cs 2 (oF::(cs 11 []))))))) (fun γ=>k2 (dT γ.1.1.2) (k2 (dT γ.1.2) (Gb (dF γ.2)))) <|
  .leaf false []))
  (.run (cs 2 (oa::oc::tc::oc::oa::(cs 2 (oF::(cs 16 []))))) (fun γ=>k2 (dT γ.1.2) (Gb (dF γ.2))) <|
  .leaf false []))
  (.run (cs 2 (oa::oc::oF::(cs 21 []))) (fun γ=>Gb (dF γ.2)) <|
  .leaf false [])
def Rk (w_0:Gl):Option Bool:=(X5 w_0).den
theorem Va (w_0:Gl) (r:Bool) (h:Rk w_0=some r):RT 162 [.agg (Gl.enc w_0)] (.bool r) []:=
 HA.of_ht 400 (X5 w_0) (fun (r:Bool)=>.bool r) (fun (r:Bool)=>[]) (by kernel_rfl) h
def Gkd (t_0:Ga):HT Ga True:=.run (cs 2 []) (fun _=>Hg) <|
  .bd (GgW t_0) fun r1=>.run [oc,rN [.any] (jI r1) [],oa] (fun γ=>Gb (V3 t_0 r1 γ.2)) <|
  .sp (r1=(0:Int))
  (.run (bf::(cs 2 [])) (fun γ=>Gb (Gx (Gu γ.2))) <|
  .leaf t_0 [])
  (.run (bt::(cs 2 [])) (fun γ=>Gb (Gy (Gz γ.2))) <|
  .leaf (⟨(⟨[],[]⟩:Gf),[]⟩:Ga) [])
def Gg3 (t_0:Ga):Option Ga:=(Gkd t_0).den
theorem Gli (t_0:Ga) (r:Ga) (h:Gg3 t_0=some r):RT 373 [.agg (Ga.enc t_0)] (.agg (Ga.enc r)) []:=
 HA.of_ht 400 (Gkd t_0) (fun (r:Ga)=>.agg (Ga.enc r)) (fun (r:Ga)=>[]) (by kernel_rfl) h
def Gj5 (n_0:Gf):HT Gf True:=.run (cs 2 []) (fun _=>Hg) <|
  .bd (Ggr n_0) fun r1=>.run [oc,rN [.any] (jI r1) [],oa] (fun γ=>Gb (Gk3 n_0 r1 γ.2)) <|
  .sp (r1=(0:Int))
  (.run (bf::(cs 2 [])) (fun γ=>Gb (Gx (Gu γ.2))) <|
  .leaf n_0 [])
  (.run (bt::(cs 2 [])) (fun γ=>Gb (Gy (Gz γ.2))) <|
  .leaf (⟨[],[]⟩:Gf) [])
def Gk5 (n_0:Gf):Option Gf:=(Gj5 n_0).den
theorem Grs (n_0:Gf) (r:Gf) (h:Gk5 n_0=some r):RT 481 [.agg (Gf.enc n_0)] (.agg (Gf.enc r)) []:=
 HA.of_ht 400 (Gj5 n_0) (fun (r:Gf)=>.agg (Gf.enc r)) (fun (r:Gf)=>[]) (by kernel_rfl) h
def Gms (n_0:Gf) (name_1:(List UInt8)):HT (Gr×Bool) True:=.run (cs 3 []) (fun _=>Hg) <|
  .bd (Gk5 n_0) fun r1=>.run (oc::(rN [.any] (.agg (Gf.enc r1)) [])::(cs 2 [])) (fun γ=>Gb (Grs n_0 r1 γ.2)) <|
  .bd (Rl r1.Points 64 name_1) fun r3=>.run (cs 3 ((rN [.any,.any,.any] (jI r3) [])::(cs 2 [oa]))) (fun γ=>Gb (M9 r1.Points 64 name_1 r3 γ.2)) <|
  .sp (r3<(0:Int))
  (.run (bt::(cs 3 [])) (fun γ=>Gb (dT γ.2)) <|
  .leaf ((⟨([]:List UInt8),0,([]:List UInt8)⟩:Gr),false) [])
  (.run [bf] (fun γ=>Gb (dF γ.2)) <|
  .gd ((0:Int)≤r3) <| .bd (r1.Points[r3.toNat]?) fun x7=>.run (cs 3 ((oN (.i r3.toNat))::(oN (.v [.str x7.Name,jI x7.Kind,.str x7.System]))::(cs 2 []))) (fun γ=>k2 (ix γ.1.2 γ.2) (k2 (GD (f:=Gr.enc) (z:=2) (fun _=>rfl) γ.2) (Gb (GX (f:=Gr.enc) (z:=3) (j:=r3.toNat) (fun _=>rfl) γ.2 rfl)))) <|
  .leaf (x7,true) [])
def Gk4 (n_0:Gf) (name_1:(List UInt8)):Option (Gr×Bool):=(Gms n_0 name_1).den
theorem Gnb (n_0:Gf) (name_1:(List UInt8)) (r:(Gr×Bool)) (h:Gk4 n_0 name_1=some r):RT 372 [.agg (Gf.enc n_0),.str name_1] (.tup [.agg (Gr.enc r.1),.bool r.2]) []:=
 HA.of_ht 400 (Gms n_0 name_1) (fun (r:(Gr×Bool))=>.tup [.agg (Gr.enc r.1),.bool r.2]) (fun (r:(Gr×Bool))=>[]) (by kernel_rfl) h
def Gmt (t_0:Ga) (name_1:(List UInt8)):HT Int True:=.run (cs 2 []) (fun _=>Hg) <|
  .bd (Gg3 t_0) fun r1=>.bd (Gk4 r1.Net name_1) fun r3=>.run (oc::(rN [.any] (.agg (Ga.enc r1)) [])::(cs 2 ((rN [.any,.any] (.tup [.agg (Gr.enc r3.1),.bool r3.2]) [])::(cs 9 [])))) (fun γ=>k2 (Gli t_0 r1 γ.1.2) (Gb (Gnb r1.Net name_1 r3 γ.2))) <|
  .leaf r3.1.Kind []
def Gil (t_0:Ga) (name_1:(List UInt8)):Option Int:=(Gmt t_0 name_1).den
theorem Vl (t_0:Ga) (name_1:(List UInt8)) (r:Int) (h:Gil t_0 name_1=some r):RT 296 [.agg (Ga.enc t_0),.str name_1] (jI r) []:=
 HA.of_ht 400 (Gmt t_0 name_1) (fun (r:Int)=>jI r) (fun (r:Int)=>[]) (by kernel_rfl) h
def Gg1 (t_0:Ga) (name_1:(List UInt8)):HT (Gm×Bool) True:=.run (cs 3 []) (fun _=>Hg) <|
  .bd (Gg3 t_0) fun r1=>.run (oc::(rN [.any] (.agg (Ga.enc r1)) [])::(cs 2 [])) (fun γ=>Gb (Gli t_0 r1 γ.2)) <|
  .bd (Gk4 r1.Net name_1) fun r3=>.run (cs 3 ((rN [.any,.any] (.tup [.agg (Gr.enc r3.1),.bool r3.2]) [])::(cs 6 []))) (fun γ=>Gb (Gnb r1.Net name_1 r3 γ.2)) <|
  .sp (r3.2=true)
  (.run (cs 3 [oF,oc,oa,oc]) (fun γ=>Gb ((Gx γ.2):(!r3.2)=false)) <|
  .sp (r3.1.System=[])
  (.run (bt::(cs 3 [])) (fun γ=>Gb (Gu γ.2)) <|
  .leaf ((⟨([]:List UInt8),false,0⟩:Gm),false) [])
  (.run [bf] (fun γ=>Gb (Gz γ.2)) <|
  .bd (Gim r1.Systems r3.1.System) fun r7=>.gd ((0:Int)≤r7) <| .bd (r1.Systems[r7.toNat]?) fun x10=>.run (cs 6 ((rN [.any,.any] (jI r7) [])::(oN (.i r7.toNat))::(oN (.v [.str x10.Name,.bool x10.Closed,jI x10.Most]))::(cs 2 []))) (fun γ=>k2 (Gg2 r1.Systems r3.1.System r7 γ.1.1.2) (k2 (ix γ.1.2 γ.2) (k2 (GD (f:=Gm.enc) (z:=2) (fun _=>rfl) γ.2) (Gb (GX (f:=Gm.enc) (z:=3) (j:=r7.toNat) (fun _=>rfl) γ.2 rfl))))) <|
  .leaf (x10,true) []))
  (.run (cs 3 (tc::(cs 3 (bt::(cs 3 []))))) (fun γ=>k2 ((Gy (Ja γ.2)):(!r3.2)=true) (Gb tT)) <|
  .leaf ((⟨([]:List UInt8),false,0⟩:Gm),false) [])
def Gen (t_0:Ga) (name_1:(List UInt8)):Option (Gm×Bool):=(Gg1 t_0 name_1).den
theorem GiW (t_0:Ga) (name_1:(List UInt8)) (r:(Gm×Bool)) (h:Gen t_0 name_1=some r):RT 297 [.agg (Ga.enc t_0),.str name_1] (.tup [.agg (Gm.enc r.1),.bool r.2]) []:=
 HA.of_ht 400 (Gg1 t_0 name_1) (fun (r:(Gm×Bool))=>.tup [.agg (Gm.enc r.1),.bool r.2]) (fun (r:(Gm×Bool))=>[]) (by kernel_rfl) h
def Gkg (t_0:Ga) (x_1:GC):HT Bool True:=.run (cs 5 [oa]) (fun _=>Hg) <|
  .sp (x_1.To=[])
  (.run [bt] (fun γ=>Gb (Gu γ.2)) <|
  .bd (Gil t_0 x_1.From) fun r2=>.run (cs 3 [rN [.any,.any] (jI r2) [],oa,oc]) (fun γ=>Gb (Vl t_0 x_1.From r2 γ.2)) <|
  .leaf (r2==(1:Int)) [])
  (.run [bf] (fun γ=>Gb (Gz γ.2)) <|
  .bd (Gen t_0 x_1.From) fun r4=>.run (cs 3 ((rN [.any,.any] (.tup [.agg (Gm.enc r4.1),.bool r4.2]) [])::(cs 6 []))) (fun γ=>Gb (GiW t_0 x_1.From r4 γ.2)) <|
  .bd (Gen t_0 x_1.To) fun r6=>.run (cs 3 ((rN [.any,.any] (.tup [.agg (Gm.enc r6.1),.bool r6.2]) [])::(cs 6 []))) (fun γ=>Gb (GiW t_0 x_1.To r6 γ.2)) <|
  .bd (Gil t_0 x_1.From) fun r8=>.sp (r8=(2:Int))
  (.bd (Gil t_0 x_1.To) fun r11=>.sp (r11=(3:Int))
  (.run (cs 3 ((rN [.any,.any] (jI r8) [])::oa::oc::tc::(cs 2 ((rN [.any,.any] (jI r11) [])::oa::(cs 2 (tc::(cs 3 (oa::(cs 2 []))))))))) (fun γ=>k2 (Vl t_0 x_1.From r8 (G0 γ)) (k2 (Gu γ.1.1.2) (k2 (Vl t_0 x_1.To r11 γ.1.2) (Gb (Gu γ.2))))) <|
  .leaf (r4.1.Name==r6.1.Name) [])
  (.run (cs 3 ((rN [.any,.any] (jI r8) [])::oa::oc::tc::(cs 2 ((rN [.any,.any] (jI r11) [])::oa::(cs 2 (oF::(cs 6 []))))))) (fun γ=>k2 (Vl t_0 x_1.From r8 (G0 γ)) (k2 (Gu γ.1.1.2) (k2 (Vl t_0 x_1.To r11 γ.1.2) (Gb (Gz γ.2))))) <|
  .leaf false []))
  (.run (cs 3 ((rN [.any,.any] (jI r8) [])::oa::oc::oF::(cs 13 []))) (fun γ=>k2 (Vl t_0 x_1.From r8 γ.1.2) (Gb (Gz γ.2))) <|
  .leaf false []))
def Gll (t_0:Ga) (x_1:GC):Option Bool:=(Gkg t_0 x_1).den
theorem GrA (t_0:Ga) (x_1:GC) (r:Bool) (h:Gll t_0 x_1=some r):RT 225 [.agg (Ga.enc t_0),.agg (GC.enc x_1)] (.bool r) []:=
 HA.of_ht 400 (Gkg t_0 x_1) (fun (r:Bool)=>.bool r) (fun (r:Bool)=>[]) (by kernel_rfl) h
def Yt (l_0:(List GR)) (name_1:(List UInt8)):Nat→HT (Nat⊕(Unit⊕Unit)) True
 | k5=>.run (cs 3 [oa]) (fun _=>Hg) <|
  .sp ((↑k5:Int)<(↑l_0.length:Int))
  (.run [bt] (fun γ=>Gb (dT γ.2)) <|
  .bd (l_0[k5]?) fun x8=>.run (cs 2 [oN (.i k5),oc,oN (.v [.str x8.Name]),oc,oa]) (fun γ=>k2 (ir γ.2) (k2 (GD (f:=GR.enc) (z:=3) (fun _=>rfl) γ.2) (Gb (GL (f:=GR.enc) (z:=4) (j:=k5) (a:=0) (n:=1) (fun _=>rfl) γ.2 (by decide) rfl)))) <|
  .sp (x8.Name=name_1)
  (.run [bt,oc] (fun γ=>Gb (Gu γ.2)) <|
  .leaf (.inr (.inl ())) [])
  (.run [bf] (fun γ=>Gb (Gz γ.2)) <|
  .gd (GS .i64 ((↑k5:Int)+1)) <| .run [oc,ow,oc] (fun γ=>Gb γ.2) <|
  .leaf (.inl (k5+1)) []))
  (.run [bf] (fun γ=>Gb (dF γ.2)) <|
  .leaf (.inr (.inr (()))) [])
def MT (l_0:(List GR)) (name_1:(List UInt8)):Nat→Option (Nat⊕(Unit⊕Unit)):=fun s=>(Yt l_0 name_1 s).den
def Gi1 (l_0:(List GR)) (name_1:(List UInt8)):Nat→PS:=fun s=>(19,[(0,.lst (fl GR.enc l_0) l_0.length),(1,.str name_1),(5,jI (↑s:Int))],[])
def Gi3:(Unit⊕Unit)→Hm:=fun q=>match q with | Sum.inl o=>.ret | Sum.inr (o)=>(.exit 0)
def Gi2 (l_0:(List GR)) (name_1:(List UInt8)):(Unit⊕Unit)→List (Nat×AV):=fun q=>match q with | Sum.inl o=>[(4,.bool true)] | Sum.inr (o)=>[]
def Gi0 (l_0:(List GR)) (name_1:(List UInt8)):(Unit⊕Unit)→List Hb:=fun _=>[]
theorem Get (l_0:(List GR)) (name_1:(List UInt8)) {s:Nat} {r:Unit⊕Unit} (h:lp (MT l_0 name_1) s=some r):DT 0 (.loop (GK Tryz.prog 226 [1,0,1,0,0])) (Gi1 l_0 name_1 s).st (Gi3 r) (PS.st (19,Gi2 l_0 name_1 r,Gi0 l_0 name_1 r)):=
 GN.lp_ht 0 400 (Gi1 l_0 name_1) Gi3 (fun q=>(19,Gi2 l_0 name_1 q,Gi0 l_0 name_1 q)) (Yt l_0 name_1) (by intro k5; kernel_rfl) h
def Gkf (l_0:(List GR)) (name_1:(List UInt8)):HT Bool True:=.run (cs 2 []) (fun _=>Hg) <|
  .bd (lp (MT l_0 name_1) (0:Nat)) fun qq=>.cs qq (fun o1=>.run [.fcut 0 .ret [(4,.bool true)] [] [] [(0,.any),(1,.any),(5,jI (↑(0:Nat):Int))] []] (fun γ=>k2 (rfl:(jI 0:AV)=jI (↑(0:Nat):Int)) (Gb (Get l_0 name_1 (s:=(0:Nat)) (r:=Sum.inl o1) (eS γ.1.2 γ.2)))) <|
  .leaf true [])
  (fun o1=>.run [.fcut 0 (.exit 0) [] [] [] [(0,.any),(1,.any),(5,jI (↑(0:Nat):Int))] [],oc] (fun γ=>k2 (rfl:(jI 0:AV)=jI (↑(0:Nat):Int)) (Gb (Get l_0 name_1 (s:=(0:Nat)) (r:=Sum.inr (o1)) (eS γ.1.2 γ.2)))) <|
  .leaf false [])
def Glk (l_0:(List GR)) (name_1:(List UInt8)):Option Bool:=(Gkf l_0 name_1).den
theorem Grz (l_0:(List GR)) (name_1:(List UInt8)) (r:Bool) (h:Glk l_0 name_1=some r):RT 226 [.lst (fl GR.enc l_0) l_0.length,.str name_1] (.bool r) []:=
 HA.of_ht 400 (Gkf l_0 name_1) (fun (r:Bool)=>.bool r) (fun (r:Bool)=>[]) (by kernel_rfl) h
def Yu (x_0:Gd) (i_2:Int) (x2:GC):Nat→HT (Nat⊕(Unit⊕Unit)) True
 | k8=>.run (cs 2 [oa]) (fun _=>Hg) <|
  .sp ((↑k8:Int)<i_2)
  (.run [bt] (fun γ=>Gb (dT γ.2)) <|
  .bd (x_0.Rates[k8]?) fun x25=>.run (cs 3 ((oN (.i k8))::(oN (.v [.str x25.From,.str x25.To,jI x25.Class,.str x25.Band,jI x25.Cents]))::(cs 2 []))) (fun γ=>k2 (ir γ.2) (k2 (GD (f:=GC.enc) (z:=4) (fun _=>rfl) γ.2) (Gb (GX (f:=GC.enc) (z:=5) (j:=k8) (fun _=>rfl) γ.2 rfl)))) <|
  .sp (x25.From=x2.From)
  (.sp (x25.To=x2.To)
  (.sp (x25.Class=x2.Class)
  (.run (cs 4 (oa::oc::tc::(cs 3 (oa::(cs 2 (tc::(cs 3 (oa::(cs 2 (tc::(cs 3 [oa,oc]))))))))))) (fun γ=>k2 (Gu γ.1.1.2) (k2 (Gu γ.1.2) (Gb (Gu γ.2)))) <|
  .sp (x25.Band=x2.Band)
  (.run [bt,oc] (fun γ=>Gb (Gu γ.2)) <|
  .leaf (.inr (.inl ())) [0,1])
  (.run [bf] (fun γ=>Gb (Gz γ.2)) <|
  .gd (GS .i64 ((↑k8:Int)+1)) <| .run [oc,ow,oc] (fun γ=>Gb γ.2) <|
  .leaf (.inl (k8+1)) [0,1]))
  (.run (cs 4 (oa::oc::tc::(cs 3 (oa::(cs 2 (tc::(cs 3 (oa::(cs 2 (oF::(cs 5 [bf]))))))))))) (fun γ=>k2 (Gu γ.1.1.2) (k2 (Gu γ.1.2) (k2 (Gz γ.2) (Gb fF)))) <|
  .gd (GS .i64 ((↑k8:Int)+1)) <| .run [oc,ow,oc] (fun γ=>Gb γ.2) <|
  .leaf (.inl (k8+1)) [0,1]))
  (.run (cs 4 (oa::oc::tc::(cs 3 (oa::(cs 2 (oF::(cs 12 [bf]))))))) (fun γ=>k2 (Gu γ.1.2) (k2 (Gz γ.2) (Gb fF))) <|
  .gd (GS .i64 ((↑k8:Int)+1)) <| .run [oc,ow,oc] (fun γ=>Gb γ.2) <|
  .leaf (.inl (k8+1)) [0,1]))
  (.run (cs 4 (oa::oc::oF::(cs 19 [bf]))) (fun γ=>k2 (Gz γ.2) (Gb fF)) <|
  .gd (GS .i64 ((↑k8:Int)+1)) <| .run [oc,ow,oc] (fun γ=>Gb γ.2) <|
  .leaf (.inl (k8+1)) [0,1]))
  (.run [bf] (fun γ=>Gb (dF γ.2)) <|
  .leaf (.inr (.inr (()))) [0,1])
def KG (x_0:Gd) (i_2:Int) (x2:GC):Nat→Option (Nat⊕(Unit⊕Unit)):=fun s=>(Yu x_0 i_2 x2 s).den
def Gi4 (x_0:Gd) (i_2:Int) (x2:GC):Nat→PS:=fun s=>(82,[(2,jI i_2),(3,.ptr 0 0),(7,.ptr 1 0),(8,jI (↑s:Int))],[(bT (Gd.enc x_0) 83),(bT (GC.enc x2) 148)])
def Gi6:(Unit⊕Unit)→Hm:=fun q=>match q with | Sum.inl o=>.ret | Sum.inr (o)=>(.exit 0)
def Gi5 (x_0:Gd) (i_2:Int) (x2:GC):(Unit⊕Unit)→List (Nat×AV):=fun q=>match q with | Sum.inl o=>[(6,jI 9)] | Sum.inr (o)=>[]
def Qx (x_0:Gd) (i_2:Int) (x2:GC):(Unit⊕Unit)→List Hb:=fun _=>[(bT (Gd.enc x_0) 83),(bT (GC.enc x2) 148)]
theorem RL (x_0:Gd) (i_2:Int) (x2:GC) {s:Nat} {r:Unit⊕Unit} (h:lp (KG x_0 i_2 x2) s=some r):DT 2 (.loop (GK Tryz.prog 163 [1,1,1,1,1,1,0,1,0,0])) (Gi4 x_0 i_2 x2 s).st (Gi6 r) (PS.st (82,Gi5 x_0 i_2 x2 r,Qx x_0 i_2 x2 r)):=
 GN.lp_ht 2 400 (Gi4 x_0 i_2 x2) Gi6 (fun q=>(82,Gi5 x_0 i_2 x2 q,Qx x_0 i_2 x2 q)) (Yu x_0 i_2 x2) (by intro k8; kernel_rfl) h
def Gmv (x_0:Gd) (t_1:Ga) (i_2:Int):HT Int True:=.run (cs 3 []) (fun _=>Hg) <|
  .gd ((0:Int)≤i_2) <| .bd (x_0.Rates[i_2.toNat]?) fun x2=>.run (cs 3 ((oN (.i i_2.toNat))::(oN (.v [.str x2.From,.str x2.To,jI x2.Class,.str x2.Band,jI x2.Cents]))::(cs 2 []))) (fun γ=>k2 (ix γ.1.2 γ.2) (k2 (GD (f:=GC.enc) (z:=4) (fun _=>rfl) γ.2) (Gb (GX (f:=GC.enc) (z:=5) (j:=i_2.toNat) (fun _=>rfl) γ.2 rfl)))) <|
  .bd (Gll t_1 x2) fun r4=>.run (cs 2 [rN [.any,.any] (.bool r4) [],oc]) (fun γ=>Gb (GrA t_1 x2 r4 γ.2)) <|
  .sp (r4=true)
  (.run [bf] (fun γ=>Gb ((Gx γ.2):(!r4)=false)) <|
  .sp (x2.Class<(1:Int))
  (.run (cs 2 (oa::oc::tc::(cs 3 [bt,oc]))) (fun γ=>k2 (dT γ.2) (Gb tT)) <|
  .leaf 20 [])
  (.run (cs 2 [oa,oc,oF,oc,oa,oc]) (fun γ=>Gb (dF γ.2)) <|
  .sp (x2.Class>(9:Int))
  (.run [bt,oc] (fun γ=>Gb (dT γ.2)) <|
  .leaf 20 [])
  (.run [bf] (fun γ=>Gb (dF γ.2)) <|
  .sp (x2.Band=[])
  (.run (cs 2 (oa::oc::oF::(cs 6 [bf]))) (fun γ=>k2 (Gx (Gu γ.2)) (Gb fF)) <|
  .sp (x2.Cents<(0:Int))
  (.run (cs 2 (oa::oc::tc::(cs 3 [bt,oc]))) (fun γ=>k2 (dT γ.2) (Gb tT)) <|
  .leaf 13 [])
  (.run (cs 2 [oa,oc,oF,oc,oa,oc]) (fun γ=>Gb (dF γ.2)) <|
  .sp (x2.Cents>(1125899906842624:Int))
  (.run [bt,oc] (fun γ=>Gb (dT γ.2)) <|
  .leaf 13 [])
  (.run [bf,oc] (fun γ=>Gb (dF γ.2)) <|
  .bd (lp (KG x_0 i_2 x2) (0:Nat)) fun qq=>.cs qq (fun o12=>.run [.fcut 2 .ret [(6,jI 9)] (Qx x_0 i_2 x2 (Sum.inl o12)) [0,2] [(2,.any),(3,.any),(7,.any),(8,jI (↑(0:Nat):Int))] [bS,bS]] (fun γ=>k2 (rfl:(jI 0:AV)=jI (↑(0:Nat):Int)) (Gb (RL x_0 i_2 x2 (s:=(0:Nat)) (r:=Sum.inl o12) (eS γ.1.2 γ.2)))) <|
  .leaf 9 [])
  (fun o12=>.run [.fcut 2 (.exit 0) [] (Qx x_0 i_2 x2 (Sum.inr (o12))) [0,2] [(2,.any),(3,.any),(7,.any),(8,jI (↑(0:Nat):Int))] [bS,bS],oc] (fun γ=>k2 (rfl:(jI 0:AV)=jI (↑(0:Nat):Int)) (Gb (RL x_0 i_2 x2 (s:=(0:Nat)) (r:=Sum.inr (o12)) (eS γ.1.2 γ.2)))) <|
  .leaf 0 []))))
  (.bd (Glk x_0.Bands x2.Band) fun r35=>.run (cs 2 (oa::oc::tc::(cs 3 ((rN [.any,.any] (.bool r35) [])::(cs 2 []))))) (fun γ=>k2 (Gy (Gz γ.1.2)) (Gb (Grz x_0.Bands x2.Band r35 γ.2))) <|
  .sp (r35=true)
  (.run [bf] (fun γ=>Gb ((Gx γ.2):(!r35)=false)) <|
  .sp (x2.Cents<(0:Int))
  (.run (cs 2 (oa::oc::tc::(cs 3 [bt,oc]))) (fun γ=>k2 (dT γ.2) (Gb tT)) <|
  .leaf 13 [])
  (.run (cs 2 [oa,oc,oF,oc,oa,oc]) (fun γ=>Gb (dF γ.2)) <|
  .sp (x2.Cents>(1125899906842624:Int))
  (.run [bt,oc] (fun γ=>Gb (dT γ.2)) <|
  .leaf 13 [])
  (.run [bf,oc] (fun γ=>Gb (dF γ.2)) <|
  .bd (lp (KG x_0 i_2 x2) (0:Nat)) fun qq=>.cs qq (fun o40=>.run [.fcut 2 .ret [(6,jI 9)] (Qx x_0 i_2 x2 (Sum.inl o40)) [0,2] [(2,.any),(3,.any),(7,.any),(8,jI (↑(0:Nat):Int))] [bS,bS]] (fun γ=>k2 (rfl:(jI 0:AV)=jI (↑(0:Nat):Int)) (Gb (RL x_0 i_2 x2 (s:=(0:Nat)) (r:=Sum.inl o40) (eS γ.1.2 γ.2)))) <|
  .leaf 9 [])
  (fun o40=>.run [.fcut 2 (.exit 0) [] (Qx x_0 i_2 x2 (Sum.inr (o40))) [0,2] [(2,.any),(3,.any),(7,.any),(8,jI (↑(0:Nat):Int))] [bS,bS],oc] (fun γ=>k2 (rfl:(jI 0:AV)=jI (↑(0:Nat):Int)) (Gb (RL x_0 i_2 x2 (s:=(0:Nat)) (r:=Sum.inr (o40)) (eS γ.1.2 γ.2)))) <|
  .leaf 0 []))))
  (.run [bt,oc] (fun γ=>Gb ((Gy (Ja γ.2)):(!r35)=true)) <|
  .leaf 10 [])))))
  (.run [bt,oc] (fun γ=>Gb ((Gy (Ja γ.2)):(!r4)=true)) <|
  .leaf 16 [])
def Gn5 (x_0:Gd) (t_1:Ga) (i_2:Int):Option Int:=(Gmv x_0 t_1 i_2).den
theorem GsL (x_0:Gd) (t_1:Ga) (i_2:Int) (r:Int) (h:Gn5 x_0 t_1 i_2=some r):RT 163 [.agg (Gd.enc x_0),.agg (Ga.enc t_1),jI i_2] (jI r) []:=
 HA.of_ht 400 (Gmv x_0 t_1 i_2) (fun (r:Int)=>jI r) (fun (r:Int)=>[]) (by kernel_rfl) h
def Ys (x_0:Gd) (t_1:Ga):Nat→HT (Nat⊕(Int⊕Unit)) True
 | k5=>.run (cs 4 [oa]) (fun _=>Hg) <|
  .sp ((↑k5:Int)<(↑x_0.Bands.length:Int))
  (.run [bt] (fun γ=>Gb (dT γ.2)) <|
  .bd (x_0.Bands[k5]?) fun x18=>.bd (M8 x18.Name) fun r20=>.run (cs 3 [oN (.i k5),oc,oN (.v [.str x18.Name]),rN [.any] (.bool r20) [],oc]) (fun γ=>k2 (ir γ.1.2) (k2 (GD (f:=GR.enc) (z:=3) (fun _=>rfl) γ.1.2) (k2 (GL (f:=GR.enc) (z:=4) (j:=k5) (a:=0) (n:=1) (fun _=>rfl) γ.1.2 (by decide) rfl) (Gb (Jc x18.Name r20 γ.2))))) <|
  .sp (r20=true)
  (.run [bf] (fun γ=>Gb ((Gx γ.2):(!r20)=false)) <|
  .bd (Rk x18.Window) fun r23=>.run (cs 3 [oN (.i k5),oc,oN (.v [jI x18.Window.Days,jI x18.Window.From,jI x18.Window.To]),rN [.any] (.bool r23) [],oc]) (fun γ=>k2 (ir (G0 γ)) (k2 (GD (f:=GR.enc) (z:=3) (fun _=>rfl) (G0 γ)) (k2 (GL (f:=GR.enc) (z:=4) (j:=k5) (a:=1) (n:=3) (fun _=>rfl) (G0 γ) (by decide) rfl) (Gb (Va x18.Window r23 γ.2))))) <|
  .sp (r23=true)
  (.run [bf] (fun γ=>Gb ((Gx γ.2):(!r23)=false)) <|
  .gd (GS .i64 ((↑k5:Int)+1)) <| .run [oc,ow,oc] (fun γ=>Gb γ.2) <|
  .leaf (.inl (k5+1)) [0,1])
  (.run [bt,oc] (fun γ=>Gb ((Gy (Ja γ.2)):(!r23)=true)) <|
  .leaf (.inr (.inl 1)) [0,1]))
  (.run [bt,oc] (fun γ=>Gb ((Gy (Ja γ.2)):(!r20)=true)) <|
  .leaf (.inr (.inl 6)) [0,1]))
  (.run [bf] (fun γ=>Gb (dF γ.2)) <|
  .leaf (.inr (.inr (()))) [0,1])
def MS (x_0:Gd) (t_1:Ga):Nat→Option (Nat⊕(Int⊕Unit)):=fun s=>(Ys x_0 t_1 s).den
def GiX (x_0:Gd) (t_1:Ga):Nat→PS:=fun s=>(59,[(2,.ptr 0 0),(3,.ptr 1 0),(5,jI (↑s:Int))],[(bT (Gd.enc x_0) 83),(bT (Ga.enc t_1) 28)])
def GiZ:(Int⊕Unit)→Hm:=fun q=>match q with | Sum.inl o=>.ret | Sum.inr (o)=>(.exit 0)
def GiY (x_0:Gd) (t_1:Ga):(Int⊕Unit)→List (Nat×AV):=fun q=>match q with | Sum.inl o=>[(4,jI o)] | Sum.inr (o)=>[(2,.ptr 0 0),(3,.ptr 1 0)]
def Yr (x_0:Gd) (t_1:Ga):(Int⊕Unit)→List Hb:=fun _=>[(bT (Gd.enc x_0) 83),(bT (Ga.enc t_1) 28)]
theorem Ges (x_0:Gd) (t_1:Ga) {s:Nat} {r:Int⊕Unit} (h:lp (MS x_0 t_1) s=some r):DT 2 (.loop (GK Tryz.prog 102 [1,1,1,0,1,0,0])) (GiX x_0 t_1 s).st (GiZ r) (PS.st (59,GiY x_0 t_1 r,Yr x_0 t_1 r)):=
 GN.lp_ht 2 400 (GiX x_0 t_1) GiZ (fun q=>(59,GiY x_0 t_1 q,Yr x_0 t_1 q)) (Ys x_0 t_1) (by intro k5; kernel_rfl) h
def V6 (x_0:Gd) (t_1:Ga):Nat→HT (Nat⊕(Int⊕Unit)) True
 | k6=>.run (cs 4 [oa]) (fun _=>Hg) <|
  .sp ((↑k6:Int)<(↑x_0.Rates.length:Int))
  (.run [bt] (fun γ=>Gb (dT γ.2)) <|
  .bd (Gn5 x_0 t_1 (↑k6:Int)) fun r34=>.run (cs 3 ((rN [.any,.any,.any] (jI r34) [])::(cs 2 [oa]))) (fun γ=>Gb (GsL x_0 t_1 (↑k6:Int) r34 γ.2)) <|
  .sp (r34=(0:Int))
  (.run [bf] (fun γ=>Gb (Gx (Gu γ.2))) <|
  .gd (GS .i64 ((↑k6:Int)+1)) <| .run [oc,ow,oc] (fun γ=>Gb γ.2) <|
  .leaf (.inl (k6+1)) [0,1])
  (.run (bt::(cs 2 [])) (fun γ=>Gb (Gy (Gz γ.2))) <|
  .leaf (.inr (.inl r34)) [0,1]))
  (.run [bf] (fun γ=>Gb (dF γ.2)) <|
  .leaf (.inr (.inr (()))) [0,1])
def Ma (x_0:Gd) (t_1:Ga):Nat→Option (Nat⊕(Int⊕Unit)):=fun s=>(V6 x_0 t_1 s).den
def Gg4 (x_0:Gd) (t_1:Ga):Nat→PS:=fun s=>(59,[(2,.ptr 0 0),(3,.ptr 1 0),(6,jI (↑s:Int))],[(bT (Gd.enc x_0) 83),(bT (Ga.enc t_1) 28)])
def Gg6:(Int⊕Unit)→Hm:=fun q=>match q with | Sum.inl o=>.ret | Sum.inr (o)=>(.exit 2)
def Gg5 (x_0:Gd) (t_1:Ga):(Int⊕Unit)→List (Nat×AV):=fun q=>match q with | Sum.inl o=>[(4,jI o)] | Sum.inr (o)=>[]
def V5 (x_0:Gd) (t_1:Ga):(Int⊕Unit)→List Hb:=fun _=>[(bT (Gd.enc x_0) 83),(bT (Ga.enc t_1) 28)]
theorem GcA (x_0:Gd) (t_1:Ga) {s:Nat} {r:Int⊕Unit} (h:lp (Ma x_0 t_1) s=some r):DT 2 (.loop (GK Tryz.prog 102 [1,1,1,1,0,1,0,0])) (Gg4 x_0 t_1 s).st (Gg6 r) (PS.st (59,Gg5 x_0 t_1 r,V5 x_0 t_1 r)):=
 GN.lp_ht 2 400 (Gg4 x_0 t_1) Gg6 (fun q=>(59,Gg5 x_0 t_1 q,V5 x_0 t_1 q)) (V6 x_0 t_1) (by intro k6; kernel_rfl) h
def Gke (x_0:Gd) (t_1:Ga):HT Int True:=.run (cs 3 []) (fun _=>Hg) <|
  .bd (Gk2 x_0.Valid) fun r1=>.run (cs 2 [rN [.any] (.bool r1) [],oc]) (fun γ=>Gb (Grr x_0.Valid r1 γ.2)) <|
  .sp (r1=true)
  (.run [bf] (fun γ=>Gb ((Gx γ.2):(!r1)=false)) <|
  .sp ((↑x_0.Bands.length:Int)>(1024:Int))
  (.run (cs 3 (oa::oc::tc::(cs 4 [bt,oc]))) (fun γ=>k2 (dT γ.2) (Gb tT)) <|
  .leaf 3 [])
  (.run (cs 3 (oa::oc::oF::(cs 2 [oa,oc]))) (fun γ=>Gb (dF γ.2)) <|
  .sp ((↑x_0.Rates.length:Int)>(1024:Int))
  (.run [bt,oc] (fun γ=>Gb (dT γ.2)) <|
  .leaf 3 [])
  (.run [bf,oc] (fun γ=>Gb (dF γ.2)) <|
  .bd (lp (MS x_0 t_1) (0:Nat)) fun qq=>.cs qq (fun o6=>.run [.fcut 2 .ret [(4,jI o6)] (Yr x_0 t_1 (Sum.inl o6)) [0,1] [(2,.any),(3,.any),(5,jI (↑(0:Nat):Int))] [bS,bS]] (fun γ=>k2 (rfl:(jI 0:AV)=jI (↑(0:Nat):Int)) (Gb (Ges x_0 t_1 (s:=(0:Nat)) (r:=Sum.inl o6) (eS γ.1.2 γ.2)))) <|
  .leaf o6 [])
  (fun o6=>.run [.fcut 2 (.exit 0) [(2,.ptr 0 0),(3,.ptr 1 0)] (Yr x_0 t_1 (Sum.inr (o6))) [0,1] [(2,.any),(3,.any),(5,jI (↑(0:Nat):Int))] [bS,bS],oc] (fun γ=>k2 (rfl:(jI 0:AV)=jI (↑(0:Nat):Int)) (Gb (Ges x_0 t_1 (s:=(0:Nat)) (r:=Sum.inr (o6)) (eS γ.1.2 γ.2)))) <|
  .bd (lp (Ma x_0 t_1) (0:Nat)) fun qq=>.cs qq (fun o27=>.run [.fcut 2 .ret [(4,jI o27)] (V5 x_0 t_1 (Sum.inl o27)) [0,1] [(2,.any),(3,.any),(6,jI (↑(0:Nat):Int))] [bS,bS]] (fun γ=>k2 (rfl:(jI 0:AV)=jI (↑(0:Nat):Int)) (Gb (GcA x_0 t_1 (s:=(0:Nat)) (r:=Sum.inl o27) (eS γ.1.2 γ.2)))) <|
  .leaf o27 [])
  (fun o27=>.run [.fcut 2 (.exit 2) [] (V5 x_0 t_1 (Sum.inr (o27))) [0,1] [(2,.any),(3,.any),(6,jI (↑(0:Nat):Int))] [bS,bS],oc] (fun γ=>k2 (rfl:(jI 0:AV)=jI (↑(0:Nat):Int)) (Gb (GcA x_0 t_1 (s:=(0:Nat)) (r:=Sum.inr (o27)) (eS γ.1.2 γ.2)))) <|
  .leaf 0 [])))))
  (.run [bt,oc] (fun γ=>Gb ((Gy (Ja γ.2)):(!r1)=true)) <|
  .leaf 12 [])
def Glj (x_0:Gd) (t_1:Ga):Option Int:=(Gke x_0 t_1).den
theorem Gry (x_0:Gd) (t_1:Ga) (r:Int) (h:Glj x_0 t_1=some r):RT 102 [.agg (Gd.enc x_0),.agg (Ga.enc t_1)] (jI r) []:=
 HA.of_ht 400 (Gke x_0 t_1) (fun (r:Int)=>jI r) (fun (r:Int)=>[]) (by kernel_rfl) h
def QM (l_0:(List Gd)) (t_1:Ga) (k5:Nat):Nat→HT (Nat⊕(Unit⊕Unit)) True
 | k7=>.run (cs 2 [oa]) (fun _=>Hg) <|
  .sp ((↑k7:Int)<(↑k5:Int))
  (.run [bt] (fun γ=>Gb (dT γ.2)) <|
  .bd (l_0[k5]?) fun x46=>.bd (l_0[k7]?) fun x48=>.sp (x46.Valid.From<x48.Valid.To)
  (.run (cs 2 ((oN (.i k5))::(cs 2 ((oN (.v [jI x46.Valid.From]))::(cs 2 ((oN (.i k7))::(cs 2 [oN (.v [jI x48.Valid.To]),oa,oc,tc,tc,.op (some true) (.i k7),tc,tc,.op (some true) (.v [jI x48.Valid.From]),tc,tc,.op (some true) (.i k5),tc,tc,.op (some true) (.v [jI x46.Valid.To]),ta,oN (.b true)]))))))) (fun γ=>k2 (ir γ.1.1.2) (k2 (GD (f:=Gd.enc) (z:=3) (fun _=>rfl) γ.1.1.2) (k2 (GL (f:=Gd.enc) (z:=4) (j:=k5) (a:=0) (n:=1) (fun _=>rfl) γ.1.1.2 (by decide) rfl) (k2 (ir γ.1.2) (k2 (GD (f:=Gd.enc) (z:=3) (fun _=>rfl) γ.1.2) (k2 (GL (f:=Gd.enc) (z:=4) (j:=k7) (a:=1) (n:=1) (fun _=>rfl) γ.1.2 (by decide) rfl) (k2 (dT γ.2) (k2 (dT γ.2) (k2 (dT γ.2) (k2 (ir γ.1.2) (k2 (GD (f:=Gd.enc) (z:=3) (fun _=>rfl) γ.1.2) (k2 (dT γ.2) (k2 (dT γ.2) (k2 (dT γ.2) (k2 (GL (f:=Gd.enc) (z:=4) (j:=k7) (a:=0) (n:=1) (fun _=>rfl) γ.1.2 (by decide) rfl) (k2 (dT γ.2) (k2 (dT γ.2) (k2 (dT γ.2) (k2 (ir γ.1.1.2) (k2 (GD (f:=Gd.enc) (z:=3) (fun _=>rfl) γ.1.1.2) (k2 (dT γ.2) (k2 (dT γ.2) (k2 (dT γ.2) (k2 (GL (f:=Gd.enc) (z:=4) (j:=k5) (a:=1) (n:=1) (fun _=>rfl) γ.1.1.2 (by decide) rfl) (k2 (dT γ.2) (Gb (dT γ.2))))))))))))))))))))))))))) <|
  .sp (x48.Valid.From<x46.Valid.To)
  (.run [bt,oc] (fun γ=>Gb (dT γ.2)) <|
  .leaf (.inr (.inl ())) [0])
  (.run [bf] (fun γ=>Gb (dF γ.2)) <|
  .gd (GS .i64 ((↑k7:Int)+1)) <| .run [oc,ow,oc] (fun γ=>Gb γ.2) <|
  .leaf (.inl (k7+1)) [0]))
  (.run (cs 2 ((oN (.i k5))::(cs 2 ((oN (.v [jI x46.Valid.From]))::(cs 2 ((oN (.i k7))::(cs 2 [oN (.v [jI x48.Valid.To]),oa,oc,oF,oF,oF,oF,oF,oF,oF,oF,oF,oF,oF,oF,oF,oN (.b false),bf]))))))) (fun γ=>k2 (ir γ.1.1.2) (k2 (GD (f:=Gd.enc) (z:=3) (fun _=>rfl) γ.1.1.2) (k2 (GL (f:=Gd.enc) (z:=4) (j:=k5) (a:=0) (n:=1) (fun _=>rfl) γ.1.1.2 (by decide) rfl) (k2 (ir γ.1.2) (k2 (GD (f:=Gd.enc) (z:=3) (fun _=>rfl) γ.1.2) (k2 (GL (f:=Gd.enc) (z:=4) (j:=k7) (a:=1) (n:=1) (fun _=>rfl) γ.1.2 (by decide) rfl) (k2 (dF γ.2) (k2 (dF γ.2) (k2 (dF γ.2) (k2 (dF γ.2) (k2 (dF γ.2) (k2 (dF γ.2) (k2 (dF γ.2) (k2 (dF γ.2) (k2 (dF γ.2) (k2 (dF γ.2) (k2 (dF γ.2) (k2 (dF γ.2) (k2 (dF γ.2) (k2 (dF γ.2) (Gb fF))))))))))))))))))))) <|
  .gd (GS .i64 ((↑k7:Int)+1)) <| .run [oc,ow,oc] (fun γ=>Gb γ.2) <|
  .leaf (.inl (k7+1)) [0]))
  (.run [bf] (fun γ=>Gb (dF γ.2)) <|
  .leaf (.inr (.inr (()))) [0])
def J3 (l_0:(List Gd)) (t_1:Ga) (k5:Nat):Nat→Option (Nat⊕(Unit⊕Unit)):=fun s=>(QM l_0 t_1 k5 s).den
def Gcy (l_0:(List Gd)) (t_1:Ga) (k5:Nat):Nat→PS:=fun s=>(59,[(0,.lst (fl Gd.enc l_0) l_0.length),(3,.ptr 0 0),(5,jI (↑k5:Int)),(7,jI (↑s:Int))],[(bT (Ga.enc t_1) 28)])
def Gcz:(Unit⊕Unit)→Hm:=fun q=>match q with | Sum.inl o=>.ret | Sum.inr (o)=>(.exit 2)
def V4 (l_0:(List Gd)) (t_1:Ga) (k5:Nat):(Unit⊕Unit)→List (Nat×AV):=fun q=>match q with | Sum.inl o=>[(4,jI 12)] | Sum.inr (o)=>[(0,.lst (fl Gd.enc l_0) l_0.length),(3,.ptr 0 0),(5,jI (↑k5:Int))]
def Gcx (l_0:(List Gd)) (t_1:Ga) (k5:Nat):(Unit⊕Unit)→List Hb:=fun _=>[(bT (Ga.enc t_1) 28)]
theorem YU (l_0:(List Gd)) (t_1:Ga) (k5:Nat) {s:Nat} {r:Unit⊕Unit} (h:lp (J3 l_0 t_1 k5) s=some r):DT 1 (.loop (GK Tryz.prog 34 [1,1,0,1,0,0,1,0,0,1,1,0,0])) (Gcy l_0 t_1 k5 s).st (Gcz r) (PS.st (59,V4 l_0 t_1 k5 r,Gcx l_0 t_1 k5 r)):=
 GN.lp_ht 1 400 (Gcy l_0 t_1 k5) Gcz (fun q=>(59,V4 l_0 t_1 k5 q,Gcx l_0 t_1 k5 q)) (QM l_0 t_1 k5) (by intro k7; kernel_rfl) h
def RK (l_0:(List Gd)) (t_1:Ga):Nat→HT (Nat⊕(Int⊕Unit)) True
 | k5=>.run (cs 3 [oa]) (fun _=>Hg) <|
  .sp ((↑k5:Int)<(↑l_0.length:Int))
  (.run [bt] (fun γ=>Gb (dT γ.2)) <|
  .bd (l_0[k5]?) fun x30=>.bd (Glj x30 t_1) fun r32=>.run (cs 2 ((oN (.i k5))::(oN (.v [jI x30.Valid.From,jI x30.Valid.To,.lst (fl GR.enc x30.Bands) x30.Bands.length,.lst (fl GC.enc x30.Rates) x30.Rates.length]))::oc::(rN [.any,.any] (jI r32) [])::(cs 2 [oa]))) (fun γ=>k2 (ir γ.1.2) (k2 (GD (f:=Gd.enc) (z:=3) (fun _=>rfl) γ.1.2) (k2 (GX (f:=Gd.enc) (z:=4) (j:=k5) (fun _=>rfl) γ.1.2 rfl) (Gb (Gry x30 t_1 r32 γ.2))))) <|
  .sp (r32=(0:Int))
  (.run [bf,oc] (fun γ=>Gb (Gx (Gu γ.2))) <|
  .bd (lp (J3 l_0 t_1 k5) (0:Nat)) fun qq=>.cs qq (fun o35=>.run [.fcut 1 .ret [(4,jI 12)] [(bT (Ga.enc t_1) 28)] [0] [(0,.any),(3,.any),(5,.any),(7,jI (↑(0:Nat):Int))] [bS]] (fun γ=>k2 (rfl:(jI 0:AV)=jI (↑(0:Nat):Int)) (Gb (YU l_0 t_1 k5 (s:=(0:Nat)) (r:=Sum.inl o35) (eS γ.1.2 γ.2)))) <|
  .leaf (.inr (.inl 12)) [0])
  (fun o35=>.run [.fcut 1 (.exit 2) (V4 l_0 t_1 k5 (Sum.inr (o35))) [(bT (Ga.enc t_1) 28)] [0] [(0,.any),(3,.any),(5,.any),(7,jI (↑(0:Nat):Int))] [bS]] (fun γ=>k2 (rfl:(jI 0:AV)=jI (↑(0:Nat):Int)) (Gb (YU l_0 t_1 k5 (s:=(0:Nat)) (r:=Sum.inr (o35)) (eS γ.1.2 γ.2)))) <|
  .gd (GS .i64 ((↑k5:Int)+1)) <| .run [oc,ow,oc] (fun γ=>Gb γ.2) <|
  .leaf (.inl (k5+1)) [0]))
  (.run (bt::(cs 2 [])) (fun γ=>Gb (Gy (Gz γ.2))) <|
  .leaf (.inr (.inl r32)) [0]))
  (.run [bf] (fun γ=>Gb (dF γ.2)) <|
  .leaf (.inr (.inr (()))) [0])
def Ks (l_0:(List Gd)) (t_1:Ga):Nat→Option (Nat⊕(Int⊕Unit)):=fun s=>(RK l_0 t_1 s).den
def Gep (l_0:(List Gd)) (t_1:Ga):Nat→PS:=fun s=>(59,[(0,.lst (fl Gd.enc l_0) l_0.length),(3,.ptr 0 0),(5,jI (↑s:Int))],[(bT (Ga.enc t_1) 28)])
def Ger:(Int⊕Unit)→Hm:=fun q=>match q with | Sum.inl o=>.ret | Sum.inr (o)=>(.exit 0)
def Geq (l_0:(List Gd)) (t_1:Ga):(Int⊕Unit)→List (Nat×AV):=fun q=>match q with | Sum.inl o=>[(4,jI o)] | Sum.inr (o)=>[]
def Geo (l_0:(List Gd)) (t_1:Ga):(Int⊕Unit)→List Hb:=fun _=>[(bT (Ga.enc t_1) 28)]
theorem Z0 (l_0:(List Gd)) (t_1:Ga) {s:Nat} {r:Int⊕Unit} (h:lp (Ks l_0 t_1) s=some r):DT 1 (.loop (GK Tryz.prog 34 [1,1,0,1,0,0])) (Gep l_0 t_1 s).st (Ger r) (PS.st (59,Geq l_0 t_1 r,Geo l_0 t_1 r)):=
 GN.lp_ht 1 400 (Gep l_0 t_1) Ger (fun q=>(59,Geq l_0 t_1 q,Geo l_0 t_1 q)) (RK l_0 t_1) (by intro k5; kernel_rfl) h
def GdI (l_0:(List Gd)) (t_1:Ga):HT Int True:=.run (cs 4 [oa]) (fun _=>Hg) <|
  .sp ((↑l_0.length:Int)>(1024:Int))
  (.run [bt,oc] (fun γ=>Gb (dT γ.2)) <|
  .leaf 3 [])
  (.run [bf,oc] (fun γ=>Gb (dF γ.2)) <|
  .bd (lp (Ks l_0 t_1) (0:Nat)) fun qq=>.cs qq (fun o2=>.run [.fcut 1 .ret [(4,jI o2)] [(bT (Ga.enc t_1) 28)] [0] [(0,.any),(3,.any),(5,jI (↑(0:Nat):Int))] [bS]] (fun γ=>k2 (rfl:(jI 0:AV)=jI (↑(0:Nat):Int)) (Gb (Z0 l_0 t_1 (s:=(0:Nat)) (r:=Sum.inl o2) (eS γ.1.2 γ.2)))) <|
  .leaf o2 [])
  (fun o2=>.run [.fcut 1 (.exit 0) [] [(bT (Ga.enc t_1) 28)] [0] [(0,.any),(3,.any),(5,jI (↑(0:Nat):Int))] [bS],oc] (fun γ=>k2 (rfl:(jI 0:AV)=jI (↑(0:Nat):Int)) (Gb (Z0 l_0 t_1 (s:=(0:Nat)) (r:=Sum.inr (o2)) (eS γ.1.2 γ.2)))) <|
  .leaf 0 []))
def Ro (l_0:(List Gd)) (t_1:Ga):Option Int:=(GdI l_0 t_1).den
theorem UV (l_0:(List Gd)) (t_1:Ga) (r:Int) (h:Ro l_0 t_1=some r):RT 34 [.lst (fl Gd.enc l_0) l_0.length,.agg (Ga.enc t_1)] (jI r) []:=
 HA.of_ht 400 (GdI l_0 t_1) (fun (r:Int)=>jI r) (fun (r:Int)=>[]) (by kernel_rfl) h
end
set_option maxHeartbeats 4000000
set_option maxRecDepth 100000
noncomputable section
open Go Go.Proofs
def Zw (kind_0:Int):HT Int True:=.run (cs 2 [oa,oc]) (fun _=>Hg) <|
  .sp (kind_0=(1:Int))
  (.run [bt,oc] (fun γ=>Gb (Gu γ.2)) <|
  .leaf 1000 [])
  (.run [bf,oa,oc] (fun γ=>Gb (Gz γ.2)) <|
  .sp (kind_0=(2:Int))
  (.run [bt,oc] (fun γ=>Gb (Gu γ.2)) <|
  .leaf 1125899906842624 [])
  (.run [bf,oc] (fun γ=>Gb (Gz γ.2)) <|
  .leaf 0 []))
def Ym (kind_0:Int):Option Int:=(Zw kind_0).den
theorem GkT (kind_0:Int) (r:Int) (h:Ym kind_0=some r):RT 283 [jI kind_0] (jI r) []:=
 HA.of_ht 400 (Zw kind_0) (fun (r:Int)=>jI r) (fun (r:Int)=>[]) (by kernel_rfl) h
def VQ (w_0:Gl):HT Bool True:=.run (cs 4 [oa]) (fun _=>Hg) <|
  .sp (w_0.Days=(0:Int))
  (.run [bt] (fun γ=>Gb (Gu γ.2)) <|
  .sp (w_0.From=(0:Int))
  (.run (cs 2 (oa::oc::tc::oc::oa::(cs 2 []))) (fun γ=>Gb (Gu γ.2)) <|
  .leaf (w_0.To==(0:Int)) [])
  (.run (cs 2 (oa::oc::oF::(cs 4 []))) (fun γ=>Gb (Gz γ.2)) <|
  .leaf false []))
  (.run [bf] (fun γ=>Gb (Gz γ.2)) <|
  .sp (w_0.Days>(0:Int))
  (.sp (w_0.Days≤(127:Int))
  (.sp (w_0.From≥(0:Int))
  (.sp (w_0.From<w_0.To)
  (.run (cs 2 (oa::oc::tc::oc::oa::(cs 2 (tc::oc::oa::(cs 2 (tc::(cs 3 (oa::(cs 2 (tc::oc::oa::(cs 2 []))))))))))) (fun γ=>k2 (dT (G0 γ)) (k2 (dT γ.1.1.2) (k2 (dT γ.1.2) (Gb (dT γ.2))))) <|
  .leaf (decide (w_0.To≤(1440:Int))) [])
  (.run (cs 2 (oa::oc::tc::oc::oa::(cs 2 (tc::oc::oa::(cs 2 (tc::(cs 3 (oa::(cs 2 (oF::(cs 4 []))))))))))) (fun γ=>k2 (dT (G0 γ)) (k2 (dT γ.1.1.2) (k2 (dT γ.1.2) (Gb (dF γ.2))))) <|
  .leaf false []))
  (.run (cs 2 (oa::oc::tc::oc::oa::(cs 2 (tc::oc::oa::(cs 2 (oF::(cs 11 []))))))) (fun γ=>k2 (dT γ.1.1.2) (k2 (dT γ.1.2) (Gb (dF γ.2)))) <|
  .leaf false []))
  (.run (cs 2 (oa::oc::tc::oc::oa::(cs 2 (oF::(cs 16 []))))) (fun γ=>k2 (dT γ.1.2) (Gb (dF γ.2))) <|
  .leaf false []))
  (.run (cs 2 (oa::oc::oF::(cs 21 []))) (fun γ=>Gb (dF γ.2)) <|
  .leaf false []))
def Km (w_0:Gl):Option Bool:=(VQ w_0).den
theorem MA (w_0:Gl) (r:Bool) (h:Km w_0=some r):RT 284 [.agg (Gl.enc w_0)] (.bool r) []:=
 HA.of_ht 400 (VQ w_0) (fun (r:Bool)=>.bool r) (fun (r:Bool)=>[]) (by kernel_rfl) h
def X2 (d_0:Gi):HT Int True:=.run (cs 2 []) (fun _=>Hg) <|
  .bd (HS d_0.Name) fun r1=>.run (cs 2 ((rN [.any] (.bool r1) [])::(cs 2 []))) (fun γ=>Gb (Hh d_0.Name r1 γ.2)) <|
  .sp (r1=true)
  (.run [bf] (fun γ=>Gb ((Gx γ.2):(!r1)=false)) <|
  .sp (d_0.Kind<(1:Int))
  (.run (cs 2 (oa::oc::tc::(cs 4 [bt,oc]))) (fun γ=>k2 (dT γ.2) (Gb tT)) <|
  .leaf 1 [])
  (.run (cs 2 (oa::oc::oF::oc::oa::(cs 2 []))) (fun γ=>Gb (dF γ.2)) <|
  .sp (d_0.Kind>(3:Int))
  (.run [bt,oc] (fun γ=>Gb (dT γ.2)) <|
  .leaf 1 [])
  (.run [bf] (fun γ=>Gb (dF γ.2)) <|
  .sp (d_0.Amount<(0:Int))
  (.run (cs 2 [oa,oc,tc,tc,tc,tc,tc,tc,oN (.b true),oc,bt,oc]) (fun γ=>k2 (dT γ.2) (k2 (dT γ.2) (k2 (dT γ.2) (k2 (dT γ.2) (k2 (dT γ.2) (k2 (dT γ.2) (k2 (dT γ.2) (Gb tT)))))))) <|
  .leaf 1 [])
  (.bd (Ym d_0.Kind) fun r7=>.run (cs 2 [oa,oc,oF,oF,oF,oF,.ret (some false) [.any] (jI r7) [],oG,oN (.b false),oc]) (fun γ=>k2 (dF γ.1.2) (k2 (dF γ.1.2) (k2 (dF γ.1.2) (k2 (dF γ.1.2) (k2 (dF γ.1.2) (k2 (GkT d_0.Kind r7 γ.2) (k2 (dF γ.1.2) (Gb (dF γ.1.2))))))))) <|
  .sp (d_0.Amount>r7)
  (.run [bt,oc] (fun γ=>Gb (dT γ.2)) <|
  .leaf 1 [])
  (.run [bf] (fun γ=>Gb (dF γ.2)) <|
  .sp (d_0.Group=[])
  (.run (cs 2 (oa::oc::oF::(cs 5 [bf]))) (fun γ=>k2 (Gx (Gu γ.2)) (Gb fF)) <|
  .sp (d_0.System=[])
  (.run (cs 2 (oa::oc::oF::(cs 5 [bf]))) (fun γ=>k2 (Gx (Gu γ.2)) (Gb fF)) <|
  .sp (d_0.Class<(0:Int))
  (.run (cs 2 (oa::oc::tc::(cs 4 [bt,oc]))) (fun γ=>k2 (dT γ.2) (Gb tT)) <|
  .leaf 20 [])
  (.run (cs 2 (oa::oc::oF::oc::oa::(cs 2 []))) (fun γ=>Gb (dF γ.2)) <|
  .sp (d_0.Class>(9:Int))
  (.run [bt,oc] (fun γ=>Gb (dT γ.2)) <|
  .leaf 20 [])
  (.run [bf] (fun γ=>Gb (dF γ.2)) <|
  .bd (Km d_0.Window) fun r14=>.run (cs 2 ((rN [.any] (.bool r14) [])::(cs 2 []))) (fun γ=>Gb (MA d_0.Window r14 γ.2)) <|
  .sp (r14=true)
  (.run [bf] (fun γ=>Gb ((Gx γ.2):(!r14)=false)) <|
  .sp (d_0.Least<(0:Int))
  (.run (cs 2 (oa::oc::tc::(cs 4 [bt,oc]))) (fun γ=>k2 (dT γ.2) (Gb tT)) <|
  .leaf 2 [])
  (.run (cs 2 (oa::oc::oF::oc::oa::(cs 2 []))) (fun γ=>Gb (dF γ.2)) <|
  .sp (d_0.Least>(2147483648:Int))
  (.run [bt,oc] (fun γ=>Gb (dT γ.2)) <|
  .leaf 2 [])
  (.run [bf,oc] (fun γ=>Gb (dF γ.2)) <|
  .leaf 0 [])))
  (.run [bt,oc] (fun γ=>Gb ((Gy (Ja γ.2)):(!r14)=true)) <|
  .leaf 12 []))))
  (.bd (HS d_0.System) fun r19=>.run (cs 2 (oa::oc::tc::oc::(rN [.any] (.bool r19) [])::(cs 3 []))) (fun γ=>k2 (Gy (Gz γ.1.2)) (Gb (Hh d_0.System r19 γ.2))) <|
  .sp (r19=true)
  (.run [bf] (fun γ=>Gb ((Gx γ.2):(!r19)=false)) <|
  .sp (d_0.Class<(0:Int))
  (.run (cs 2 (oa::oc::tc::(cs 4 [bt,oc]))) (fun γ=>k2 (dT γ.2) (Gb tT)) <|
  .leaf 20 [])
  (.run (cs 2 (oa::oc::oF::oc::oa::(cs 2 []))) (fun γ=>Gb (dF γ.2)) <|
  .sp (d_0.Class>(9:Int))
  (.run [bt,oc] (fun γ=>Gb (dT γ.2)) <|
  .leaf 20 [])
  (.run [bf] (fun γ=>Gb (dF γ.2)) <|
  .bd (Km d_0.Window) fun r24=>.run (cs 2 ((rN [.any] (.bool r24) [])::(cs 2 []))) (fun γ=>Gb (MA d_0.Window r24 γ.2)) <|
  .sp (r24=true)
  (.run [bf] (fun γ=>Gb ((Gx γ.2):(!r24)=false)) <|
  .sp (d_0.Least<(0:Int))
  (.run (cs 2 (oa::oc::tc::(cs 4 [bt,oc]))) (fun γ=>k2 (dT γ.2) (Gb tT)) <|
  .leaf 2 [])
  (.run (cs 2 (oa::oc::oF::oc::oa::(cs 2 []))) (fun γ=>Gb (dF γ.2)) <|
  .sp (d_0.Least>(2147483648:Int))
  (.run [bt,oc] (fun γ=>Gb (dT γ.2)) <|
  .leaf 2 [])
  (.run [bf,oc] (fun γ=>Gb (dF γ.2)) <|
  .leaf 0 [])))
  (.run [bt,oc] (fun γ=>Gb ((Gy (Ja γ.2)):(!r24)=true)) <|
  .leaf 12 []))))
  (.run [bt,oc] (fun γ=>Gb ((Gy (Ja γ.2)):(!r19)=true)) <|
  .leaf 6 [])))
  (.bd (HS d_0.Group) fun r29=>.run (cs 2 (oa::oc::tc::oc::(rN [.any] (.bool r29) [])::(cs 3 []))) (fun γ=>k2 (Gy (Gz γ.1.2)) (Gb (Hh d_0.Group r29 γ.2))) <|
  .sp (r29=true)
  (.run [bf] (fun γ=>Gb ((Gx γ.2):(!r29)=false)) <|
  .sp (d_0.System=[])
  (.run (cs 2 (oa::oc::oF::(cs 5 [bf]))) (fun γ=>k2 (Gx (Gu γ.2)) (Gb fF)) <|
  .sp (d_0.Class<(0:Int))
  (.run (cs 2 (oa::oc::tc::(cs 4 [bt,oc]))) (fun γ=>k2 (dT γ.2) (Gb tT)) <|
  .leaf 20 [])
  (.run (cs 2 (oa::oc::oF::oc::oa::(cs 2 []))) (fun γ=>Gb (dF γ.2)) <|
  .sp (d_0.Class>(9:Int))
  (.run [bt,oc] (fun γ=>Gb (dT γ.2)) <|
  .leaf 20 [])
  (.run [bf] (fun γ=>Gb (dF γ.2)) <|
  .bd (Km d_0.Window) fun r35=>.run (cs 2 ((rN [.any] (.bool r35) [])::(cs 2 []))) (fun γ=>Gb (MA d_0.Window r35 γ.2)) <|
  .sp (r35=true)
  (.run [bf] (fun γ=>Gb ((Gx γ.2):(!r35)=false)) <|
  .sp (d_0.Least<(0:Int))
  (.run (cs 2 (oa::oc::tc::(cs 4 [bt,oc]))) (fun γ=>k2 (dT γ.2) (Gb tT)) <|
  .leaf 2 [])
  (.run (cs 2 (oa::oc::oF::oc::oa::(cs 2 []))) (fun γ=>Gb (dF γ.2)) <|
  .sp (d_0.Least>(2147483648:Int))
  (.run [bt,oc] (fun γ=>Gb (dT γ.2)) <|
  .leaf 2 [])
  (.run [bf,oc] (fun γ=>Gb (dF γ.2)) <|
  .leaf 0 [])))
  (.run [bt,oc] (fun γ=>Gb ((Gy (Ja γ.2)):(!r35)=true)) <|
  .leaf 12 []))))
  (.bd (HS d_0.System) fun r40=>.run (cs 2 (oa::oc::tc::oc::(rN [.any] (.bool r40) [])::(cs 3 []))) (fun γ=>k2 (Gy (Gz γ.1.2)) (Gb (Hh d_0.System r40 γ.2))) <|
  .sp (r40=true)
  (.run [bf] (fun γ=>Gb ((Gx γ.2):(!r40)=false)) <|
  .sp (d_0.Class<(0:Int))
  (.run (cs 2 (oa::oc::tc::(cs 4 [bt,oc]))) (fun γ=>k2 (dT γ.2) (Gb tT)) <|
  .leaf 20 [])
  (.run (cs 2 (oa::oc::oF::oc::oa::(cs 2 []))) (fun γ=>Gb (dF γ.2)) <|
  .sp (d_0.Class>(9:Int))
  (.run [bt,oc] (fun γ=>Gb (dT γ.2)) <|
  .leaf 20 [])
  (.run [bf] (fun γ=>Gb (dF γ.2)) <|
  .bd (Km d_0.Window) fun r45=>.run (cs 2 ((rN [.any] (.bool r45) [])::(cs 2 []))) (fun γ=>Gb (MA d_0.Window r45 γ.2)) <|
  .sp (r45=true)
  (.run [bf] (fun γ=>Gb ((Gx γ.2):(!r45)=false)) <|
  .sp (d_0.Least<(0:Int))
  (.run (cs 2 (oa::oc::tc::(cs 4 [bt,oc]))) (fun γ=>k2 (dT γ.2) (Gb tT)) <|
  .leaf 2 [])
  (.run (cs 2 (oa::oc::oF::oc::oa::(cs 2 []))) (fun γ=>Gb (dF γ.2)) <|
  .sp (d_0.Least>(2147483648:Int))
  (.run [bt,oc] (fun γ=>Gb (dT γ.2)) <|
  .leaf 2 [])
  (.run [bf,oc] (fun γ=>Gb (dF γ.2)) <|
  .leaf 0 [])))
  (.run [bt,oc] (fun γ=>Gb ((Gy (Ja γ.2)):(!r45)=true)) <|
  .leaf 12 []))))
  (.run [bt,oc] (fun γ=>Gb ((Gy (Ja γ.2)):(!r40)=true)) <|
  .leaf 6 [])))
  (.run [bt,bt,oc] (fun γ=>k2 ((Gy (Ja γ.2)):(!r29)=true) (Gb ((Gy (Ja γ.2)):(!r29)=true))) <|
  .leaf 6 [])))))))
  (.run [bt,oc] (fun γ=>Gb ((Gy (Ja γ.2)):(!r1)=true)) <|
  .leaf 6 [])
def VL (d_0:Gi):Option Int:=(X2 d_0).den
theorem Gj0 (d_0:Gi) (r:Int) (h:VL d_0=some r):RT 214 [.agg (Gi.enc d_0)] (jI r) []:=
 HA.of_ht 400 (X2 d_0) (fun (r:Int)=>jI r) (fun (r:Int)=>[]) (by kernel_rfl) h
def Kh (l_0:(List Gi)) (k11:Nat) (x25:Gi):Nat→HT (Nat⊕(Int⊕Unit)) True
 | k8=>.run [oa] (fun _=>Hg) <|
  .sp ((↑k8:Int)<(↑((List.take k11 l_0).length):Int))
  (.run (bt::(cs 2 [])) (fun γ=>Gb (dT γ.2)) <|
  .bd ((List.take k11 l_0)[k8]?) fun x38=>.run (cs 3 ((oN (.i k8))::(oN (.v [.str x38.Name,jI x38.Kind,jI x38.Amount,.str x38.Group,.str x38.System,jI x38.Class,jI x38.Window.Days,jI x38.Window.From,jI x38.Window.To,jI x38.Least]))::(cs 7 [oa,oc]))) (fun γ=>k2 (ir γ.2) (k2 (GD (f:=Gi.enc) (z:=9) (fun _=>rfl) γ.2) (Gb (GX (f:=Gi.enc) (z:=10) (j:=k8) (fun _=>rfl) γ.2 rfl)))) <|
  .sp (x38.Name=x25.Name)
  (.run (bt::(cs 2 [])) (fun γ=>Gb (Gu γ.2)) <|
  .leaf (.inr (.inl (↑k8:Int))) [0])
  (.run [bf] (fun γ=>Gb (Gz γ.2)) <|
  .gd (GS .i64 ((↑k8:Int)+1)) <| .run [ow,oc] (fun γ=>Gb γ.2) <|
  .leaf (.inl (k8+1)) [0]))
  (.run [bf] (fun γ=>Gb (dF γ.2)) <|
  .leaf (.inr (.inr (()))) [0])
def HU (l_0:(List Gi)) (k11:Nat) (x25:Gi):Nat→Option (Nat⊕(Int⊕Unit)):=fun s=>(Kh l_0 k11 x25 s).den
def Vh (l_0:(List Gi)) (k11:Nat) (x25:Gi):Nat→PS:=fun s=>(19,[(0,.lst (fl Gi.enc (List.take k11 l_0)) ((List.take k11 l_0).length)),(1,.fn (.func 216) [] [.ptr 0 0]),(7,jI (↑((List.take k11 l_0).length):Int)),(8,jI (↑s:Int))],[(bT (Gi.enc x25) 187)])
def Vj:(Int⊕Unit)→Hm:=fun q=>match q with | Sum.inl o=>.ret | Sum.inr (o)=>(.exit 0)
def Vi (l_0:(List Gi)) (k11:Nat) (x25:Gi):(Int⊕Unit)→List (Nat×AV):=fun q=>match q with | Sum.inl o=>[(4,jI o)] | Sum.inr (o)=>[]
def Vg (l_0:(List Gi)) (k11:Nat) (x25:Gi):(Int⊕Unit)→List Hb:=fun _=>[(bT (Gi.enc x25) 187)]
theorem Ri (l_0:(List Gi)) (k11:Nat) (x25:Gi) {s:Nat} {r:Int⊕Unit} (h:lp (HU l_0 k11 x25) s=some r):DT 1 (.loop (GK Tryz.prog 285 [1,0,1,0,0])) (Vh l_0 k11 x25 s).st (Vj r) (PS.st (19,Vi l_0 k11 x25 r,Vg l_0 k11 x25 r)):=
 GN.lp_ht 1 400 (Vh l_0 k11 x25) Vj (fun q=>(19,Vi l_0 k11 x25 q,Vg l_0 k11 x25 q)) (Kh l_0 k11 x25) (by intro k8; kernel_rfl) h
def KF (l_0:(List Gi)):Nat→HT (Nat⊕(Int⊕Unit)) True
 | k11=>.run [oa] (fun _=>Hg) <|
  .sp ((↑k11:Int)<(↑l_0.length:Int))
  (.run [bt] (fun γ=>Gb (dT γ.2)) <|
  .bd (l_0[k11]?) fun x25=>.run (oc::(oN (.i k11))::(oN (.v [.str x25.Name,jI x25.Kind,jI x25.Amount,.str x25.Group,.str x25.System,jI x25.Class,jI x25.Window.Days,jI x25.Window.From,jI x25.Window.To,jI x25.Least]))::(cs 3 [])) (fun γ=>k2 (ir γ.2) (k2 (GD (f:=Gi.enc) (z:=9) (fun _=>rfl) γ.2) (Gb (GX (f:=Gi.enc) (z:=10) (j:=k11) (fun _=>rfl) γ.2 rfl)))) <|
  .bd (VL x25) fun r27=>.run (oc::(rN [.any] (jI r27) [])::(cs 2 [oa])) (fun γ=>Gb (Gj0 x25 r27 γ.2)) <|
  .sp (r27=(0:Int))
  (.run [bf] (fun γ=>Gb (Gx (Gu γ.2))) <|
  .gd (k11≤l_0.length) <| .bd (lp (HU l_0 k11 x25) (0:Nat)) fun qq=>.cs qq (fun o31=>.run (cs 2 ((oN (.s 0 k11))::(.tr (.eqt (.t 23) (.lst (fl Gi.enc (List.take k11 l_0)) ((List.take k11 l_0).length))))::(cs 10 [.fcut 1 .ret [(4,jI o31)] [(bT (Gi.enc x25) 187)] [0] [(0,.any),(1,.any),(7,.any),(8,jI (↑(0:Nat):Int))] [bS],oa,oc]))) (fun γ=>k2 (rfl:(↑k11:Int)=((k11:Nat):Int)) (k2 (⟨Nat.zero_le _,γ.1.1.2⟩:0≤k11∧k11≤l_0.length) (k2 ((Ya (RS (f:=Gi.enc) (z:=10) (fun _=>rfl) _ _) (by rw [List.length_take]; omega)):(.lst (List.take (k11*10) (fl Gi.enc l_0)) k11:AV)=.lst (fl Gi.enc (List.take k11 l_0)) ((List.take k11 l_0).length)) (k2 (rfl:(jI 0:AV)=jI (↑(0:Nat):Int)) (Gb (Ri l_0 k11 x25 (s:=(0:Nat)) (r:=Sum.inl o31) (eS γ.1.2 γ.2))))))) <|
  .sp (o31≥(0:Int))
  (.run [bt,oc] (fun γ=>Gb (dT γ.2)) <|
  .leaf (.inr (.inl 9)) [])
  (.run [bf] (fun γ=>Gb (dF γ.2)) <|
  .gd (GS .i64 ((↑k11:Int)+1)) <| .run [ow,oc] (fun γ=>Gb γ.2) <|
  .leaf (.inl (k11+1)) []))
  (fun o31=>.run (cs 2 ((oN (.s 0 k11))::(.tr (.eqt (.t 23) (.lst (fl Gi.enc (List.take k11 l_0)) ((List.take k11 l_0).length))))::(cs 10 ((.fcut 1 (.exit 0) [] [(bT (Gi.enc x25) 187)] [0] [(0,.any),(1,.any),(7,.any),(8,jI (↑(0:Nat):Int))] [bS])::(cs 3 [bf]))))) (fun γ=>k2 (rfl:(↑k11:Int)=((k11:Nat):Int)) (k2 (⟨Nat.zero_le _,γ.1.1.2⟩:0≤k11∧k11≤l_0.length) (k2 ((Ya (RS (f:=Gi.enc) (z:=10) (fun _=>rfl) _ _) (by rw [List.length_take]; omega)):(.lst (List.take (k11*10) (fl Gi.enc l_0)) k11:AV)=.lst (fl Gi.enc (List.take k11 l_0)) ((List.take k11 l_0).length)) (k2 (rfl:(jI 0:AV)=jI (↑(0:Nat):Int)) (k2 (Ri l_0 k11 x25 (s:=(0:Nat)) (r:=Sum.inr (o31)) (eS γ.1.2 γ.2)) (Gb fF)))))) <|
  .gd (GS .i64 ((↑k11:Int)+1)) <| .run [ow,oc] (fun γ=>Gb γ.2) <|
  .leaf (.inl (k11+1)) []))
  (.run (bt::(cs 2 [])) (fun γ=>Gb (Gy (Gz γ.2))) <|
  .leaf (.inr (.inl r27)) []))
  (.run [bf] (fun γ=>Gb (dF γ.2)) <|
  .leaf (.inr (.inr (()))) [])
def H9 (l_0:(List Gi)):Nat→Option (Nat⊕(Int⊕Unit)):=fun s=>(KF l_0 s).den
def VN (l_0:(List Gi)):Nat→PS:=fun s=>(27,[(0,.lst (fl Gi.enc l_0) l_0.length),(9,.lst (fl Gi.enc l_0) l_0.length),(10,jI (↑l_0.length:Int)),(11,jI (↑s:Int))],[])
def VP:(Int⊕Unit)→Hm:=fun q=>match q with | Sum.inl o=>.ret | Sum.inr (o)=>(.exit 0)
def VO (l_0:(List Gi)):(Int⊕Unit)→List (Nat×AV):=fun q=>match q with | Sum.inl o=>[(2,jI o)] | Sum.inr (o)=>[]
def VM (l_0:(List Gi)):(Int⊕Unit)→List Hb:=fun _=>[]
theorem R9 (l_0:(List Gi)) {s:Nat} {r:Int⊕Unit} (h:lp (H9 l_0) s=some r):DT 0 (.loop (GK Tryz.prog 139 [1,1,0,1,0,0])) (VN l_0 s).st (VP r) (PS.st (27,VO l_0 r,VM l_0 r)):=
 GN.lp_ht 0 400 (VN l_0) VP (fun q=>(27,VO l_0 q,VM l_0 q)) (KF l_0) (by intro k11; kernel_rfl) h
def Uf (l_0:(List Gi)):HT Int True:=.run (cs 3 [oa]) (fun _=>Hg) <|
  .sp ((↑l_0.length:Int)>(12:Int))
  (.run [bt,oc] (fun γ=>Gb (dT γ.2)) <|
  .leaf 3 [])
  (.run (bf::(cs 3 [])) (fun γ=>Gb (dF γ.2)) <|
  .bd (lp (H9 l_0) (0:Nat)) fun qq=>.cs qq (fun o2=>.run [.fcut 0 .ret [(2,jI o2)] [] [] [(0,.any),(9,.any),(10,.any),(11,jI (↑(0:Nat):Int))] []] (fun γ=>k2 (rfl:(jI 0:AV)=jI (↑(0:Nat):Int)) (Gb (R9 l_0 (s:=(0:Nat)) (r:=Sum.inl o2) (eS γ.1.2 γ.2)))) <|
  .leaf o2 [])
  (fun o2=>.run [.fcut 0 (.exit 0) [] [] [] [(0,.any),(9,.any),(10,.any),(11,jI (↑(0:Nat):Int))] [],oc] (fun γ=>k2 (rfl:(jI 0:AV)=jI (↑(0:Nat):Int)) (Gb (R9 l_0 (s:=(0:Nat)) (r:=Sum.inr (o2)) (eS γ.1.2 γ.2)))) <|
  .leaf 0 []))
def QK (l_0:(List Gi)):Option Int:=(Uf l_0).den
theorem Gf6 (l_0:(List Gi)) (r:Int) (h:QK l_0=some r):RT 139 [.lst (fl Gi.enc l_0) l_0.length] (jI r) []:=
 HA.of_ht 400 (Uf l_0) (fun (r:Int)=>jI r) (fun (r:Int)=>[]) (by kernel_rfl) h
def Gfj (d_0:Gi):HT Bool True:=.run (cs 4 [oa]) (fun _=>Hg) <|
  .sp (d_0.Kind=(1:Int))
  (.run [bt] (fun γ=>Gb (Gu γ.2)) <|
  .sp (d_0.Amount≥(0:Int))
  (.run (cs 2 (oa::oc::tc::oc::oa::(cs 2 []))) (fun γ=>Gb (dT γ.2)) <|
  .leaf (decide (d_0.Amount≤(1000:Int))) [])
  (.run (cs 2 (oa::oc::oF::(cs 4 []))) (fun γ=>Gb (dF γ.2)) <|
  .leaf false []))
  (.run (bf::(cs 2 [oa])) (fun γ=>Gb (Gz γ.2)) <|
  .sp (d_0.Kind=(2:Int))
  (.run [bt] (fun γ=>Gb (Gu γ.2)) <|
  .sp (d_0.Amount≥(0:Int))
  (.run (cs 2 (oa::oc::tc::oc::oa::(cs 2 []))) (fun γ=>Gb (dT γ.2)) <|
  .leaf (decide (d_0.Amount≤(1125899906842624:Int))) [])
  (.run (cs 2 (oa::oc::oF::(cs 4 []))) (fun γ=>Gb (dF γ.2)) <|
  .leaf false []))
  (.run (bf::(cs 2 [oa,oc])) (fun γ=>Gb (Gz γ.2)) <|
  .leaf (d_0.Amount==(0:Int)) []))
def Gfi (d_0:Gi):Option Bool:=(Gfj d_0).den
theorem GoF (d_0:Gi) (r:Bool) (h:Gfi d_0=some r):RT 164 [.agg (Gi.enc d_0)] (.bool r) []:=
 HA.of_ht 400 (Gfj d_0) (fun (r:Bool)=>.bool r) (fun (r:Bool)=>[]) (by kernel_rfl) h
def Gkj (s_0:(List UInt8)):HT Bool True:=.run [oc] (fun _=>Hg) <|
  .sp (s_0=[])
  (.run (oc::oa::oc::tc::(cs 3 [])) (fun γ=>Gb (Gu γ.2)) <|
  .leaf true [])
  (.bd (M8 s_0) fun r2=>.run (oc::oa::oc::oF::(rN [.any] (.bool r2) [])::(cs 2 [])) (fun γ=>k2 (Gz γ.1.2) (Gb (Jc s_0 r2 γ.2))) <|
  .leaf r2 [])
def Ghb (s_0:(List UInt8)):Option Bool:=(Gkj s_0).den
theorem Gfk (s_0:(List UInt8)) (r:Bool) (h:Ghb s_0=some r):RT 165 [.str s_0] (.bool r) []:=
 HA.of_ht 400 (Gkj s_0) (fun (r:Bool)=>.bool r) (fun (r:Bool)=>[]) (by kernel_rfl) h
def Gki (d_0:Gi):HT Int True:=.run (cs 2 []) (fun _=>Hg) <|
  .bd (M8 d_0.Name) fun r1=>.run (cs 2 [rN [.any] (.bool r1) [],oc]) (fun γ=>Gb (Jc d_0.Name r1 γ.2)) <|
  .sp (r1=true)
  (.run [bf] (fun γ=>Gb ((Gx γ.2):(!r1)=false)) <|
  .sp (d_0.Kind<(1:Int))
  (.run (cs 2 (oa::oc::tc::(cs 8 [bt,oc]))) (fun γ=>k2 (dT γ.2) (Gb tT)) <|
  .leaf 1 [])
  (.sp (d_0.Kind>(3:Int))
  (.run (cs 2 (oa::oc::oF::oc::oa::(cs 2 (tc::(cs 3 [bt,oc]))))) (fun γ=>k2 (dF γ.1.2) (k2 (dT γ.2) (Gb tT))) <|
  .leaf 1 [])
  (.bd (Gfi d_0) fun r6=>.run (cs 2 (oa::oc::oF::oc::oa::(cs 2 (oF::(rN [.any] (.bool r6) [])::(cs 2 []))))) (fun γ=>k2 (dF γ.1.1.2) (k2 (dF γ.1.2) (Gb (GoF d_0 r6 γ.2)))) <|
  .sp (r6=true)
  (.run [bf] (fun γ=>Gb ((Gx γ.2):(!r6)=false)) <|
  .bd (Ghb d_0.Group) fun r9=>.sp (r9=true)
  (.bd (Ghb d_0.System) fun r12=>.run (cs 2 ((rN [.any] (.bool r9) [])::(cs 2 (oF::oc::(rN [.any] (.bool r12) [])::(cs 2 []))))) (fun γ=>k2 (Gfk d_0.Group r9 γ.1.1.2) (k2 ((Gx γ.1.2):(!r9)=false) (Gb (Gfk d_0.System r12 γ.2)))) <|
  .sp (r12=true)
  (.run [bf] (fun γ=>Gb ((Gx γ.2):(!r12)=false)) <|
  .sp (d_0.Class<(0:Int))
  (.run (cs 2 (oa::oc::tc::(cs 3 [bt,oc]))) (fun γ=>k2 (dT γ.2) (Gb tT)) <|
  .leaf 20 [])
  (.run (cs 2 [oa,oc,oF,oc,oa,oc]) (fun γ=>Gb (dF γ.2)) <|
  .sp (d_0.Class>(9:Int))
  (.run [bt,oc] (fun γ=>Gb (dT γ.2)) <|
  .leaf 20 [])
  (.run [bf] (fun γ=>Gb (dF γ.2)) <|
  .sp (d_0.Window.Days=(0:Int))
  (.sp (d_0.Window.From=(0:Int))
  (.run (cs 3 (oa::oc::oF::(cs 8 (oa::oc::tc::(cs 2 (oa::oc::oF::(cs 2 (oa::(cs 3 []))))))))) (fun γ=>k2 (Gx (Gu γ.1.2)) (k2 (Gu γ.1.2) (Gb (Gx (Gu γ.2))))) <|
  .sp (d_0.Window.To=(0:Int))
  (.run [bf] (fun γ=>Gb (Gx (Gu γ.2))) <|
  .sp (d_0.Least<(0:Int))
  (.run (cs 2 (oa::oc::tc::(cs 3 [bt,oc]))) (fun γ=>k2 (dT γ.2) (Gb tT)) <|
  .leaf 2 [])
  (.run (cs 2 [oa,oc,oF,oc,oa,oc]) (fun γ=>Gb (dF γ.2)) <|
  .sp (d_0.Least>(2147483648:Int))
  (.run [bt,oc] (fun γ=>Gb (dT γ.2)) <|
  .leaf 2 [])
  (.run [bf,oc] (fun γ=>Gb (dF γ.2)) <|
  .leaf 0 [])))
  (.run [bt,oc] (fun γ=>Gb (Gy (Gz γ.2))) <|
  .leaf 12 []))
  (.run (cs 3 (oa::oc::oF::(cs 8 (oa::oc::tc::(cs 2 (oa::oc::tc::(cs 6 [bt,oc]))))))) (fun γ=>k2 (Gx (Gu γ.1.2)) (k2 (Gu γ.1.2) (k2 (Gy (Gz γ.2)) (Gb tT)))) <|
  .leaf 12 []))
  (.bd (Rk d_0.Window) fun r22=>.sp (r22=true)
  (.run (cs 3 (oa::oc::tc::oc::(rN [.any] (.bool r22) [])::(cs 3 (oF::(cs 2 (oa::oc::oF::(cs 11 [bf]))))))) (fun γ=>k2 (Gy (Gz γ.1.1.2)) (k2 (Va d_0.Window r22 γ.1.2) (k2 ((Gx γ.2):(!r22)=false) (k2 (Gz γ.1.1.2) (Gb fF))))) <|
  .sp (d_0.Least<(0:Int))
  (.run (cs 2 (oa::oc::tc::(cs 3 [bt,oc]))) (fun γ=>k2 (dT γ.2) (Gb tT)) <|
  .leaf 2 [])
  (.run (cs 2 [oa,oc,oF,oc,oa,oc]) (fun γ=>Gb (dF γ.2)) <|
  .sp (d_0.Least>(2147483648:Int))
  (.run [bt,oc] (fun γ=>Gb (dT γ.2)) <|
  .leaf 2 [])
  (.run [bf,oc] (fun γ=>Gb (dF γ.2)) <|
  .leaf 0 [])))
  (.run (cs 3 (oa::oc::tc::oc::(rN [.any] (.bool r22) [])::(cs 3 (tc::(cs 16 [bt,oc]))))) (fun γ=>k2 (Gy (Gz γ.1.1.2)) (k2 (Va d_0.Window r22 γ.1.2) (k2 ((Gy (Ja γ.2)):(!r22)=true) (Gb tT)))) <|
  .leaf 12 [])))))
  (.run [bt,oc] (fun γ=>Gb ((Gy (Ja γ.2)):(!r12)=true)) <|
  .leaf 6 []))
  (.run (cs 2 ((rN [.any] (.bool r9) [])::(cs 2 (tc::(cs 4 [bt,oc]))))) (fun γ=>k2 (Gfk d_0.Group r9 γ.1.2) (k2 ((Gy (Ja γ.2)):(!r9)=true) (Gb tT))) <|
  .leaf 6 []))
  (.run [bt,oc] (fun γ=>Gb ((Gy (Ja γ.2)):(!r6)=true)) <|
  .leaf 1 []))))
  (.run [bt,oc] (fun γ=>Gb ((Gy (Ja γ.2)):(!r1)=true)) <|
  .leaf 6 [])
def Glm (d_0:Gi):Option Int:=(Gki d_0).den
theorem GrB (d_0:Gi) (r:Int) (h:Glm d_0=some r):RT 103 [.agg (Gi.enc d_0)] (jI r) []:=
 HA.of_ht 400 (Gki d_0) (fun (r:Int)=>jI r) (fun (r:Int)=>[]) (by kernel_rfl) h
def QO (l_0:(List Gi)) (k3:Nat):Nat→HT (Nat⊕(Unit⊕Unit)) True
 | k5=>.run (cs 2 [oa]) (fun _=>Hg) <|
  .sp ((↑k5:Int)<(↑k3:Int))
  (.run [bt] (fun γ=>Gb (dT γ.2)) <|
  .bd (l_0[k5]?) fun x40=>.bd (l_0[k3]?) fun x42=>.run (cs 2 ((oN (.i k5))::oc::(oN (.v [.str x40.Name]))::(cs 2 [oN (.i k3),oc,oN (.v [.str x42.Name]),oa]))) (fun γ=>k2 (ir γ.1.2) (k2 (GD (f:=Gi.enc) (z:=9) (fun _=>rfl) γ.1.2) (k2 (GL (f:=Gi.enc) (z:=10) (j:=k5) (a:=0) (n:=1) (fun _=>rfl) γ.1.2 (by decide) rfl) (k2 (ir γ.2) (k2 (GD (f:=Gi.enc) (z:=9) (fun _=>rfl) γ.2) (Gb (GL (f:=Gi.enc) (z:=10) (j:=k3) (a:=0) (n:=1) (fun _=>rfl) γ.2 (by decide) rfl))))))) <|
  .sp (x40.Name=x42.Name)
  (.run [bt,oc] (fun γ=>Gb (Gu γ.2)) <|
  .leaf (.inr (.inl ())) [])
  (.run [bf] (fun γ=>Gb (Gz γ.2)) <|
  .gd (GS .i64 ((↑k5:Int)+1)) <| .run [oc,ow,oc] (fun γ=>Gb γ.2) <|
  .leaf (.inl (k5+1)) []))
  (.run [bf] (fun γ=>Gb (dF γ.2)) <|
  .leaf (.inr (.inr (()))) [])
def J4 (l_0:(List Gi)) (k3:Nat):Nat→Option (Nat⊕(Unit⊕Unit)):=fun s=>(QO l_0 k3 s).den
def GcD (l_0:(List Gi)) (k3:Nat):Nat→PS:=fun s=>(39,[(0,.lst (fl Gi.enc l_0) l_0.length),(3,jI (↑k3:Int)),(5,jI (↑s:Int))],[])
def GcE:(Unit⊕Unit)→Hm:=fun q=>match q with | Sum.inl o=>.ret | Sum.inr (o)=>(.exit 2)
def V7 (l_0:(List Gi)) (k3:Nat):(Unit⊕Unit)→List (Nat×AV):=fun q=>match q with | Sum.inl o=>[(2,jI 9)] | Sum.inr (o)=>[(0,.lst (fl Gi.enc l_0) l_0.length),(3,jI (↑k3:Int))]
def GcC (l_0:(List Gi)) (k3:Nat):(Unit⊕Unit)→List Hb:=fun _=>[]
theorem YV (l_0:(List Gi)) (k3:Nat) {s:Nat} {r:Unit⊕Unit} (h:lp (J4 l_0 k3) s=some r):DT 0 (.loop (GK Tryz.prog 36 [1,1,0,1,0,0,1,0,0,1,1,1,0,0])) (GcD l_0 k3 s).st (GcE r) (PS.st (39,V7 l_0 k3 r,GcC l_0 k3 r)):=
 GN.lp_ht 0 400 (GcD l_0 k3) GcE (fun q=>(39,V7 l_0 k3 q,GcC l_0 k3 q)) (QO l_0 k3) (by intro k5; kernel_rfl) h
def RN (l_0:(List Gi)):Nat→HT (Nat⊕(Int⊕Unit)) True
 | k3=>.run (cs 3 [oa]) (fun _=>Hg) <|
  .sp ((↑k3:Int)<(↑l_0.length:Int))
  (.run [bt] (fun γ=>Gb (dT γ.2)) <|
  .bd (l_0[k3]?) fun x26=>.bd (Glm x26) fun r28=>.run (cs 2 ((oN (.i k3))::(oN (.v [.str x26.Name,jI x26.Kind,jI x26.Amount,.str x26.Group,.str x26.System,jI x26.Class,jI x26.Window.Days,jI x26.Window.From,jI x26.Window.To,jI x26.Least]))::(rN [.any] (jI r28) [])::(cs 2 [oa]))) (fun γ=>k2 (ir γ.1.2) (k2 (GD (f:=Gi.enc) (z:=9) (fun _=>rfl) γ.1.2) (k2 (GX (f:=Gi.enc) (z:=10) (j:=k3) (fun _=>rfl) γ.1.2 rfl) (Gb (GrB x26 r28 γ.2))))) <|
  .sp (r28=(0:Int))
  (.run [bf,oc] (fun γ=>Gb (Gx (Gu γ.2))) <|
  .bd (lp (J4 l_0 k3) (0:Nat)) fun qq=>.cs qq (fun o31=>.run [.fcut 0 .ret [(2,jI 9)] [] [] [(0,.any),(3,.any),(5,jI (↑(0:Nat):Int))] []] (fun γ=>k2 (rfl:(jI 0:AV)=jI (↑(0:Nat):Int)) (Gb (YV l_0 k3 (s:=(0:Nat)) (r:=Sum.inl o31) (eS γ.1.2 γ.2)))) <|
  .leaf (.inr (.inl 9)) [])
  (fun o31=>.run [.fcut 0 (.exit 2) (V7 l_0 k3 (Sum.inr (o31))) [] [] [(0,.any),(3,.any),(5,jI (↑(0:Nat):Int))] []] (fun γ=>k2 (rfl:(jI 0:AV)=jI (↑(0:Nat):Int)) (Gb (YV l_0 k3 (s:=(0:Nat)) (r:=Sum.inr (o31)) (eS γ.1.2 γ.2)))) <|
  .gd (GS .i64 ((↑k3:Int)+1)) <| .run [oc,ow,oc] (fun γ=>Gb γ.2) <|
  .leaf (.inl (k3+1)) []))
  (.run (bt::(cs 2 [])) (fun γ=>Gb (Gy (Gz γ.2))) <|
  .leaf (.inr (.inl r28)) []))
  (.run [bf] (fun γ=>Gb (dF γ.2)) <|
  .leaf (.inr (.inr (()))) [])
def Kt (l_0:(List Gi)):Nat→Option (Nat⊕(Int⊕Unit)):=fun s=>(RN l_0 s).den
def Gew (l_0:(List Gi)):Nat→PS:=fun s=>(39,[(0,.lst (fl Gi.enc l_0) l_0.length),(3,jI (↑s:Int))],[])
def Gey:(Int⊕Unit)→Hm:=fun q=>match q with | Sum.inl o=>.ret | Sum.inr (o)=>(.exit 0)
def Gex (l_0:(List Gi)):(Int⊕Unit)→List (Nat×AV):=fun q=>match q with | Sum.inl o=>[(2,jI o)] | Sum.inr (o)=>[]
def Gev (l_0:(List Gi)):(Int⊕Unit)→List Hb:=fun _=>[]
theorem Z1 (l_0:(List Gi)) {s:Nat} {r:Int⊕Unit} (h:lp (Kt l_0) s=some r):DT 0 (.loop (GK Tryz.prog 36 [1,1,0,1,0,0])) (Gew l_0 s).st (Gey r) (PS.st (39,Gex l_0 r,Gev l_0 r)):=
 GN.lp_ht 0 400 (Gew l_0) Gey (fun q=>(39,Gex l_0 q,Gev l_0 q)) (RN l_0) (by intro k3; kernel_rfl) h
def GdK (l_0:(List Gi)):HT Int True:=.run (cs 3 [oa]) (fun _=>Hg) <|
  .sp ((↑l_0.length:Int)>(12:Int))
  (.run [bt,oc] (fun γ=>Gb (dT γ.2)) <|
  .leaf 3 [])
  (.run [bf,oc] (fun γ=>Gb (dF γ.2)) <|
  .bd (lp (Kt l_0) (0:Nat)) fun qq=>.cs qq (fun o2=>.run [.fcut 0 .ret [(2,jI o2)] [] [] [(0,.any),(3,jI (↑(0:Nat):Int))] []] (fun γ=>k2 (rfl:(jI 0:AV)=jI (↑(0:Nat):Int)) (Gb (Z1 l_0 (s:=(0:Nat)) (r:=Sum.inl o2) (eS γ.1.2 γ.2)))) <|
  .leaf o2 [])
  (fun o2=>.run [.fcut 0 (.exit 0) [] [] [] [(0,.any),(3,jI (↑(0:Nat):Int))] [],oc] (fun γ=>k2 (rfl:(jI 0:AV)=jI (↑(0:Nat):Int)) (Gb (Z1 l_0 (s:=(0:Nat)) (r:=Sum.inr (o2)) (eS γ.1.2 γ.2)))) <|
  .leaf 0 []))
def Rp (l_0:(List Gi)):Option Int:=(GdK l_0).den
theorem UW (l_0:(List Gi)) (r:Int) (h:Rp l_0=some r):RT 36 [.lst (fl Gi.enc l_0) l_0.length] (jI r) []:=
 HA.of_ht 400 (GdK l_0) (fun (r:Int)=>jI r) (fun (r:Int)=>[]) (by kernel_rfl) h
end
set_option maxHeartbeats 4000000
set_option maxRecDepth 100000
noncomputable section
open Go Go.Proofs
def Ggm (c_0:G9):HT Int True:=.run (cs 2 []) (fun _=>Hg) <|
  .bd (HS c_0.Name) fun r1=>.sp (r1=true)
  (.sp (c_0.System=[])
  (.run (cs 2 ((rN [.any] (.bool r1) [])::(cs 2 (oF::oc::oa::oc::oF::(cs 6 [bf]))))) (fun γ=>k2 (Hh c_0.Name r1 γ.1.1.2) (k2 ((Gx γ.1.2):(!r1)=false) (k2 (Gx (Gu γ.2)) (Gb fF)))) <|
  .sp (c_0.Days=(0:Int))
  (.run (cs 2 (oa::oc::oF::(cs 4 [bf]))) (fun γ=>k2 (Gx (Gu γ.2)) (Gb fF)) <|
  .sp (c_0.Cents<(0:Int))
  (.run (cs 2 (oa::oc::tc::(cs 4 [bt,oc]))) (fun γ=>k2 (dT γ.2) (Gb tT)) <|
  .leaf 13 [])
  (.run (cs 2 (oa::oc::oF::oc::oa::(cs 2 []))) (fun γ=>Gb (dF γ.2)) <|
  .sp (c_0.Cents>(1125899906842624:Int))
  (.run [bt,oc] (fun γ=>Gb (dT γ.2)) <|
  .leaf 13 [])
  (.run [bf,oc] (fun γ=>Gb (dF γ.2)) <|
  .leaf 0 [])))
  (.run (cs 2 (oa::oc::tc::oc::oa::(cs 2 []))) (fun γ=>Gb (Gy (Gz γ.2))) <|
  .sp (c_0.Days=(1:Int))
  (.run [bf] (fun γ=>Gb (Gx (Gu γ.2))) <|
  .sp (c_0.Cents<(0:Int))
  (.run (cs 2 (oa::oc::tc::(cs 4 [bt,oc]))) (fun γ=>k2 (dT γ.2) (Gb tT)) <|
  .leaf 13 [])
  (.run (cs 2 (oa::oc::oF::oc::oa::(cs 2 []))) (fun γ=>Gb (dF γ.2)) <|
  .sp (c_0.Cents>(1125899906842624:Int))
  (.run [bt,oc] (fun γ=>Gb (dT γ.2)) <|
  .leaf 13 [])
  (.run [bf,oc] (fun γ=>Gb (dF γ.2)) <|
  .leaf 0 [])))
  (.run [bt,oc] (fun γ=>Gb (Gy (Gz γ.2))) <|
  .leaf 1 [])))
  (.bd (HS c_0.System) fun r11=>.run (cs 2 ((rN [.any] (.bool r1) [])::(cs 2 (oF::oc::oa::oc::tc::oc::(rN [.any] (.bool r11) [])::(cs 4 []))))) (fun γ=>k2 (Hh c_0.Name r1 (G0 γ)) (k2 ((Gx γ.1.1.2):(!r1)=false) (k2 (Gy (Gz γ.1.2)) (Gb (Hh c_0.System r11 γ.2))))) <|
  .sp (r11=true)
  (.run [bf] (fun γ=>Gb ((Gx γ.2):(!r11)=false)) <|
  .sp (c_0.Days=(0:Int))
  (.run (cs 2 (oa::oc::oF::(cs 4 [bf]))) (fun γ=>k2 (Gx (Gu γ.2)) (Gb fF)) <|
  .sp (c_0.Cents<(0:Int))
  (.run (cs 2 (oa::oc::tc::(cs 4 [bt,oc]))) (fun γ=>k2 (dT γ.2) (Gb tT)) <|
  .leaf 13 [])
  (.run (cs 2 (oa::oc::oF::oc::oa::(cs 2 []))) (fun γ=>Gb (dF γ.2)) <|
  .sp (c_0.Cents>(1125899906842624:Int))
  (.run [bt,oc] (fun γ=>Gb (dT γ.2)) <|
  .leaf 13 [])
  (.run [bf,oc] (fun γ=>Gb (dF γ.2)) <|
  .leaf 0 [])))
  (.run (cs 2 (oa::oc::tc::oc::oa::(cs 2 []))) (fun γ=>Gb (Gy (Gz γ.2))) <|
  .sp (c_0.Days=(1:Int))
  (.run [bf] (fun γ=>Gb (Gx (Gu γ.2))) <|
  .sp (c_0.Cents<(0:Int))
  (.run (cs 2 (oa::oc::tc::(cs 4 [bt,oc]))) (fun γ=>k2 (dT γ.2) (Gb tT)) <|
  .leaf 13 [])
  (.run (cs 2 (oa::oc::oF::oc::oa::(cs 2 []))) (fun γ=>Gb (dF γ.2)) <|
  .sp (c_0.Cents>(1125899906842624:Int))
  (.run [bt,oc] (fun γ=>Gb (dT γ.2)) <|
  .leaf 13 [])
  (.run [bf,oc] (fun γ=>Gb (dF γ.2)) <|
  .leaf 0 [])))
  (.run [bt,oc] (fun γ=>Gb (Gy (Gz γ.2))) <|
  .leaf 1 [])))
  (.run [bt,oc] (fun γ=>Gb ((Gy (Ja γ.2)):(!r11)=true)) <|
  .leaf 6 [])))
  (.run (cs 2 ((rN [.any] (.bool r1) [])::(cs 2 (tc::(cs 10 [bt,oc]))))) (fun γ=>k2 (Hh c_0.Name r1 γ.1.2) (k2 ((Gy (Ja γ.2)):(!r1)=true) (Gb tT))) <|
  .leaf 6 [])
def Gih (c_0:G9):Option Int:=(Ggm c_0).den
theorem GpG (c_0:G9) (r:Int) (h:Gih c_0=some r):RT 140 [.agg (G9.enc c_0)] (jI r) []:=
 HA.of_ht 400 (Ggm c_0) (fun (r:Int)=>jI r) (fun (r:Int)=>[]) (by kernel_rfl) h
def Ghc (n_0:Int):HT Bool True:=.run [oc] (fun _=>Hg) <|
  .sp (n_0≥(0:Int))
  (.run (oc::oa::oc::tc::oa::(cs 2 [])) (fun γ=>Gb (dT γ.2)) <|
  .leaf (decide (n_0≤(1125899906842624:Int))) [])
  (.run (oc::oa::oc::oF::(cs 3 [])) (fun γ=>Gb (dF γ.2)) <|
  .leaf false [])
def X6 (n_0:Int):Option Bool:=(Ghc n_0).den
theorem Yv (n_0:Int) (r:Bool) (h:X6 n_0=some r):RT 87 [jI n_0] (.bool r) []:=
 HA.of_ht 400 (Ghc n_0) (fun (r:Bool)=>.bool r) (fun (r:Bool)=>[]) (by kernel_rfl) h
def Gkk (c_0:G9):HT Int True:=.run (cs 2 []) (fun _=>Hg) <|
  .bd (M8 c_0.Name) fun r1=>.sp (r1=true)
  (.sp (c_0.System=[])
  (.run (cs 2 ((rN [.any] (.bool r1) [])::(cs 2 (oF::oc::oa::oc::oF::(cs 5 [bf]))))) (fun γ=>k2 (Jc c_0.Name r1 γ.1.1.2) (k2 ((Gx γ.1.2):(!r1)=false) (k2 (Gx (Gu γ.2)) (Gb fF)))) <|
  .sp (c_0.Days=(0:Int))
  (.run (cs 2 (oa::oc::oF::(cs 3 [bf]))) (fun γ=>k2 (Gx (Gu γ.2)) (Gb fF)) <|
  .bd (X6 c_0.Cents) fun r6=>.run (cs 2 [rN [.any] (.bool r6) [],oc]) (fun γ=>Gb (Yv c_0.Cents r6 γ.2)) <|
  .sp (r6=true)
  (.run [bf,oc] (fun γ=>Gb ((Gx γ.2):(!r6)=false)) <|
  .leaf 0 [])
  (.run [bt,oc] (fun γ=>Gb ((Gy (Ja γ.2)):(!r6)=true)) <|
  .leaf 13 []))
  (.run (cs 2 [oa,oc,tc,oc,oa,oc]) (fun γ=>Gb (Gy (Gz γ.2))) <|
  .sp (c_0.Days=(1:Int))
  (.run [bf] (fun γ=>Gb (Gx (Gu γ.2))) <|
  .bd (X6 c_0.Cents) fun r10=>.run (cs 2 [rN [.any] (.bool r10) [],oc]) (fun γ=>Gb (Yv c_0.Cents r10 γ.2)) <|
  .sp (r10=true)
  (.run [bf,oc] (fun γ=>Gb ((Gx γ.2):(!r10)=false)) <|
  .leaf 0 [])
  (.run [bt,oc] (fun γ=>Gb ((Gy (Ja γ.2)):(!r10)=true)) <|
  .leaf 13 []))
  (.run [bt,oc] (fun γ=>Gb (Gy (Gz γ.2))) <|
  .leaf 1 [])))
  (.bd (M8 c_0.System) fun r13=>.run (cs 2 ((rN [.any] (.bool r1) [])::(cs 2 (oF::oc::oa::oc::tc::oc::(rN [.any] (.bool r13) [])::(cs 3 []))))) (fun γ=>k2 (Jc c_0.Name r1 (G0 γ)) (k2 ((Gx γ.1.1.2):(!r1)=false) (k2 (Gy (Gz γ.1.2)) (Gb (Jc c_0.System r13 γ.2))))) <|
  .sp (r13=true)
  (.run [bf] (fun γ=>Gb ((Gx γ.2):(!r13)=false)) <|
  .sp (c_0.Days=(0:Int))
  (.run (cs 2 (oa::oc::oF::(cs 3 [bf]))) (fun γ=>k2 (Gx (Gu γ.2)) (Gb fF)) <|
  .bd (X6 c_0.Cents) fun r17=>.run (cs 2 [rN [.any] (.bool r17) [],oc]) (fun γ=>Gb (Yv c_0.Cents r17 γ.2)) <|
  .sp (r17=true)
  (.run [bf,oc] (fun γ=>Gb ((Gx γ.2):(!r17)=false)) <|
  .leaf 0 [])
  (.run [bt,oc] (fun γ=>Gb ((Gy (Ja γ.2)):(!r17)=true)) <|
  .leaf 13 []))
  (.run (cs 2 [oa,oc,tc,oc,oa,oc]) (fun γ=>Gb (Gy (Gz γ.2))) <|
  .sp (c_0.Days=(1:Int))
  (.run [bf] (fun γ=>Gb (Gx (Gu γ.2))) <|
  .bd (X6 c_0.Cents) fun r21=>.run (cs 2 [rN [.any] (.bool r21) [],oc]) (fun γ=>Gb (Yv c_0.Cents r21 γ.2)) <|
  .sp (r21=true)
  (.run [bf,oc] (fun γ=>Gb ((Gx γ.2):(!r21)=false)) <|
  .leaf 0 [])
  (.run [bt,oc] (fun γ=>Gb ((Gy (Ja γ.2)):(!r21)=true)) <|
  .leaf 13 []))
  (.run [bt,oc] (fun γ=>Gb (Gy (Gz γ.2))) <|
  .leaf 1 [])))
  (.run [bt,oc] (fun γ=>Gb ((Gy (Ja γ.2)):(!r13)=true)) <|
  .leaf 6 [])))
  (.run (cs 2 ((rN [.any] (.bool r1) [])::(cs 2 (tc::(cs 9 [bt,oc]))))) (fun γ=>k2 (Jc c_0.Name r1 γ.1.2) (k2 ((Gy (Ja γ.2)):(!r1)=true) (Gb tT))) <|
  .leaf 6 [])
def Gln (c_0:G9):Option Int:=(Gkk c_0).den
theorem GrC (c_0:G9) (r:Int) (h:Gln c_0=some r):RT 27 [.agg (G9.enc c_0)] (jI r) []:=
 HA.of_ht 400 (Gkk c_0) (fun (r:Int)=>jI r) (fun (r:Int)=>[]) (by kernel_rfl) h
end
set_option maxHeartbeats 4000000
noncomputable section
def Xv (w:Gl):Bool:=decide (1≤w.Days∧w.Days≤127∧0≤w.From∧w.From<w.To∧w.To≤1440)
theorem Za (w:Gl):Rk w=some (Xv w):=by
 simp only [Rk,X5,d1,d2,d3,d6,Xv]; grind
def GxO (w:Gl):Bool:=decide (w.Days=0∧w.From=0∧w.To=0)||Xv w
theorem Gj1 (w:Gl):Km w=some (GxO w):=by
 simp only [Km,VQ,d1,d2,d3,d6,GxO,Xv]; grind
def Guj (k:Int):Int:=if k=1 then 1000 else if k=2 then 1125899906842624 else 0
theorem Gmj (k:Int):Ym k=some (Guj k):=by
 simp only [Ym,Zw,d1,d2,d3,d6,Guj]; grind
theorem GmM (d:Gi):Gfi d=some (decide (0≤d.Amount∧d.Amount≤Guj d.Kind)):=by
 simp only [Gfi,Gfj,d1,d2,d3,d6,Guj]
 by_cases h1:d.Kind=1
 ·simp only [h1,if_true]; grind
 ·by_cases h2:d.Kind=2
  ·simp only [h2,if_true,if_neg (show ¬ ((2:Int)=1) by decide)]; grind
  ·simp only [if_neg h1,if_neg h2]
   exact congrArg some (decide_eq_decide.2 (by omega))
theorem Gpi (s:List UInt8):Ghb s=some (decide (s=[])||HR s):=by
 simp only [Ghb,Gkj,d1,d2,d3,d5,d6,Ms,Hd]; grind
def Gwf (d:Gi):Int:=
 if HR d.Name=false then 6 else if d.Kind<1∨d.Kind>3∨d.Amount<0∨Guj d.Kind<d.Amount then 1
 else if (d.Group≠[]∧HR d.Group=false)∨(d.System≠[]∧HR d.System=false) then 6
 else if d.Class<0∨d.Class>9 then 20 else if GxO d.Window=false then 12 else if d.Least<0∨d.Least>2147483648 then 2 else 0
theorem GkS (d:Gi):VL d=some (Gwf d):=by
 simp only [VL,X2,d1,d2,d3,d4,d5,d6,JX,Gmj,Gj1,Hd,Gwf]
 generalize Guj d.Kind=m
 generalize HR d.Group=g
 generalize HR d.System=s
 generalize GxO d.Window=w
 generalize HR d.Name=q
 cases q
 ·rfl
 by_cases c1:d.Kind<1∨d.Kind>3∨d.Amount<0∨m<d.Amount
 ·simp only [if_true,if_pos c1,if_false,Bool.true_eq_false]; grind
 simp only [if_true,if_neg c1,if_false,Bool.true_eq_false]
 rw [if_neg (by omega),if_neg (by omega),if_neg (by omega),if_neg (by omega)]
 clear c1
 cases g <;> cases s <;> cases w <;> simp only [if_true,if_false,Bool.false_eq_true,Bool.true_eq_false] <;> grind
theorem Gph (d:Gi):Glm d=some (Gwf d):=by
 simp only [Glm,Gki,d1,d2,d3,d4,d5,d6,Ms,GmM,Gpi,Za,Hd,Gwf,GxO]
 generalize Guj d.Kind=m
 rcases Hk (HR d.Name) with hq | hq <;> simp only [hq,if_true,if_false,Bool.true_eq_false,Bool.false_eq_true]
 by_cases c1:d.Kind<1∨d.Kind>3∨d.Amount<0∨m<d.Amount
 ·simp only [if_pos c1]; grind
 simp only [if_neg c1]
 rw [if_neg (by omega),if_neg (by omega),if_pos (dT (by omega))]
 clear c1 hq
 have hw0:Xv d.Window=true→d.Window.Days≠0:=fun h=>by have:=of_decide_eq_true h; omega
 rcases Hk (HR d.Group) with hg | hg <;> rcases Hk (HR d.System) with hs | hs <;> rcases Hk (Xv d.Window) with hw | hw <;>
  simp only [hg,hs,hw,if_true,if_false,Bool.false_eq_true,Bool.true_eq_false,Bool.or_true,Bool.or_false,decide_eq_true_eq,and_false,or_false,and_true] <;> grind
def Gui (l:List Gi) (k:Nat) (x:Gi):Option Int:=
 if Gwf x≠0 then some (Gwf x) else if (l.take k).any (fun y=>decide (y.Name=x.Name)) then some 9 else none
def Grh (l:List Gi):Int:=if l.length>12 then 3 else (GJ (Gui l) 0 l).getD 0
theorem Ggo (l:List Gi):QK l=some (Grh l):=by
 simp only [QK,Uf,dA,Grh]
 by_cases hl:l.length>12
 ·rw [if_pos (by omega),if_pos hl]
 rw [if_neg (by omega),if_neg hl]
 have hs:Sm l:=by show _≤_; omega
 have key:lp (H9 l) 0=some (HQ (GJ (Gui l) 0 l)):=by
  refine GP (fun k x hx=>?_) ?_
  ·obtain ⟨hk,i1,i2,hkl,h1,h2⟩:=rd hs hx
   have hkl2:k≤l.length:=by omega
   have hq:lp (HU l k x) 0=some (HQ (GJ (ixG fun y=>decide (y.Name=x.Name)) 0 (l.take k))):=by
    have hst:Sm (l.take k):=by show _≤_; rw [List.length_take]; omega
    refine GP (fun j y hy=>?_) ?_
    ·obtain ⟨_,i3,_,hjl,_,_⟩:=rd hst hy
     simp only [HU,Kh,dA,hy,Hd,i3,if_true,hjl,ixG]
     clear i1 i2 i3 hs hst
     grind [K0]
    ·simp only [HU,Kh,d3,d6,d1]
     rw [if_neg (by omega)]
   simp only [H9,KF,dA,hx,hq,Hd,GkS,i1,if_true,hkl,hkl2,Gui]
   clear i1 i2 hs hq
   have ha:(l.take k).any (fun y=>decide (y.Name=x.Name))=((l.take k).find? fun y=>decide (y.Name=x.Name)).isSome:=Goq _
   rw [ha]
   rcases X3 (p:=fun y:Gi=>decide (y.Name=x.Name)) (l.take k) with ⟨j,y,f1,f2,f3⟩ | ⟨f1,f3⟩
   ·simp only [f1,f3,HQ,eN,eM,Option.isSome_some]
    grind [K0]
   ·simp only [f1,f3,HQ,eN,eM,Option.isSome_none]
    grind [K0]
  ·simp only [H9,KF,d3,d6,d1]
   rw [if_neg (by omega)]
 rw [key]
 cases GJ (Gui l) 0 l <;> rfl
theorem GlR (l:List Gi):Rp l=some (Grh l):=by
 simp only [Rp,GdK,dA,Grh]
 by_cases hl:l.length>12
 ·rw [if_pos (by omega),if_pos hl]
 rw [if_neg (by omega),if_neg hl]
 have hs:Sm l:=by show _≤_; omega
 have key:lp (Kt l) 0=some (HQ (GJ (Gui l) 0 l)):=by
  refine GP (fun k x hx=>?_) ?_
  ·obtain ⟨hk,i1,i2,hkl,h1,h2⟩:=rd hs hx
   have hq:lp (J4 l k) 0=some (HQ (if (l.take k).any (fun y=>decide (y.Name=x.Name)) then some () else none)):=by
    rw [← Hq (l.take k) 0]
    refine JW (l:=l) (n:=k) (by omega) (fun j y hj hy=>?_) ?_
    ·obtain ⟨_,i3,_,_,_,_⟩:=rd hs hy
     have hjk:(j:Int)<(k:Int):=by omega
     simp only [J4,QO,dA,hx,hy,Hd,i3,if_true,hjk]
     clear i1 i2 i3 hs
     grind [K0]
    ·simp only [J4,QO,d3,d6,d1]
     rw [if_neg (by omega)]
   simp only [Kt,RN,dA,hx,hq,Hd,Gph,i1,if_true,hkl,Gui]
   clear i1 i2 hs hq
   rcases Hk ((l.take k).any fun y=>decide (y.Name=x.Name)) with hh | hh <;> simp only [hh,HQ,eN,eM,if_true,if_false,Bool.false_eq_true] <;> grind [K0]
  ·simp only [Kt,RN,d3,d6,d1]
   rw [if_neg (by omega)]
 rw [key]
 cases GJ (Gui l) 0 l <;> rfl
def Gd3 (c:G9):Int:=
 if HR c.Name=false then 6 else if c.System≠[]∧HR c.System=false then 6 else if c.Days≠0∧c.Days≠1 then 1 else if c.Cents<0∨1125899906842624<c.Cents then 13 else 0
theorem Grc (c:G9):Gih c=some (Gd3 c):=by
 simp only [Gih,Ggm,d1,d2,d3,d4,d5,d6,JX,Hd,Gd3]
 grind
theorem GnP (n:Int):X6 n=some (decide (0≤n∧n≤1125899906842624)):=by
 simp only [X6,Ghc,d1,d2,d3,d6]; grind
theorem Gpj (c:G9):Gln c=some (Gd3 c):=by
 simp only [Gln,Gkk,d1,d2,d3,d4,d5,d6,Ms,GnP,Hd,Gd3]
 grind
end
end Go.Proofs.YtdifanfcaemokaaGreatDoor.Av
