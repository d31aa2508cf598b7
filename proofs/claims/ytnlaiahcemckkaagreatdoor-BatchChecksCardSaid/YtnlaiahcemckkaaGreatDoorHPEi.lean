import Derived.Test.YtnlaiahcemckkaaGreatDoorHPEt
import Derived.Test.YtnlaiahcemckkaaGreatDoorHPEd
open Prod (fst)
open Int (tdiv tmod)
set_option maxHeartbeats 4000000
set_option maxRecDepth 100000
set_option linter.unusedVariables false
set_option linter.unusedSimpArgs false
namespace Go.Proofs.YtnlaiahcemckkaaGreatDoor.Av
noncomputable section
open Go Go.Proofs
def GiY (i_0:Gn):HT Bool True:=.run (cs 2 []) (fun _=>He) <|
  .sp (i_0.From≥(0:Int))
  (.sp (i_0.From<i_0.To)
  (.run (cs 2 (oa::oc::tc::(cs 3 (oa::(cs 2 (tc::oc::oa::(cs 2 []))))))) (fun γ=>k2 (dT γ.1.2) (Gb (dT γ.2))) <|
  .leaf (decide (i_0.To≤(68719476736:Int))) [])
  (.run (cs 2 (oa::oc::tc::(cs 3 (oa::(cs 2 (oF::(cs 4 []))))))) (fun γ=>k2 (dT γ.1.2) (Gb (dF γ.2))) <|
  .leaf false []))
  (.run (cs 2 (oa::oc::oF::(cs 11 []))) (fun γ=>Gb (dF γ.2)) <|
  .leaf false [])
def Gko (i_0:Gn):Option Bool:=(GiY i_0).den
theorem GpF (i_0:Gn) (r:Bool) (h:Gko i_0=some r):G5 Tryz.prog GT 190 [.agg (Gn.enc i_0)] (.bool r) []:=
 G5.of_ht 400 (GiY i_0) (fun (r:Bool)=>.bool r) (fun (r:Bool)=>[]) (by kernel_rfl) h
def VZ (w_0:Gm):HT Bool True:=.run (cs 2 []) (fun _=>He) <|
  .sp (w_0.Days≥(1:Int))
  (.sp (w_0.Days≤(127:Int))
  (.sp (w_0.From≥(0:Int))
  (.sp (w_0.From<w_0.To)
  (.run (cs 2 (oa::oc::tc::oc::oa::(cs 2 (tc::oc::oa::(cs 2 (tc::(cs 3 (oa::(cs 2 (tc::oc::oa::(cs 2 []))))))))))) (fun γ=>k2 (dT γ.1.1.1.2) (k2 (dT γ.1.1.2) (k2 (dT γ.1.2) (Gb (dT γ.2))))) <|
  .leaf (decide (w_0.To≤(1440:Int))) [])
  (.run (cs 2 (oa::oc::tc::oc::oa::(cs 2 (tc::oc::oa::(cs 2 (tc::(cs 3 (oa::(cs 2 (oF::(cs 4 []))))))))))) (fun γ=>k2 (dT γ.1.1.1.2) (k2 (dT γ.1.1.2) (k2 (dT γ.1.2) (Gb (dF γ.2))))) <|
  .leaf false []))
  (.run (cs 2 (oa::oc::tc::oc::oa::(cs 2 (tc::oc::oa::(cs 2 (oF::(cs 11 []))))))) (fun γ=>k2 (dT γ.1.1.2) (k2 (dT γ.1.2) (Gb (dF γ.2)))) <|
  .leaf false []))
  (.run (cs 2 (oa::oc::tc::oc::oa::(cs 2 (oF::(cs 16 []))))) (fun γ=>k2 (dT γ.1.2) (Gb (dF γ.2))) <|
  .leaf false []))
  (.run (cs 2 (oa::oc::oF::(cs 21 []))) (fun γ=>Gb (dF γ.2)) <|
  .leaf false [])
def QO (w_0:Gm):Option Bool:=(VZ w_0).den
theorem R6 (w_0:Gm) (r:Bool) (h:QO w_0=some r):G5 Tryz.prog GT 191 [.agg (Gm.enc w_0)] (.bool r) []:=
 G5.of_ht 400 (VZ w_0) (fun (r:Bool)=>.bool r) (fun (r:Bool)=>[]) (by kernel_rfl) h
def Giw (t_0:Ga):HT Ga True:=.run (cs 2 []) (fun _=>He) <|
  .bd (Ge2 t_0) fun r1=>.run [oc,.ret none [.any] (jI r1) [],oa] (fun γ=>Gb (Vd t_0 r1 γ.2)) <|
  .sp (r1=(0:Int))
  (.run (bf::(cs 2 [])) (fun γ=>Gb (Gs (Gp γ.2))) <|
  .leaf t_0 [])
  (.run (bt::(cs 2 [])) (fun γ=>Gb (Gu (Gw γ.2))) <|
  .leaf (⟨(⟨[],[]⟩:Gc),[]⟩:Ga) [])
def GfA (t_0:Ga):Option Ga:=(Giw t_0).den
theorem GjE (t_0:Ga) (r:Ga) (h:GfA t_0=some r):G5 Tryz.prog GT 414 [.agg (Ga.enc t_0)] (.agg (Ga.enc r)) []:=
 G5.of_ht 400 (Giw t_0) (fun (r:Ga)=>.agg (Ga.enc r)) (fun (r:Ga)=>[]) (by kernel_rfl) h
def Gi1 (n_0:Gc):HT Gc True:=.run (cs 2 []) (fun _=>He) <|
  .bd (Ggy n_0) fun r1=>.run [oc,.ret none [.any] (jI r1) [],oa] (fun γ=>Gb (Gkf n_0 r1 γ.2)) <|
  .sp (r1=(0:Int))
  (.run (bf::(cs 2 [])) (fun γ=>Gb (Gs (Gp γ.2))) <|
  .leaf n_0 [])
  (.run (bt::(cs 2 [])) (fun γ=>Gb (Gu (Gw γ.2))) <|
  .leaf (⟨[],[]⟩:Gc) [])
def Gj2 (n_0:Gc):Option Gc:=(Gi1 n_0).den
theorem GpI (n_0:Gc) (r:Gc) (h:Gj2 n_0=some r):G5 Tryz.prog GT 480 [.agg (Gc.enc n_0)] (.agg (Gc.enc r)) []:=
 G5.of_ht 400 (Gi1 n_0) (fun (r:Gc)=>.agg (Gc.enc r)) (fun (r:Gc)=>[]) (by kernel_rfl) h
def Gk5 (n_0:Gc) (name_1:(List UInt8)):HT (Gq×Bool) True:=.run (cs 3 []) (fun _=>He) <|
  .bd (Gj2 n_0) fun r1=>.run (oc::(.ret none [.any] (.agg (Gc.enc r1)) [])::(cs 2 [])) (fun γ=>Gb (GpI n_0 r1 γ.2)) <|
  .bd (QM r1.Points 64 name_1) fun r3=>.run (cs 3 ((.ret none [.any,.any,.any] (jI r3) [])::(cs 2 [oa]))) (fun γ=>Gb (ME r1.Points 64 name_1 r3 γ.2)) <|
  .sp (r3<(0:Int))
  (.run (bt::(cs 3 [])) (fun γ=>Gb (dT γ.2)) <|
  .leaf ((⟨([]:List UInt8),0,([]:List UInt8)⟩:Gq),false) [])
  (.run [bf] (fun γ=>Gb (dF γ.2)) <|
  .gd ((0:Int)≤r3) <| .bd (r1.Points[r3.toNat]?) fun x7=>.run (cs 3 ((.op none (.i r3.toNat))::(.op none (.v [.str x7.Name,jI x7.Kind,.str x7.System]))::(cs 2 []))) (fun γ=>k2 (ix γ.1.2 γ.2) (k2 (GC (f:=Gq.enc) (z:=2) (fun _=>rfl) γ.2) (Gb (GU (f:=Gq.enc) (z:=3) (j:=r3.toNat) (fun _=>rfl) γ.2 rfl)))) <|
  .leaf (x7,true) [])
def Gjc (n_0:Gc) (name_1:(List UInt8)):Option (Gq×Bool):=(Gk5 n_0 name_1).den
theorem GlH (n_0:Gc) (name_1:(List UInt8)) (r:(Gq×Bool)) (h:Gjc n_0 name_1=some r):G5 Tryz.prog GT 413 [.agg (Gc.enc n_0),.str name_1] (.tup [.agg (Gq.enc r.1),.bool r.2]) []:=
 G5.of_ht 400 (Gk5 n_0 name_1) (fun (r:(Gq×Bool))=>.tup [.agg (Gq.enc r.1),.bool r.2]) (fun (r:(Gq×Bool))=>[]) (by kernel_rfl) h
def Gk4 (t_0:Ga) (name_1:(List UInt8)):HT Int True:=.run (cs 2 []) (fun _=>He) <|
  .bd (GfA t_0) fun r1=>.bd (Gjc r1.Net name_1) fun r3=>.run (oc::(.ret none [.any] (.agg (Ga.enc r1)) [])::(cs 2 ((.ret none [.any,.any] (.tup [.agg (Gq.enc r3.1),.bool r3.2]) [])::(cs 9 [])))) (fun γ=>k2 (GjE t_0 r1 γ.1.2) (Gb (GlH r1.Net name_1 r3 γ.2))) <|
  .leaf r3.1.Kind []
def GgE (t_0:Ga) (name_1:(List UInt8)):Option Int:=(Gk4 t_0 name_1).den
theorem Ua (t_0:Ga) (name_1:(List UInt8)) (r:Int) (h:GgE t_0 name_1=some r):G5 Tryz.prog GT 330 [.agg (Ga.enc t_0),.str name_1] (jI r) []:=
 G5.of_ht 400 (Gk4 t_0 name_1) (fun (r:Int)=>jI r) (fun (r:Int)=>[]) (by kernel_rfl) h
def Ggu (t_0:Ga) (name_1:(List UInt8)):HT (Gi×Bool) True:=.run (cs 3 []) (fun _=>He) <|
  .bd (GfA t_0) fun r1=>.run (oc::(.ret none [.any] (.agg (Ga.enc r1)) [])::(cs 2 [])) (fun γ=>Gb (GjE t_0 r1 γ.2)) <|
  .bd (Gjc r1.Net name_1) fun r3=>.run (cs 3 ((.ret none [.any,.any] (.tup [.agg (Gq.enc r3.1),.bool r3.2]) [])::(cs 6 []))) (fun γ=>Gb (GlH r1.Net name_1 r3 γ.2)) <|
  .sp (r3.2=true)
  (.run (cs 3 [oF,oc,oa,oc]) (fun γ=>Gb ((Gs γ.2):(!r3.2)=false)) <|
  .sp (r3.1.System=[])
  (.run (bt::(cs 3 [])) (fun γ=>Gb (Gp γ.2)) <|
  .leaf ((⟨([]:List UInt8),false,0⟩:Gi),false) [])
  (.run [bf] (fun γ=>Gb (Gw γ.2)) <|
  .bd (GgS r1.Systems r3.1.System) fun r7=>.gd ((0:Int)≤r7) <| .bd (r1.Systems[r7.toNat]?) fun x10=>.run (cs 6 ((.ret none [.any,.any] (jI r7) [])::(.op none (.i r7.toNat))::(.op none (.v [.str x10.Name,.bool x10.Closed,jI x10.Most]))::(cs 2 []))) (fun γ=>k2 (Ggi r1.Systems r3.1.System r7 γ.1.1.2) (k2 (ix γ.1.2 γ.2) (k2 (GC (f:=Gi.enc) (z:=2) (fun _=>rfl) γ.2) (Gb (GU (f:=Gi.enc) (z:=3) (j:=r7.toNat) (fun _=>rfl) γ.2 rfl))))) <|
  .leaf (x10,true) []))
  (.run (cs 3 (tc::(cs 3 (bt::(cs 3 []))))) (fun γ=>k2 ((Gu (eq_false_of_ne_true γ.2)):(!r3.2)=true) (Gb (rfl:true=true))) <|
  .leaf ((⟨([]:List UInt8),false,0⟩:Gi),false) [])
def Gdu (t_0:Ga) (name_1:(List UInt8)):Option (Gi×Bool):=(Ggu t_0 name_1).den
theorem GhQ (t_0:Ga) (name_1:(List UInt8)) (r:(Gi×Bool)) (h:Gdu t_0 name_1=some r):G5 Tryz.prog GT 331 [.agg (Ga.enc t_0),.str name_1] (.tup [.agg (Gi.enc r.1),.bool r.2]) []:=
 G5.of_ht 400 (Ggu t_0 name_1) (fun (r:(Gi×Bool))=>.tup [.agg (Gi.enc r.1),.bool r.2]) (fun (r:(Gi×Bool))=>[]) (by kernel_rfl) h
def Giv (t_0:Ga) (x_1:Gz):HT Bool True:=.run (cs 5 [oa]) (fun _=>He) <|
  .sp (x_1.To=[])
  (.run [bt] (fun γ=>Gb (Gp γ.2)) <|
  .bd (GgE t_0 x_1.From) fun r2=>.run (cs 3 [.ret none [.any,.any] (jI r2) [],oa,oc]) (fun γ=>Gb (Ua t_0 x_1.From r2 γ.2)) <|
  .leaf (r2==(1:Int)) [])
  (.run [bf] (fun γ=>Gb (Gw γ.2)) <|
  .bd (Gdu t_0 x_1.From) fun r4=>.run (cs 3 ((.ret none [.any,.any] (.tup [.agg (Gi.enc r4.1),.bool r4.2]) [])::(cs 6 []))) (fun γ=>Gb (GhQ t_0 x_1.From r4 γ.2)) <|
  .bd (Gdu t_0 x_1.To) fun r6=>.run (cs 3 ((.ret none [.any,.any] (.tup [.agg (Gi.enc r6.1),.bool r6.2]) [])::(cs 6 []))) (fun γ=>Gb (GhQ t_0 x_1.To r6 γ.2)) <|
  .bd (GgE t_0 x_1.From) fun r8=>.sp (r8=(2:Int))
  (.bd (GgE t_0 x_1.To) fun r11=>.sp (r11=(3:Int))
  (.run (cs 3 ((.ret none [.any,.any] (jI r8) [])::oa::oc::tc::(cs 2 ((.ret none [.any,.any] (jI r11) [])::oa::(cs 2 (tc::(cs 3 (oa::(cs 2 []))))))))) (fun γ=>k2 (Ua t_0 x_1.From r8 γ.1.1.1.2) (k2 (Gp γ.1.1.2) (k2 (Ua t_0 x_1.To r11 γ.1.2) (Gb (Gp γ.2))))) <|
  .leaf (r4.1.Name==r6.1.Name) [])
  (.run (cs 3 ((.ret none [.any,.any] (jI r8) [])::oa::oc::tc::(cs 2 ((.ret none [.any,.any] (jI r11) [])::oa::(cs 2 (oF::(cs 6 []))))))) (fun γ=>k2 (Ua t_0 x_1.From r8 γ.1.1.1.2) (k2 (Gp γ.1.1.2) (k2 (Ua t_0 x_1.To r11 γ.1.2) (Gb (Gw γ.2))))) <|
  .leaf false []))
  (.run (cs 3 ((.ret none [.any,.any] (jI r8) [])::oa::oc::oF::(cs 13 []))) (fun γ=>k2 (Ua t_0 x_1.From r8 γ.1.2) (Gb (Gw γ.2))) <|
  .leaf false []))
def Gj9 (t_0:Ga) (x_1:Gz):Option Bool:=(Giv t_0 x_1).den
theorem Gpx (t_0:Ga) (x_1:Gz) (r:Bool) (h:Gj9 t_0 x_1=some r):G5 Tryz.prog GT 252 [.agg (Ga.enc t_0),.agg (Gz.enc x_1)] (.bool r) []:=
 G5.of_ht 400 (Giv t_0 x_1) (fun (r:Bool)=>.bool r) (fun (r:Bool)=>[]) (by kernel_rfl) h
def XC (l_0:(List GV)) (name_1:(List UInt8)):Nat→HT (Nat⊕(Unit⊕Unit)) True
 | k5=>.run (cs 3 [oa]) (fun _=>He) <|
  .sp ((↑k5:Int)<(↑l_0.length:Int))
  (.run [bt] (fun γ=>Gb (dT γ.2)) <|
  .bd (l_0[k5]?) fun x8=>.run (cs 2 [.op none (.i k5),oc,.op none (.v [.str x8.Name]),oc,oa]) (fun γ=>k2 (ir γ.2) (k2 (GC (f:=GV.enc) (z:=3) (fun _=>rfl) γ.2) (Gb (GL (f:=GV.enc) (z:=4) (j:=k5) (a:=0) (n:=1) (fun _=>rfl) γ.2 (by decide) rfl)))) <|
  .sp (x8.Name=name_1)
  (.run [bt,oc] (fun γ=>Gb (Gp γ.2)) <|
  .leaf (Sum.inr (Sum.inl ())) [])
  (.run [bf] (fun γ=>Gb (Gw γ.2)) <|
  .gd (GP .i64 ((↑k5:Int)+1)) <| .run [oc,ow,oc] (fun γ=>Gb γ.2) <|
  .leaf (Sum.inl (k5+1)) []))
  (.run [bf] (fun γ=>Gb (dF γ.2)) <|
  .leaf (Sum.inr (Sum.inr (()))) [])
def Mi (l_0:(List GV)) (name_1:(List UInt8)):Nat→Option (Nat⊕(Unit⊕Unit)):=fun s=>(XC l_0 name_1 s).den
def Gg6 (l_0:(List GV)) (name_1:(List UInt8)):Nat→PS:=fun s=>(19,[(0,.lst (fl GV.enc l_0) l_0.length),(1,.str name_1),(5,jI (↑s:Int))],[])
def Gha:(Unit⊕Unit)→Hm:=fun q=>match q with | Sum.inl o=>.ret | Sum.inr (o)=>(.exit 0)
def Gik (l_0:(List GV)) (name_1:(List UInt8)):(Unit⊕Unit)→List (Nat×AV):=fun q=>match q with | Sum.inl o=>[(4,.bool true)] | Sum.inr (o)=>[]
def GhB (l_0:(List GV)) (name_1:(List UInt8)):(Unit⊕Unit)→List G6:=fun q=>match q with | Sum.inl o=>[] | Sum.inr (o)=>[]
theorem Gc6 (l_0:(List GV)) (name_1:(List UInt8)) {s:Nat} {r:Unit⊕Unit} (h:lp (Mi l_0 name_1) s=some r):GI Tryz.prog GT 0 (.loop (GO Tryz.prog 253 [1,0,1,0,0])) (Gg6 l_0 name_1 s).st (Gha r) (PS.st (19,Gik l_0 name_1 r,GhB l_0 name_1 r)):=
 GI.lp_ht 0 400 (Gg6 l_0 name_1) Gha (fun q=>(19,Gik l_0 name_1 q,GhB l_0 name_1 q)) (XC l_0 name_1) (by intro k5; kernel_rfl) h
def GiJ (l_0:(List GV)) (name_1:(List UInt8)):HT Bool True:=.run (cs 2 []) (fun _=>He) <|
  .bd (lp (Mi l_0 name_1) (0:Nat)) fun qq=>.cs qq (fun o1=>.run [.fcut 0 .ret [(4,.bool true)] [] [] [(0,.any),(1,.any),(5,jI (↑(0:Nat):Int))] []] (fun γ=>k2 (rfl:(jI 0:AV)=jI (↑(0:Nat):Int)) (Gb (Gc6 l_0 name_1 (s:=(0:Nat)) (r:=Sum.inl o1) (eS γ.1.2 γ.2)))) <|
  .leaf true [])
  (fun o1=>.run [.fcut 0 (.exit 0) [] [] [] [(0,.any),(1,.any),(5,jI (↑(0:Nat):Int))] [],oc] (fun γ=>k2 (rfl:(jI 0:AV)=jI (↑(0:Nat):Int)) (Gb (Gc6 l_0 name_1 (s:=(0:Nat)) (r:=Sum.inr (o1)) (eS γ.1.2 γ.2)))) <|
  .leaf false [])
def Gjl (l_0:(List GV)) (name_1:(List UInt8)):Option Bool:=(GiJ l_0 name_1).den
theorem GpD (l_0:(List GV)) (name_1:(List UInt8)) (r:Bool) (h:Gjl l_0 name_1=some r):G5 Tryz.prog GT 253 [.lst (fl GV.enc l_0) l_0.length,.str name_1] (.bool r) []:=
 G5.of_ht 400 (GiJ l_0 name_1) (fun (r:Bool)=>.bool r) (fun (r:Bool)=>[]) (by kernel_rfl) h
def Xf (x_0:Gf) (i_2:Int) (x2:Gz):Nat→HT (Nat⊕(Unit⊕Unit)) True
 | k8=>.run (cs 2 [oa]) (fun _=>He) <|
  .sp ((↑k8:Int)<i_2)
  (.run [bt] (fun γ=>Gb (dT γ.2)) <|
  .bd (x_0.Rates[k8]?) fun x25=>.run (cs 3 ((.op none (.i k8))::(.op none (.v [.str x25.From,.str x25.To,jI x25.Class,.str x25.Band,jI x25.Cents]))::(cs 2 []))) (fun γ=>k2 (ir γ.2) (k2 (GC (f:=Gz.enc) (z:=4) (fun _=>rfl) γ.2) (Gb (GU (f:=Gz.enc) (z:=5) (j:=k8) (fun _=>rfl) γ.2 rfl)))) <|
  .sp (x25.From=x2.From)
  (.sp (x25.To=x2.To)
  (.sp (x25.Class=x2.Class)
  (.run (cs 4 (oa::oc::tc::(cs 3 (oa::(cs 2 (tc::(cs 3 (oa::(cs 2 (tc::(cs 3 [oa,oc]))))))))))) (fun γ=>k2 (Gp γ.1.1.2) (k2 (Gp γ.1.2) (Gb (Gp γ.2)))) <|
  .sp (x25.Band=x2.Band)
  (.run [bt,oc] (fun γ=>Gb (Gp γ.2)) <|
  .leaf (Sum.inr (Sum.inl ())) [0,1])
  (.run [bf] (fun γ=>Gb (Gw γ.2)) <|
  .gd (GP .i64 ((↑k8:Int)+1)) <| .run [oc,ow,oc] (fun γ=>Gb γ.2) <|
  .leaf (Sum.inl (k8+1)) [0,1]))
  (.run (cs 4 (oa::oc::tc::(cs 3 (oa::(cs 2 (tc::(cs 3 (oa::(cs 2 (oF::(cs 5 [bf]))))))))))) (fun γ=>k2 (Gp γ.1.1.2) (k2 (Gp γ.1.2) (k2 (Gw γ.2) (Gb (rfl:false=false))))) <|
  .gd (GP .i64 ((↑k8:Int)+1)) <| .run [oc,ow,oc] (fun γ=>Gb γ.2) <|
  .leaf (Sum.inl (k8+1)) [0,1]))
  (.run (cs 4 (oa::oc::tc::(cs 3 (oa::(cs 2 (oF::(cs 12 [bf]))))))) (fun γ=>k2 (Gp γ.1.2) (k2 (Gw γ.2) (Gb (rfl:false=false)))) <|
  .gd (GP .i64 ((↑k8:Int)+1)) <| .run [oc,ow,oc] (fun γ=>Gb γ.2) <|
  .leaf (Sum.inl (k8+1)) [0,1]))
  (.run (cs 4 (oa::oc::oF::(cs 19 [bf]))) (fun γ=>k2 (Gw γ.2) (Gb (rfl:false=false))) <|
  .gd (GP .i64 ((↑k8:Int)+1)) <| .run [oc,ow,oc] (fun γ=>Gb γ.2) <|
  .leaf (Sum.inl (k8+1)) [0,1]))
  (.run [bf] (fun γ=>Gb (dF γ.2)) <|
  .leaf (Sum.inr (Sum.inr (()))) [0,1])
def Ki (x_0:Gf) (i_2:Int) (x2:Gz):Nat→Option (Nat⊕(Unit⊕Unit)):=fun s=>(Xf x_0 i_2 x2 s).den
def Ghq (x_0:Gf) (i_2:Int) (x2:Gz):Nat→PS:=fun s=>(82,[(2,jI i_2),(3,.ptr 0 0),(7,.ptr 1 0),(8,jI (↑s:Int))],[(bT (Gf.enc x_0) 65),(bT (Gz.enc x2) 168)])
def GhX:(Unit⊕Unit)→Hm:=fun q=>match q with | Sum.inl o=>.ret | Sum.inr (o)=>(.exit 0)
def Ghd (x_0:Gf) (i_2:Int) (x2:Gz):(Unit⊕Unit)→List (Nat×AV):=fun q=>match q with | Sum.inl o=>[(6,jI 9)] | Sum.inr (o)=>[]
def M7 (x_0:Gf) (i_2:Int) (x2:Gz):(Unit⊕Unit)→List G6:=fun q=>match q with | Sum.inl o=>[(bT (Gf.enc x_0) 65),(bT (Gz.enc x2) 168)] | Sum.inr (o)=>[(bT (Gf.enc x_0) 65),(bT (Gz.enc x2) 168)]
theorem Q4 (x_0:Gf) (i_2:Int) (x2:Gz) {s:Nat} {r:Unit⊕Unit} (h:lp (Ki x_0 i_2 x2) s=some r):GI Tryz.prog GT 2 (.loop (GO Tryz.prog 192 [1,1,1,1,1,1,0,1,0,0])) (Ghq x_0 i_2 x2 s).st (GhX r) (PS.st (82,Ghd x_0 i_2 x2 r,M7 x_0 i_2 x2 r)):=
 GI.lp_ht 2 400 (Ghq x_0 i_2 x2) GhX (fun q=>(82,Ghd x_0 i_2 x2 q,M7 x_0 i_2 x2 q)) (Xf x_0 i_2 x2) (by intro k8; kernel_rfl) h
def Gk0 (x_0:Gf) (t_1:Ga) (i_2:Int):HT Int True:=.run (cs 3 []) (fun _=>He) <|
  .gd ((0:Int)≤i_2) <| .bd (x_0.Rates[i_2.toNat]?) fun x2=>.run (cs 3 ((.op none (.i i_2.toNat))::(.op none (.v [.str x2.From,.str x2.To,jI x2.Class,.str x2.Band,jI x2.Cents]))::(cs 2 []))) (fun γ=>k2 (ix γ.1.2 γ.2) (k2 (GC (f:=Gz.enc) (z:=4) (fun _=>rfl) γ.2) (Gb (GU (f:=Gz.enc) (z:=5) (j:=i_2.toNat) (fun _=>rfl) γ.2 rfl)))) <|
  .bd (Gj9 t_1 x2) fun r4=>.run (cs 2 [.ret none [.any,.any] (.bool r4) [],oc]) (fun γ=>Gb (Gpx t_1 x2 r4 γ.2)) <|
  .sp (r4=true)
  (.run [bf] (fun γ=>Gb ((Gs γ.2):(!r4)=false)) <|
  .sp (x2.Class<(1:Int))
  (.run (cs 2 (oa::oc::tc::(cs 3 [bt,oc]))) (fun γ=>k2 (dT γ.2) (Gb (rfl:true=true))) <|
  .leaf 20 [])
  (.run (cs 2 [oa,oc,oF,oc,oa,oc]) (fun γ=>Gb (dF γ.2)) <|
  .sp (x2.Class>(9:Int))
  (.run [bt,oc] (fun γ=>Gb (dT γ.2)) <|
  .leaf 20 [])
  (.run [bf] (fun γ=>Gb (dF γ.2)) <|
  .sp (x2.Band=[])
  (.run (cs 2 (oa::oc::oF::(cs 6 [bf]))) (fun γ=>k2 (Gs (Gp γ.2)) (Gb (rfl:false=false))) <|
  .sp (x2.Cents<(0:Int))
  (.run (cs 2 (oa::oc::tc::(cs 3 [bt,oc]))) (fun γ=>k2 (dT γ.2) (Gb (rfl:true=true))) <|
  .leaf 13 [])
  (.run (cs 2 [oa,oc,oF,oc,oa,oc]) (fun γ=>Gb (dF γ.2)) <|
  .sp (x2.Cents>(1125899906842624:Int))
  (.run [bt,oc] (fun γ=>Gb (dT γ.2)) <|
  .leaf 13 [])
  (.run [bf,oc] (fun γ=>Gb (dF γ.2)) <|
  .bd (lp (Ki x_0 i_2 x2) (0:Nat)) fun qq=>.cs qq (fun o12=>.run [.fcut 2 .ret [(6,jI 9)] (M7 x_0 i_2 x2 (Sum.inl o12)) [0,2] [(2,.any),(3,.any),(7,.any),(8,jI (↑(0:Nat):Int))] [bS,bS]] (fun γ=>k2 (rfl:(jI 0:AV)=jI (↑(0:Nat):Int)) (Gb (Q4 x_0 i_2 x2 (s:=(0:Nat)) (r:=Sum.inl o12) (eS γ.1.2 γ.2)))) <|
  .leaf 9 [])
  (fun o12=>.run [.fcut 2 (.exit 0) [] (M7 x_0 i_2 x2 (Sum.inr (o12))) [0,2] [(2,.any),(3,.any),(7,.any),(8,jI (↑(0:Nat):Int))] [bS,bS],oc] (fun γ=>k2 (rfl:(jI 0:AV)=jI (↑(0:Nat):Int)) (Gb (Q4 x_0 i_2 x2 (s:=(0:Nat)) (r:=Sum.inr (o12)) (eS γ.1.2 γ.2)))) <|
  .leaf 0 []))))
  (.bd (Gjl x_0.Bands x2.Band) fun r35=>.run (cs 2 (oa::oc::tc::(cs 3 ((.ret none [.any,.any] (.bool r35) [])::(cs 2 []))))) (fun γ=>k2 (Gu (Gw γ.1.2)) (Gb (GpD x_0.Bands x2.Band r35 γ.2))) <|
  .sp (r35=true)
  (.run [bf] (fun γ=>Gb ((Gs γ.2):(!r35)=false)) <|
  .sp (x2.Cents<(0:Int))
  (.run (cs 2 (oa::oc::tc::(cs 3 [bt,oc]))) (fun γ=>k2 (dT γ.2) (Gb (rfl:true=true))) <|
  .leaf 13 [])
  (.run (cs 2 [oa,oc,oF,oc,oa,oc]) (fun γ=>Gb (dF γ.2)) <|
  .sp (x2.Cents>(1125899906842624:Int))
  (.run [bt,oc] (fun γ=>Gb (dT γ.2)) <|
  .leaf 13 [])
  (.run [bf,oc] (fun γ=>Gb (dF γ.2)) <|
  .bd (lp (Ki x_0 i_2 x2) (0:Nat)) fun qq=>.cs qq (fun o40=>.run [.fcut 2 .ret [(6,jI 9)] (M7 x_0 i_2 x2 (Sum.inl o40)) [0,2] [(2,.any),(3,.any),(7,.any),(8,jI (↑(0:Nat):Int))] [bS,bS]] (fun γ=>k2 (rfl:(jI 0:AV)=jI (↑(0:Nat):Int)) (Gb (Q4 x_0 i_2 x2 (s:=(0:Nat)) (r:=Sum.inl o40) (eS γ.1.2 γ.2)))) <|
  .leaf 9 [])
  (fun o40=>.run [.fcut 2 (.exit 0) [] (M7 x_0 i_2 x2 (Sum.inr (o40))) [0,2] [(2,.any),(3,.any),(7,.any),(8,jI (↑(0:Nat):Int))] [bS,bS],oc] (fun γ=>k2 (rfl:(jI 0:AV)=jI (↑(0:Nat):Int)) (Gb (Q4 x_0 i_2 x2 (s:=(0:Nat)) (r:=Sum.inr (o40)) (eS γ.1.2 γ.2)))) <|
  .leaf 0 []))))
  (.run [bt,oc] (fun γ=>Gb ((Gu (eq_false_of_ne_true γ.2)):(!r35)=true)) <|
  .leaf 10 [])))))
  (.run [bt,oc] (fun γ=>Gb ((Gu (eq_false_of_ne_true γ.2)):(!r4)=true)) <|
  .leaf 16 [])
def Gmp (x_0:Gf) (t_1:Ga) (i_2:Int):Option Int:=(Gk0 x_0 t_1 i_2).den
theorem GqR (x_0:Gf) (t_1:Ga) (i_2:Int) (r:Int) (h:Gmp x_0 t_1 i_2=some r):G5 Tryz.prog GT 192 [.agg (Gf.enc x_0),.agg (Ga.enc t_1),jI i_2] (jI r) []:=
 G5.of_ht 400 (Gk0 x_0 t_1 i_2) (fun (r:Int)=>jI r) (fun (r:Int)=>[]) (by kernel_rfl) h
def Xz (x_0:Gf) (t_1:Ga):Nat→HT (Nat⊕(Int⊕Unit)) True
 | k5=>.run (cs 4 [oa]) (fun _=>He) <|
  .sp ((↑k5:Int)<(↑x_0.Bands.length:Int))
  (.run [bt] (fun γ=>Gb (dT γ.2)) <|
  .bd (x_0.Bands[k5]?) fun x18=>.bd (MK x18.Name) fun r20=>.run (cs 3 [.op none (.i k5),oc,.op none (.v [.str x18.Name]),.ret none [.any] (.bool r20) [],oc]) (fun γ=>k2 (ir γ.1.2) (k2 (GC (f:=GV.enc) (z:=3) (fun _=>rfl) γ.1.2) (k2 (GL (f:=GV.enc) (z:=4) (j:=k5) (a:=0) (n:=1) (fun _=>rfl) γ.1.2 (by decide) rfl) (Gb (HW x18.Name r20 γ.2))))) <|
  .sp (r20=true)
  (.run [bf] (fun γ=>Gb ((Gs γ.2):(!r20)=false)) <|
  .bd (QO x18.Window) fun r23=>.run (cs 3 [.op none (.i k5),oc,.op none (.v [jI x18.Window.Days,jI x18.Window.From,jI x18.Window.To]),.ret none [.any] (.bool r23) [],oc]) (fun γ=>k2 (ir γ.1.1.1.2) (k2 (GC (f:=GV.enc) (z:=3) (fun _=>rfl) γ.1.1.1.2) (k2 (GL (f:=GV.enc) (z:=4) (j:=k5) (a:=1) (n:=3) (fun _=>rfl) γ.1.1.1.2 (by decide) rfl) (Gb (R6 x18.Window r23 γ.2))))) <|
  .sp (r23=true)
  (.run [bf] (fun γ=>Gb ((Gs γ.2):(!r23)=false)) <|
  .gd (GP .i64 ((↑k5:Int)+1)) <| .run [oc,ow,oc] (fun γ=>Gb γ.2) <|
  .leaf (Sum.inl (k5+1)) [0,1])
  (.run [bt,oc] (fun γ=>Gb ((Gu (eq_false_of_ne_true γ.2)):(!r23)=true)) <|
  .leaf (Sum.inr (Sum.inl 1)) [0,1]))
  (.run [bt,oc] (fun γ=>Gb ((Gu (eq_false_of_ne_true γ.2)):(!r20)=true)) <|
  .leaf (Sum.inr (Sum.inl 6)) [0,1]))
  (.run [bf] (fun γ=>Gb (dF γ.2)) <|
  .leaf (Sum.inr (Sum.inr (()))) [0,1])
def Ms (x_0:Gf) (t_1:Ga):Nat→Option (Nat⊕(Int⊕Unit)):=fun s=>(Xz x_0 t_1 s).den
def Gh0 (x_0:Gf) (t_1:Ga):Nat→PS:=fun s=>(59,[(2,.ptr 0 0),(3,.ptr 1 0),(5,jI (↑s:Int))],[(bT (Gf.enc x_0) 65),(bT (Ga.enc t_1) 41)])
def Gic:(Int⊕Unit)→Hm:=fun q=>match q with | Sum.inl o=>.ret | Sum.inr (o)=>(.exit 0)
def GhT (x_0:Gf) (t_1:Ga):(Int⊕Unit)→List (Nat×AV):=fun q=>match q with | Sum.inl o=>[(4,jI o)] | Sum.inr (o)=>[(2,.ptr 0 0),(3,.ptr 1 0)]
def Xw (x_0:Gf) (t_1:Ga):(Int⊕Unit)→List G6:=fun q=>match q with | Sum.inl o=>[(bT (Gf.enc x_0) 65),(bT (Ga.enc t_1) 41)] | Sum.inr (o)=>[(bT (Gf.enc x_0) 65),(bT (Ga.enc t_1) 41)]
theorem Gdx (x_0:Gf) (t_1:Ga) {s:Nat} {r:Int⊕Unit} (h:lp (Ms x_0 t_1) s=some r):GI Tryz.prog GT 2 (.loop (GO Tryz.prog 120 [1,1,1,0,1,0,0])) (Gh0 x_0 t_1 s).st (Gic r) (PS.st (59,GhT x_0 t_1 r,Xw x_0 t_1 r)):=
 GI.lp_ht 2 400 (Gh0 x_0 t_1) Gic (fun q=>(59,GhT x_0 t_1 q,Xw x_0 t_1 q)) (Xz x_0 t_1) (by intro k5; kernel_rfl) h
def Vh (x_0:Gf) (t_1:Ga):Nat→HT (Nat⊕(Int⊕Unit)) True
 | k6=>.run (cs 4 [oa]) (fun _=>He) <|
  .sp ((↑k6:Int)<(↑x_0.Rates.length:Int))
  (.run [bt] (fun γ=>Gb (dT γ.2)) <|
  .bd (Gmp x_0 t_1 (↑k6:Int)) fun r34=>.run (cs 3 ((.ret none [.any,.any,.any] (jI r34) [])::(cs 2 [oa]))) (fun γ=>Gb (GqR x_0 t_1 (↑k6:Int) r34 γ.2)) <|
  .sp (r34=(0:Int))
  (.run [bf] (fun γ=>Gb (Gs (Gp γ.2))) <|
  .gd (GP .i64 ((↑k6:Int)+1)) <| .run [oc,ow,oc] (fun γ=>Gb γ.2) <|
  .leaf (Sum.inl (k6+1)) [0,1])
  (.run (bt::(cs 2 [])) (fun γ=>Gb (Gu (Gw γ.2))) <|
  .leaf (Sum.inr (Sum.inl r34)) [0,1]))
  (.run [bf] (fun γ=>Gb (dF γ.2)) <|
  .leaf (Sum.inr (Sum.inr (()))) [0,1])
def KQ (x_0:Gf) (t_1:Ga):Nat→Option (Nat⊕(Int⊕Unit)):=fun s=>(Vh x_0 t_1 s).den
def Ggq (x_0:Gf) (t_1:Ga):Nat→PS:=fun s=>(59,[(2,.ptr 0 0),(3,.ptr 1 0),(6,jI (↑s:Int))],[(bT (Gf.enc x_0) 65),(bT (Ga.enc t_1) 41)])
def GfC:(Int⊕Unit)→Hm:=fun q=>match q with | Sum.inl o=>.ret | Sum.inr (o)=>(.exit 2)
def GfV (x_0:Gf) (t_1:Ga):(Int⊕Unit)→List (Nat×AV):=fun q=>match q with | Sum.inl o=>[(4,jI o)] | Sum.inr (o)=>[]
def U7 (x_0:Gf) (t_1:Ga):(Int⊕Unit)→List G6:=fun q=>match q with | Sum.inl o=>[(bT (Gf.enc x_0) 65),(bT (Ga.enc t_1) 41)] | Sum.inr (o)=>[(bT (Gf.enc x_0) 65),(bT (Ga.enc t_1) 41)]
theorem GbT (x_0:Gf) (t_1:Ga) {s:Nat} {r:Int⊕Unit} (h:lp (KQ x_0 t_1) s=some r):GI Tryz.prog GT 2 (.loop (GO Tryz.prog 120 [1,1,1,1,0,1,0,0])) (Ggq x_0 t_1 s).st (GfC r) (PS.st (59,GfV x_0 t_1 r,U7 x_0 t_1 r)):=
 GI.lp_ht 2 400 (Ggq x_0 t_1) GfC (fun q=>(59,GfV x_0 t_1 q,U7 x_0 t_1 q)) (Vh x_0 t_1) (by intro k6; kernel_rfl) h
def GiM (x_0:Gf) (t_1:Ga):HT Int True:=.run (cs 3 []) (fun _=>He) <|
  .bd (Gko x_0.Valid) fun r1=>.run (cs 2 [.ret none [.any] (.bool r1) [],oc]) (fun γ=>Gb (GpF x_0.Valid r1 γ.2)) <|
  .sp (r1=true)
  (.run [bf] (fun γ=>Gb ((Gs γ.2):(!r1)=false)) <|
  .sp ((↑x_0.Bands.length:Int)>(1024:Int))
  (.run (cs 3 (oa::oc::tc::(cs 4 [bt,oc]))) (fun γ=>k2 (dT γ.2) (Gb (rfl:true=true))) <|
  .leaf 3 [])
  (.run (cs 3 (oa::oc::oF::(cs 2 [oa,oc]))) (fun γ=>Gb (dF γ.2)) <|
  .sp ((↑x_0.Rates.length:Int)>(1024:Int))
  (.run [bt,oc] (fun γ=>Gb (dT γ.2)) <|
  .leaf 3 [])
  (.run [bf,oc] (fun γ=>Gb (dF γ.2)) <|
  .bd (lp (Ms x_0 t_1) (0:Nat)) fun qq=>.cs qq (fun o6=>.run [.fcut 2 .ret [(4,jI o6)] (Xw x_0 t_1 (Sum.inl o6)) [0,1] [(2,.any),(3,.any),(5,jI (↑(0:Nat):Int))] [bS,bS]] (fun γ=>k2 (rfl:(jI 0:AV)=jI (↑(0:Nat):Int)) (Gb (Gdx x_0 t_1 (s:=(0:Nat)) (r:=Sum.inl o6) (eS γ.1.2 γ.2)))) <|
  .leaf o6 [])
  (fun o6=>.run [.fcut 2 (.exit 0) [(2,.ptr 0 0),(3,.ptr 1 0)] (Xw x_0 t_1 (Sum.inr (o6))) [0,1] [(2,.any),(3,.any),(5,jI (↑(0:Nat):Int))] [bS,bS],oc] (fun γ=>k2 (rfl:(jI 0:AV)=jI (↑(0:Nat):Int)) (Gb (Gdx x_0 t_1 (s:=(0:Nat)) (r:=Sum.inr (o6)) (eS γ.1.2 γ.2)))) <|
  .bd (lp (KQ x_0 t_1) (0:Nat)) fun qq=>.cs qq (fun o27=>.run [.fcut 2 .ret [(4,jI o27)] (U7 x_0 t_1 (Sum.inl o27)) [0,1] [(2,.any),(3,.any),(6,jI (↑(0:Nat):Int))] [bS,bS]] (fun γ=>k2 (rfl:(jI 0:AV)=jI (↑(0:Nat):Int)) (Gb (GbT x_0 t_1 (s:=(0:Nat)) (r:=Sum.inl o27) (eS γ.1.2 γ.2)))) <|
  .leaf o27 [])
  (fun o27=>.run [.fcut 2 (.exit 2) [] (U7 x_0 t_1 (Sum.inr (o27))) [0,1] [(2,.any),(3,.any),(6,jI (↑(0:Nat):Int))] [bS,bS],oc] (fun γ=>k2 (rfl:(jI 0:AV)=jI (↑(0:Nat):Int)) (Gb (GbT x_0 t_1 (s:=(0:Nat)) (r:=Sum.inr (o27)) (eS γ.1.2 γ.2)))) <|
  .leaf 0 [])))))
  (.run [bt,oc] (fun γ=>Gb ((Gu (eq_false_of_ne_true γ.2)):(!r1)=true)) <|
  .leaf 12 [])
def Gkk (x_0:Gf) (t_1:Ga):Option Int:=(GiM x_0 t_1).den
theorem Gqg (x_0:Gf) (t_1:Ga) (r:Int) (h:Gkk x_0 t_1=some r):G5 Tryz.prog GT 120 [.agg (Gf.enc x_0),.agg (Ga.enc t_1)] (jI r) []:=
 G5.of_ht 400 (GiM x_0 t_1) (fun (r:Int)=>jI r) (fun (r:Int)=>[]) (by kernel_rfl) h
def Qo (l_0:(List Gf)) (t_1:Ga) (k5:Nat):Nat→HT (Nat⊕(Unit⊕Unit)) True
 | k7=>.run (cs 2 [oa]) (fun _=>He) <|
  .sp ((↑k7:Int)<(↑k5:Int))
  (.run [bt] (fun γ=>Gb (dT γ.2)) <|
  .bd (l_0[k5]?) fun x46=>.bd (l_0[k7]?) fun x48=>.sp (x46.Valid.From<x48.Valid.To)
  (.run (cs 2 ((.op none (.i k5))::(cs 2 ((.op none (.v [jI x46.Valid.From]))::(cs 2 ((.op none (.i k7))::(cs 2 [.op none (.v [jI x48.Valid.To]),oa,oc,tc,tc,.op (some true) (.i k7),tc,tc,.op (some true) (.v [jI x48.Valid.From]),tc,tc,.op (some true) (.i k5),tc,tc,.op (some true) (.v [jI x46.Valid.To]),ta,.op none (.b true)]))))))) (fun γ=>k2 (ir γ.1.1.2) (k2 (GC (f:=Gf.enc) (z:=3) (fun _=>rfl) γ.1.1.2) (k2 (GL (f:=Gf.enc) (z:=4) (j:=k5) (a:=0) (n:=1) (fun _=>rfl) γ.1.1.2 (by decide) rfl) (k2 (ir γ.1.2) (k2 (GC (f:=Gf.enc) (z:=3) (fun _=>rfl) γ.1.2) (k2 (GL (f:=Gf.enc) (z:=4) (j:=k7) (a:=1) (n:=1) (fun _=>rfl) γ.1.2 (by decide) rfl) (k2 (dT γ.2) (k2 (dT γ.2) (k2 (dT γ.2) (k2 (ir γ.1.2) (k2 (GC (f:=Gf.enc) (z:=3) (fun _=>rfl) γ.1.2) (k2 (dT γ.2) (k2 (dT γ.2) (k2 (dT γ.2) (k2 (GL (f:=Gf.enc) (z:=4) (j:=k7) (a:=0) (n:=1) (fun _=>rfl) γ.1.2 (by decide) rfl) (k2 (dT γ.2) (k2 (dT γ.2) (k2 (dT γ.2) (k2 (ir γ.1.1.2) (k2 (GC (f:=Gf.enc) (z:=3) (fun _=>rfl) γ.1.1.2) (k2 (dT γ.2) (k2 (dT γ.2) (k2 (dT γ.2) (k2 (GL (f:=Gf.enc) (z:=4) (j:=k5) (a:=1) (n:=1) (fun _=>rfl) γ.1.1.2 (by decide) rfl) (k2 (dT γ.2) (Gb (dT γ.2))))))))))))))))))))))))))) <|
  .sp (x48.Valid.From<x46.Valid.To)
  (.run [bt,oc] (fun γ=>Gb (dT γ.2)) <|
  .leaf (Sum.inr (Sum.inl ())) [0])
  (.run [bf] (fun γ=>Gb (dF γ.2)) <|
  .gd (GP .i64 ((↑k7:Int)+1)) <| .run [oc,ow,oc] (fun γ=>Gb γ.2) <|
  .leaf (Sum.inl (k7+1)) [0]))
  (.run (cs 2 ((.op none (.i k5))::(cs 2 ((.op none (.v [jI x46.Valid.From]))::(cs 2 ((.op none (.i k7))::(cs 2 [.op none (.v [jI x48.Valid.To]),oa,oc,oF,oF,oF,oF,oF,oF,oF,oF,oF,oF,oF,oF,oF,.op none (.b false),bf]))))))) (fun γ=>k2 (ir γ.1.1.2) (k2 (GC (f:=Gf.enc) (z:=3) (fun _=>rfl) γ.1.1.2) (k2 (GL (f:=Gf.enc) (z:=4) (j:=k5) (a:=0) (n:=1) (fun _=>rfl) γ.1.1.2 (by decide) rfl) (k2 (ir γ.1.2) (k2 (GC (f:=Gf.enc) (z:=3) (fun _=>rfl) γ.1.2) (k2 (GL (f:=Gf.enc) (z:=4) (j:=k7) (a:=1) (n:=1) (fun _=>rfl) γ.1.2 (by decide) rfl) (k2 (dF γ.2) (k2 (dF γ.2) (k2 (dF γ.2) (k2 (dF γ.2) (k2 (dF γ.2) (k2 (dF γ.2) (k2 (dF γ.2) (k2 (dF γ.2) (k2 (dF γ.2) (k2 (dF γ.2) (k2 (dF γ.2) (k2 (dF γ.2) (k2 (dF γ.2) (k2 (dF γ.2) (Gb (rfl:false=false)))))))))))))))))))))) <|
  .gd (GP .i64 ((↑k7:Int)+1)) <| .run [oc,ow,oc] (fun γ=>Gb γ.2) <|
  .leaf (Sum.inl (k7+1)) [0]))
  (.run [bf] (fun γ=>Gb (dF γ.2)) <|
  .leaf (Sum.inr (Sum.inr (()))) [0])
def JP (l_0:(List Gf)) (t_1:Ga) (k5:Nat):Nat→Option (Nat⊕(Unit⊕Unit)):=fun s=>(Qo l_0 t_1 k5 s).den
def Gb6 (l_0:(List Gf)) (t_1:Ga) (k5:Nat):Nat→PS:=fun s=>(59,[(0,.lst (fl Gf.enc l_0) l_0.length),(3,.ptr 0 0),(5,jI (↑k5:Int)),(7,jI (↑s:Int))],[(bT (Ga.enc t_1) 41)])
def GbA:(Unit⊕Unit)→Hm:=fun q=>match q with | Sum.inl o=>.ret | Sum.inr (o)=>(.exit 2)
def UT (l_0:(List Gf)) (t_1:Ga) (k5:Nat):(Unit⊕Unit)→List (Nat×AV):=fun q=>match q with | Sum.inl o=>[(4,jI 12)] | Sum.inr (o)=>[(0,.lst (fl Gf.enc l_0) l_0.length),(3,.ptr 0 0),(5,jI (↑k5:Int))]
def Gce (l_0:(List Gf)) (t_1:Ga) (k5:Nat):(Unit⊕Unit)→List G6:=fun q=>match q with | Sum.inl o=>[(bT (Ga.enc t_1) 41)] | Sum.inr (o)=>[(bT (Ga.enc t_1) 41)]
theorem XY (l_0:(List Gf)) (t_1:Ga) (k5:Nat) {s:Nat} {r:Unit⊕Unit} (h:lp (JP l_0 t_1 k5) s=some r):GI Tryz.prog GT 1 (.loop (GO Tryz.prog 55 [1,1,0,1,0,0,1,0,0,1,1,0,0])) (Gb6 l_0 t_1 k5 s).st (GbA r) (PS.st (59,UT l_0 t_1 k5 r,Gce l_0 t_1 k5 r)):=
 GI.lp_ht 1 400 (Gb6 l_0 t_1 k5) GbA (fun q=>(59,UT l_0 t_1 k5 q,Gce l_0 t_1 k5 q)) (Qo l_0 t_1 k5) (by intro k7; kernel_rfl) h
def Q0 (l_0:(List Gf)) (t_1:Ga):Nat→HT (Nat⊕(Int⊕Unit)) True
 | k5=>.run (cs 3 [oa]) (fun _=>He) <|
  .sp ((↑k5:Int)<(↑l_0.length:Int))
  (.run [bt] (fun γ=>Gb (dT γ.2)) <|
  .bd (l_0[k5]?) fun x30=>.bd (Gkk x30 t_1) fun r32=>.run (cs 2 ((.op none (.i k5))::(.op none (.v [jI x30.Valid.From,jI x30.Valid.To,.lst (fl GV.enc x30.Bands) x30.Bands.length,.lst (fl Gz.enc x30.Rates) x30.Rates.length]))::oc::(.ret none [.any,.any] (jI r32) [])::(cs 2 [oa]))) (fun γ=>k2 (ir γ.1.2) (k2 (GC (f:=Gf.enc) (z:=3) (fun _=>rfl) γ.1.2) (k2 (GU (f:=Gf.enc) (z:=4) (j:=k5) (fun _=>rfl) γ.1.2 rfl) (Gb (Gqg x30 t_1 r32 γ.2))))) <|
  .sp (r32=(0:Int))
  (.run [bf,oc] (fun γ=>Gb (Gs (Gp γ.2))) <|
  .bd (lp (JP l_0 t_1 k5) (0:Nat)) fun qq=>.cs qq (fun o35=>.run [.fcut 1 .ret [(4,jI 12)] [(bT (Ga.enc t_1) 41)] [0] [(0,.any),(3,.any),(5,.any),(7,jI (↑(0:Nat):Int))] [bS]] (fun γ=>k2 (rfl:(jI 0:AV)=jI (↑(0:Nat):Int)) (Gb (XY l_0 t_1 k5 (s:=(0:Nat)) (r:=Sum.inl o35) (eS γ.1.2 γ.2)))) <|
  .leaf (Sum.inr (Sum.inl 12)) [0])
  (fun o35=>.run [.fcut 1 (.exit 2) (UT l_0 t_1 k5 (Sum.inr (o35))) [(bT (Ga.enc t_1) 41)] [0] [(0,.any),(3,.any),(5,.any),(7,jI (↑(0:Nat):Int))] [bS]] (fun γ=>k2 (rfl:(jI 0:AV)=jI (↑(0:Nat):Int)) (Gb (XY l_0 t_1 k5 (s:=(0:Nat)) (r:=Sum.inr (o35)) (eS γ.1.2 γ.2)))) <|
  .gd (GP .i64 ((↑k5:Int)+1)) <| .run [oc,ow,oc] (fun γ=>Gb γ.2) <|
  .leaf (Sum.inl (k5+1)) [0]))
  (.run (bt::(cs 2 [])) (fun γ=>Gb (Gu (Gw γ.2))) <|
  .leaf (Sum.inr (Sum.inl r32)) [0]))
  (.run [bf] (fun γ=>Gb (dF γ.2)) <|
  .leaf (Sum.inr (Sum.inr (()))) [0])
def J8 (l_0:(List Gf)) (t_1:Ga):Nat→Option (Nat⊕(Int⊕Unit)):=fun s=>(Q0 l_0 t_1 s).den
def GdE (l_0:(List Gf)) (t_1:Ga):Nat→PS:=fun s=>(59,[(0,.lst (fl Gf.enc l_0) l_0.length),(3,.ptr 0 0),(5,jI (↑s:Int))],[(bT (Ga.enc t_1) 41)])
def GdA:(Int⊕Unit)→Hm:=fun q=>match q with | Sum.inl o=>.ret | Sum.inr (o)=>(.exit 0)
def GcG (l_0:(List Gf)) (t_1:Ga):(Int⊕Unit)→List (Nat×AV):=fun q=>match q with | Sum.inl o=>[(4,jI o)] | Sum.inr (o)=>[]
def Gc7 (l_0:(List Gf)) (t_1:Ga):(Int⊕Unit)→List G6:=fun q=>match q with | Sum.inl o=>[(bT (Ga.enc t_1) 41)] | Sum.inr (o)=>[(bT (Ga.enc t_1) 41)]
theorem YS (l_0:(List Gf)) (t_1:Ga) {s:Nat} {r:Int⊕Unit} (h:lp (J8 l_0 t_1) s=some r):GI Tryz.prog GT 1 (.loop (GO Tryz.prog 55 [1,1,0,1,0,0])) (GdE l_0 t_1 s).st (GdA r) (PS.st (59,GcG l_0 t_1 r,Gc7 l_0 t_1 r)):=
 GI.lp_ht 1 400 (GdE l_0 t_1) GdA (fun q=>(59,GcG l_0 t_1 q,Gc7 l_0 t_1 q)) (Q0 l_0 t_1) (by intro k5; kernel_rfl) h
def Gco (l_0:(List Gf)) (t_1:Ga):HT Int True:=.run (cs 4 [oa]) (fun _=>He) <|
  .sp ((↑l_0.length:Int)>(1024:Int))
  (.run [bt,oc] (fun γ=>Gb (dT γ.2)) <|
  .leaf 3 [])
  (.run [bf,oc] (fun γ=>Gb (dF γ.2)) <|
  .bd (lp (J8 l_0 t_1) (0:Nat)) fun qq=>.cs qq (fun o2=>.run [.fcut 1 .ret [(4,jI o2)] [(bT (Ga.enc t_1) 41)] [0] [(0,.any),(3,.any),(5,jI (↑(0:Nat):Int))] [bS]] (fun γ=>k2 (rfl:(jI 0:AV)=jI (↑(0:Nat):Int)) (Gb (YS l_0 t_1 (s:=(0:Nat)) (r:=Sum.inl o2) (eS γ.1.2 γ.2)))) <|
  .leaf o2 [])
  (fun o2=>.run [.fcut 1 (.exit 0) [] [(bT (Ga.enc t_1) 41)] [0] [(0,.any),(3,.any),(5,jI (↑(0:Nat):Int))] [bS],oc] (fun γ=>k2 (rfl:(jI 0:AV)=jI (↑(0:Nat):Int)) (Gb (YS l_0 t_1 (s:=(0:Nat)) (r:=Sum.inr (o2)) (eS γ.1.2 γ.2)))) <|
  .leaf 0 []))
def QQ (l_0:(List Gf)) (t_1:Ga):Option Int:=(Gco l_0 t_1).den
theorem RS (l_0:(List Gf)) (t_1:Ga) (r:Int) (h:QQ l_0 t_1=some r):G5 Tryz.prog GT 55 [.lst (fl Gf.enc l_0) l_0.length,.agg (Ga.enc t_1)] (jI r) []:=
 G5.of_ht 400 (Gco l_0 t_1) (fun (r:Int)=>jI r) (fun (r:Int)=>[]) (by kernel_rfl) h
end
set_option maxHeartbeats 4000000
set_option maxRecDepth 100000
noncomputable section
open Go Go.Proofs
def Yo (kind_0:Int):HT Int True:=.run (cs 2 [oa,oc]) (fun _=>He) <|
  .sp (kind_0=(1:Int))
  (.run [bt,oc] (fun γ=>Gb (Gp γ.2)) <|
  .leaf 1000 [])
  (.run [bf,oa,oc] (fun γ=>Gb (Gw γ.2)) <|
  .sp (kind_0=(2:Int))
  (.run [bt,oc] (fun γ=>Gb (Gp γ.2)) <|
  .leaf 1125899906842624 [])
  (.run [bf,oc] (fun γ=>Gb (Gw γ.2)) <|
  .leaf 0 []))
def XD (kind_0:Int):Option Int:=(Yo kind_0).den
theorem Gki (kind_0:Int) (r:Int) (h:XD kind_0=some r):G5 Tryz.prog GT 242 [jI kind_0] (jI r) []:=
 G5.of_ht 400 (Yo kind_0) (fun (r:Int)=>jI r) (fun (r:Int)=>[]) (by kernel_rfl) h
def Uw (w_0:Gm):HT Bool True:=.run (cs 4 [oa]) (fun _=>He) <|
  .sp (w_0.Days=(0:Int))
  (.run [bt] (fun γ=>Gb (Gp γ.2)) <|
  .sp (w_0.From=(0:Int))
  (.run (cs 2 (oa::oc::tc::oc::oa::(cs 2 []))) (fun γ=>Gb (Gp γ.2)) <|
  .leaf (w_0.To==(0:Int)) [])
  (.run (cs 2 (oa::oc::oF::(cs 4 []))) (fun γ=>Gb (Gw γ.2)) <|
  .leaf false []))
  (.run [bf] (fun γ=>Gb (Gw γ.2)) <|
  .sp (w_0.Days>(0:Int))
  (.sp (w_0.Days≤(127:Int))
  (.sp (w_0.From≥(0:Int))
  (.sp (w_0.From<w_0.To)
  (.run (cs 2 (oa::oc::tc::oc::oa::(cs 2 (tc::oc::oa::(cs 2 (tc::(cs 3 (oa::(cs 2 (tc::oc::oa::(cs 2 []))))))))))) (fun γ=>k2 (dT γ.1.1.1.2) (k2 (dT γ.1.1.2) (k2 (dT γ.1.2) (Gb (dT γ.2))))) <|
  .leaf (decide (w_0.To≤(1440:Int))) [])
  (.run (cs 2 (oa::oc::tc::oc::oa::(cs 2 (tc::oc::oa::(cs 2 (tc::(cs 3 (oa::(cs 2 (oF::(cs 4 []))))))))))) (fun γ=>k2 (dT γ.1.1.1.2) (k2 (dT γ.1.1.2) (k2 (dT γ.1.2) (Gb (dF γ.2))))) <|
  .leaf false []))
  (.run (cs 2 (oa::oc::tc::oc::oa::(cs 2 (tc::oc::oa::(cs 2 (oF::(cs 11 []))))))) (fun γ=>k2 (dT γ.1.1.2) (k2 (dT γ.1.2) (Gb (dF γ.2)))) <|
  .leaf false []))
  (.run (cs 2 (oa::oc::tc::oc::oa::(cs 2 (oF::(cs 16 []))))) (fun γ=>k2 (dT γ.1.2) (Gb (dF γ.2))) <|
  .leaf false []))
  (.run (cs 2 (oa::oc::oF::(cs 21 []))) (fun γ=>Gb (dF γ.2)) <|
  .leaf false []))
def J0 (w_0:Gm):Option Bool:=(Uw w_0).den
theorem Mc (w_0:Gm) (r:Bool) (h:J0 w_0=some r):G5 Tryz.prog GT 243 [.agg (Gm.enc w_0)] (.bool r) []:=
 G5.of_ht 400 (Uw w_0) (fun (r:Bool)=>.bool r) (fun (r:Bool)=>[]) (by kernel_rfl) h
def VV (d_0:Gh):HT Int True:=.run (cs 2 []) (fun _=>He) <|
  .bd (HC d_0.Name) fun r1=>.run (cs 2 ((.ret none [.any] (.bool r1) [])::(cs 2 []))) (fun γ=>Gb (Ha d_0.Name r1 γ.2)) <|
  .sp (r1=true)
  (.run [bf] (fun γ=>Gb ((Gs γ.2):(!r1)=false)) <|
  .sp (d_0.Kind<(1:Int))
  (.run (cs 2 (oa::oc::tc::(cs 4 [bt,oc]))) (fun γ=>k2 (dT γ.2) (Gb (rfl:true=true))) <|
  .leaf 1 [])
  (.run (cs 2 (oa::oc::oF::oc::oa::(cs 2 []))) (fun γ=>Gb (dF γ.2)) <|
  .sp (d_0.Kind>(3:Int))
  (.run [bt,oc] (fun γ=>Gb (dT γ.2)) <|
  .leaf 1 [])
  (.run [bf] (fun γ=>Gb (dF γ.2)) <|
  .sp (d_0.Amount<(0:Int))
  (.run (cs 2 [oa,oc,tc,tc,tc,tc,tc,tc,.op none (.b true),oc,bt,oc]) (fun γ=>k2 (dT γ.2) (k2 (dT γ.2) (k2 (dT γ.2) (k2 (dT γ.2) (k2 (dT γ.2) (k2 (dT γ.2) (k2 (dT γ.2) (Gb (rfl:true=true))))))))) <|
  .leaf 1 [])
  (.bd (XD d_0.Kind) fun r7=>.run (cs 2 [oa,oc,oF,oF,oF,oF,.ret (some false) [.any] (jI r7) [],oG,.op none (.b false),oc]) (fun γ=>k2 (dF γ.1.2) (k2 (dF γ.1.2) (k2 (dF γ.1.2) (k2 (dF γ.1.2) (k2 (dF γ.1.2) (k2 (Gki d_0.Kind r7 γ.2) (k2 (dF γ.1.2) (Gb (dF γ.1.2))))))))) <|
  .sp (d_0.Amount>r7)
  (.run [bt,oc] (fun γ=>Gb (dT γ.2)) <|
  .leaf 1 [])
  (.run [bf] (fun γ=>Gb (dF γ.2)) <|
  .sp (d_0.Group=[])
  (.run (cs 2 (oa::oc::oF::(cs 5 [bf]))) (fun γ=>k2 (Gs (Gp γ.2)) (Gb (rfl:false=false))) <|
  .sp (d_0.System=[])
  (.run (cs 2 (oa::oc::oF::(cs 5 [bf]))) (fun γ=>k2 (Gs (Gp γ.2)) (Gb (rfl:false=false))) <|
  .sp (d_0.Class<(0:Int))
  (.run (cs 2 (oa::oc::tc::(cs 4 [bt,oc]))) (fun γ=>k2 (dT γ.2) (Gb (rfl:true=true))) <|
  .leaf 20 [])
  (.run (cs 2 (oa::oc::oF::oc::oa::(cs 2 []))) (fun γ=>Gb (dF γ.2)) <|
  .sp (d_0.Class>(9:Int))
  (.run [bt,oc] (fun γ=>Gb (dT γ.2)) <|
  .leaf 20 [])
  (.run [bf] (fun γ=>Gb (dF γ.2)) <|
  .bd (J0 d_0.Window) fun r14=>.run (cs 2 ((.ret none [.any] (.bool r14) [])::(cs 2 []))) (fun γ=>Gb (Mc d_0.Window r14 γ.2)) <|
  .sp (r14=true)
  (.run [bf] (fun γ=>Gb ((Gs γ.2):(!r14)=false)) <|
  .sp (d_0.Least<(0:Int))
  (.run (cs 2 (oa::oc::tc::(cs 4 [bt,oc]))) (fun γ=>k2 (dT γ.2) (Gb (rfl:true=true))) <|
  .leaf 2 [])
  (.run (cs 2 (oa::oc::oF::oc::oa::(cs 2 []))) (fun γ=>Gb (dF γ.2)) <|
  .sp (d_0.Least>(2147483648:Int))
  (.run [bt,oc] (fun γ=>Gb (dT γ.2)) <|
  .leaf 2 [])
  (.run [bf,oc] (fun γ=>Gb (dF γ.2)) <|
  .leaf 0 [])))
  (.run [bt,oc] (fun γ=>Gb ((Gu (eq_false_of_ne_true γ.2)):(!r14)=true)) <|
  .leaf 12 []))))
  (.bd (HC d_0.System) fun r19=>.run (cs 2 (oa::oc::tc::oc::(.ret none [.any] (.bool r19) [])::(cs 3 []))) (fun γ=>k2 (Gu (Gw γ.1.2)) (Gb (Ha d_0.System r19 γ.2))) <|
  .sp (r19=true)
  (.run [bf] (fun γ=>Gb ((Gs γ.2):(!r19)=false)) <|
  .sp (d_0.Class<(0:Int))
  (.run (cs 2 (oa::oc::tc::(cs 4 [bt,oc]))) (fun γ=>k2 (dT γ.2) (Gb (rfl:true=true))) <|
  .leaf 20 [])
  (.run (cs 2 (oa::oc::oF::oc::oa::(cs 2 []))) (fun γ=>Gb (dF γ.2)) <|
  .sp (d_0.Class>(9:Int))
  (.run [bt,oc] (fun γ=>Gb (dT γ.2)) <|
  .leaf 20 [])
  (.run [bf] (fun γ=>Gb (dF γ.2)) <|
  .bd (J0 d_0.Window) fun r24=>.run (cs 2 ((.ret none [.any] (.bool r24) [])::(cs 2 []))) (fun γ=>Gb (Mc d_0.Window r24 γ.2)) <|
  .sp (r24=true)
  (.run [bf] (fun γ=>Gb ((Gs γ.2):(!r24)=false)) <|
  .sp (d_0.Least<(0:Int))
  (.run (cs 2 (oa::oc::tc::(cs 4 [bt,oc]))) (fun γ=>k2 (dT γ.2) (Gb (rfl:true=true))) <|
  .leaf 2 [])
  (.run (cs 2 (oa::oc::oF::oc::oa::(cs 2 []))) (fun γ=>Gb (dF γ.2)) <|
  .sp (d_0.Least>(2147483648:Int))
  (.run [bt,oc] (fun γ=>Gb (dT γ.2)) <|
  .leaf 2 [])
  (.run [bf,oc] (fun γ=>Gb (dF γ.2)) <|
  .leaf 0 [])))
  (.run [bt,oc] (fun γ=>Gb ((Gu (eq_false_of_ne_true γ.2)):(!r24)=true)) <|
  .leaf 12 []))))
  (.run [bt,oc] (fun γ=>Gb ((Gu (eq_false_of_ne_true γ.2)):(!r19)=true)) <|
  .leaf 6 [])))
  (.bd (HC d_0.Group) fun r29=>.run (cs 2 (oa::oc::tc::oc::(.ret none [.any] (.bool r29) [])::(cs 3 []))) (fun γ=>k2 (Gu (Gw γ.1.2)) (Gb (Ha d_0.Group r29 γ.2))) <|
  .sp (r29=true)
  (.run [bf] (fun γ=>Gb ((Gs γ.2):(!r29)=false)) <|
  .sp (d_0.System=[])
  (.run (cs 2 (oa::oc::oF::(cs 5 [bf]))) (fun γ=>k2 (Gs (Gp γ.2)) (Gb (rfl:false=false))) <|
  .sp (d_0.Class<(0:Int))
  (.run (cs 2 (oa::oc::tc::(cs 4 [bt,oc]))) (fun γ=>k2 (dT γ.2) (Gb (rfl:true=true))) <|
  .leaf 20 [])
  (.run (cs 2 (oa::oc::oF::oc::oa::(cs 2 []))) (fun γ=>Gb (dF γ.2)) <|
  .sp (d_0.Class>(9:Int))
  (.run [bt,oc] (fun γ=>Gb (dT γ.2)) <|
  .leaf 20 [])
  (.run [bf] (fun γ=>Gb (dF γ.2)) <|
  .bd (J0 d_0.Window) fun r35=>.run (cs 2 ((.ret none [.any] (.bool r35) [])::(cs 2 []))) (fun γ=>Gb (Mc d_0.Window r35 γ.2)) <|
  .sp (r35=true)
  (.run [bf] (fun γ=>Gb ((Gs γ.2):(!r35)=false)) <|
  .sp (d_0.Least<(0:Int))
  (.run (cs 2 (oa::oc::tc::(cs 4 [bt,oc]))) (fun γ=>k2 (dT γ.2) (Gb (rfl:true=true))) <|
  .leaf 2 [])
  (.run (cs 2 (oa::oc::oF::oc::oa::(cs 2 []))) (fun γ=>Gb (dF γ.2)) <|
  .sp (d_0.Least>(2147483648:Int))
  (.run [bt,oc] (fun γ=>Gb (dT γ.2)) <|
  .leaf 2 [])
  (.run [bf,oc] (fun γ=>Gb (dF γ.2)) <|
  .leaf 0 [])))
  (.run [bt,oc] (fun γ=>Gb ((Gu (eq_false_of_ne_true γ.2)):(!r35)=true)) <|
  .leaf 12 []))))
  (.bd (HC d_0.System) fun r40=>.run (cs 2 (oa::oc::tc::oc::(.ret none [.any] (.bool r40) [])::(cs 3 []))) (fun γ=>k2 (Gu (Gw γ.1.2)) (Gb (Ha d_0.System r40 γ.2))) <|
  .sp (r40=true)
  (.run [bf] (fun γ=>Gb ((Gs γ.2):(!r40)=false)) <|
  .sp (d_0.Class<(0:Int))
  (.run (cs 2 (oa::oc::tc::(cs 4 [bt,oc]))) (fun γ=>k2 (dT γ.2) (Gb (rfl:true=true))) <|
  .leaf 20 [])
  (.run (cs 2 (oa::oc::oF::oc::oa::(cs 2 []))) (fun γ=>Gb (dF γ.2)) <|
  .sp (d_0.Class>(9:Int))
  (.run [bt,oc] (fun γ=>Gb (dT γ.2)) <|
  .leaf 20 [])
  (.run [bf] (fun γ=>Gb (dF γ.2)) <|
  .bd (J0 d_0.Window) fun r45=>.run (cs 2 ((.ret none [.any] (.bool r45) [])::(cs 2 []))) (fun γ=>Gb (Mc d_0.Window r45 γ.2)) <|
  .sp (r45=true)
  (.run [bf] (fun γ=>Gb ((Gs γ.2):(!r45)=false)) <|
  .sp (d_0.Least<(0:Int))
  (.run (cs 2 (oa::oc::tc::(cs 4 [bt,oc]))) (fun γ=>k2 (dT γ.2) (Gb (rfl:true=true))) <|
  .leaf 2 [])
  (.run (cs 2 (oa::oc::oF::oc::oa::(cs 2 []))) (fun γ=>Gb (dF γ.2)) <|
  .sp (d_0.Least>(2147483648:Int))
  (.run [bt,oc] (fun γ=>Gb (dT γ.2)) <|
  .leaf 2 [])
  (.run [bf,oc] (fun γ=>Gb (dF γ.2)) <|
  .leaf 0 [])))
  (.run [bt,oc] (fun γ=>Gb ((Gu (eq_false_of_ne_true γ.2)):(!r45)=true)) <|
  .leaf 12 []))))
  (.run [bt,oc] (fun γ=>Gb ((Gu (eq_false_of_ne_true γ.2)):(!r40)=true)) <|
  .leaf 6 [])))
  (.run [bt,bt,oc] (fun γ=>k2 ((Gu (eq_false_of_ne_true γ.2)):(!r29)=true) (Gb ((Gu (eq_false_of_ne_true γ.2)):(!r29)=true))) <|
  .leaf 6 [])))))))
  (.run [bt,oc] (fun γ=>Gb ((Gu (eq_false_of_ne_true γ.2)):(!r1)=true)) <|
  .leaf 6 [])
def Vf (d_0:Gh):Option Int:=(VV d_0).den
theorem GiC (d_0:Gh) (r:Int) (h:Vf d_0=some r):G5 Tryz.prog GT 175 [.agg (Gh.enc d_0)] (jI r) []:=
 G5.of_ht 400 (VV d_0) (fun (r:Int)=>jI r) (fun (r:Int)=>[]) (by kernel_rfl) h
def JX (l_0:(List Gh)) (k11:Nat) (x25:Gh):Nat→HT (Nat⊕(Int⊕Unit)) True
 | k8=>.run [oa] (fun _=>He) <|
  .sp ((↑k8:Int)<(↑((List.take k11 l_0).length):Int))
  (.run (bt::(cs 2 [])) (fun γ=>Gb (dT γ.2)) <|
  .bd ((List.take k11 l_0)[k8]?) fun x38=>.run (cs 3 ((.op none (.i k8))::(.op none (.v [.str x38.Name,jI x38.Kind,jI x38.Amount,.str x38.Group,.str x38.System,jI x38.Class,jI x38.Window.Days,jI x38.Window.From,jI x38.Window.To,jI x38.Least]))::(cs 7 [oa,oc]))) (fun γ=>k2 (ir γ.2) (k2 (GC (f:=Gh.enc) (z:=9) (fun _=>rfl) γ.2) (Gb (GU (f:=Gh.enc) (z:=10) (j:=k8) (fun _=>rfl) γ.2 rfl)))) <|
  .sp (x38.Name=x25.Name)
  (.run (bt::(cs 2 [])) (fun γ=>Gb (Gp γ.2)) <|
  .leaf (Sum.inr (Sum.inl (↑k8:Int))) [0])
  (.run [bf] (fun γ=>Gb (Gw γ.2)) <|
  .gd (GP .i64 ((↑k8:Int)+1)) <| .run [ow,oc] (fun γ=>Gb γ.2) <|
  .leaf (Sum.inl (k8+1)) [0]))
  (.run [bf] (fun γ=>Gb (dF γ.2)) <|
  .leaf (Sum.inr (Sum.inr (()))) [0])
def HG (l_0:(List Gh)) (k11:Nat) (x25:Gh):Nat→Option (Nat⊕(Int⊕Unit)):=fun s=>(JX l_0 k11 x25 s).den
def Uf (l_0:(List Gh)) (k11:Nat) (x25:Gh):Nat→PS:=fun s=>(19,[(0,.lst (fl Gh.enc (List.take k11 l_0)) ((List.take k11 l_0).length)),(1,.fn (.func 177) [] [.ptr 0 0]),(7,jI (↑((List.take k11 l_0).length):Int)),(8,jI (↑s:Int))],[(bT (Gh.enc x25) 214)])
def Uj:(Int⊕Unit)→Hm:=fun q=>match q with | Sum.inl o=>.ret | Sum.inr (o)=>(.exit 0)
def Uc (l_0:(List Gh)) (k11:Nat) (x25:Gh):(Int⊕Unit)→List (Nat×AV):=fun q=>match q with | Sum.inl o=>[(4,jI o)] | Sum.inr (o)=>[]
def Ud (l_0:(List Gh)) (k11:Nat) (x25:Gh):(Int⊕Unit)→List G6:=fun q=>match q with | Sum.inl o=>[(bT (Gh.enc x25) 214)] | Sum.inr (o)=>[(bT (Gh.enc x25) 214)]
theorem QE (l_0:(List Gh)) (k11:Nat) (x25:Gh) {s:Nat} {r:Int⊕Unit} (h:lp (HG l_0 k11 x25) s=some r):GI Tryz.prog GT 1 (.loop (GO Tryz.prog 244 [1,0,1,0,0])) (Uf l_0 k11 x25 s).st (Uj r) (PS.st (19,Uc l_0 k11 x25 r,Ud l_0 k11 x25 r)):=
 GI.lp_ht 1 400 (Uf l_0 k11 x25) Uj (fun q=>(19,Uc l_0 k11 x25 q,Ud l_0 k11 x25 q)) (JX l_0 k11 x25) (by intro k8; kernel_rfl) h
def Kc (l_0:(List Gh)):Nat→HT (Nat⊕(Int⊕Unit)) True
 | k11=>.run [oa] (fun _=>He) <|
  .sp ((↑k11:Int)<(↑l_0.length:Int))
  (.run [bt] (fun γ=>Gb (dT γ.2)) <|
  .bd (l_0[k11]?) fun x25=>.run (oc::(.op none (.i k11))::(.op none (.v [.str x25.Name,jI x25.Kind,jI x25.Amount,.str x25.Group,.str x25.System,jI x25.Class,jI x25.Window.Days,jI x25.Window.From,jI x25.Window.To,jI x25.Least]))::(cs 3 [])) (fun γ=>k2 (ir γ.2) (k2 (GC (f:=Gh.enc) (z:=9) (fun _=>rfl) γ.2) (Gb (GU (f:=Gh.enc) (z:=10) (j:=k11) (fun _=>rfl) γ.2 rfl)))) <|
  .bd (Vf x25) fun r27=>.run (oc::(.ret none [.any] (jI r27) [])::(cs 2 [oa])) (fun γ=>Gb (GiC x25 r27 γ.2)) <|
  .sp (r27=(0:Int))
  (.run [bf] (fun γ=>Gb (Gs (Gp γ.2))) <|
  .gd (k11≤l_0.length) <| .bd (lp (HG l_0 k11 x25) (0:Nat)) fun qq=>.cs qq (fun o31=>.run (cs 2 ((.op none (.s 0 k11))::(.tr (.eqt (.t 23) (.lst (fl Gh.enc (List.take k11 l_0)) ((List.take k11 l_0).length))))::(cs 10 [.fcut 1 .ret [(4,jI o31)] [(bT (Gh.enc x25) 214)] [0] [(0,.any),(1,.any),(7,.any),(8,jI (↑(0:Nat):Int))] [bS],oa,oc]))) (fun γ=>k2 (rfl:(↑k11:Int)=((k11:Nat):Int)) (k2 (⟨Nat.zero_le _,γ.1.1.2⟩:0≤k11∧k11≤l_0.length) (k2 ((VW (Ri (f:=Gh.enc) (z:=10) (fun _=>rfl) _ _) (by rw [List.length_take]; omega)):(.lst (List.take (k11*10) (fl Gh.enc l_0)) k11:AV)=.lst (fl Gh.enc (List.take k11 l_0)) ((List.take k11 l_0).length)) (k2 (rfl:(jI 0:AV)=jI (↑(0:Nat):Int)) (Gb (QE l_0 k11 x25 (s:=(0:Nat)) (r:=Sum.inl o31) (eS γ.1.2 γ.2))))))) <|
  .sp (o31≥(0:Int))
  (.run [bt,oc] (fun γ=>Gb (dT γ.2)) <|
  .leaf (Sum.inr (Sum.inl 9)) [])
  (.run [bf] (fun γ=>Gb (dF γ.2)) <|
  .gd (GP .i64 ((↑k11:Int)+1)) <| .run [ow,oc] (fun γ=>Gb γ.2) <|
  .leaf (Sum.inl (k11+1)) []))
  (fun o31=>.run (cs 2 ((.op none (.s 0 k11))::(.tr (.eqt (.t 23) (.lst (fl Gh.enc (List.take k11 l_0)) ((List.take k11 l_0).length))))::(cs 10 ((.fcut 1 (.exit 0) [] [(bT (Gh.enc x25) 214)] [0] [(0,.any),(1,.any),(7,.any),(8,jI (↑(0:Nat):Int))] [bS])::(cs 3 [bf]))))) (fun γ=>k2 (rfl:(↑k11:Int)=((k11:Nat):Int)) (k2 (⟨Nat.zero_le _,γ.1.1.2⟩:0≤k11∧k11≤l_0.length) (k2 ((VW (Ri (f:=Gh.enc) (z:=10) (fun _=>rfl) _ _) (by rw [List.length_take]; omega)):(.lst (List.take (k11*10) (fl Gh.enc l_0)) k11:AV)=.lst (fl Gh.enc (List.take k11 l_0)) ((List.take k11 l_0).length)) (k2 (rfl:(jI 0:AV)=jI (↑(0:Nat):Int)) (k2 (QE l_0 k11 x25 (s:=(0:Nat)) (r:=Sum.inr (o31)) (eS γ.1.2 γ.2)) (Gb (rfl:false=false))))))) <|
  .gd (GP .i64 ((↑k11:Int)+1)) <| .run [ow,oc] (fun γ=>Gb γ.2) <|
  .leaf (Sum.inl (k11+1)) []))
  (.run (bt::(cs 2 [])) (fun γ=>Gb (Gu (Gw γ.2))) <|
  .leaf (Sum.inr (Sum.inl r27)) []))
  (.run [bf] (fun γ=>Gb (dF γ.2)) <|
  .leaf (Sum.inr (Sum.inr (()))) [])
def HR (l_0:(List Gh)):Nat→Option (Nat⊕(Int⊕Unit)):=fun s=>(Kc l_0 s).den
def UU (l_0:(List Gh)):Nat→PS:=fun s=>(27,[(0,.lst (fl Gh.enc l_0) l_0.length),(9,.lst (fl Gh.enc l_0) l_0.length),(10,jI (↑l_0.length:Int)),(11,jI (↑s:Int))],[])
def US:(Int⊕Unit)→Hm:=fun q=>match q with | Sum.inl o=>.ret | Sum.inr (o)=>(.exit 0)
def UZ (l_0:(List Gh)):(Int⊕Unit)→List (Nat×AV):=fun q=>match q with | Sum.inl o=>[(2,jI o)] | Sum.inr (o)=>[]
def UG (l_0:(List Gh)):(Int⊕Unit)→List G6:=fun q=>match q with | Sum.inl o=>[] | Sum.inr (o)=>[]
theorem Rl (l_0:(List Gh)) {s:Nat} {r:Int⊕Unit} (h:lp (HR l_0) s=some r):GI Tryz.prog GT 0 (.loop (GO Tryz.prog 92 [1,1,0,1,0,0])) (UU l_0 s).st (US r) (PS.st (27,UZ l_0 r,UG l_0 r)):=
 GI.lp_ht 0 400 (UU l_0) US (fun q=>(27,UZ l_0 q,UG l_0 q)) (Kc l_0) (by intro k11; kernel_rfl) h
def Ru (l_0:(List Gh)):HT Int True:=.run (cs 3 [oa]) (fun _=>He) <|
  .sp ((↑l_0.length:Int)>(12:Int))
  (.run [bt,oc] (fun γ=>Gb (dT γ.2)) <|
  .leaf 3 [])
  (.run (bf::(cs 3 [])) (fun γ=>Gb (dF γ.2)) <|
  .bd (lp (HR l_0) (0:Nat)) fun qq=>.cs qq (fun o2=>.run [.fcut 0 .ret [(2,jI o2)] [] [] [(0,.any),(9,.any),(10,.any),(11,jI (↑(0:Nat):Int))] []] (fun γ=>k2 (rfl:(jI 0:AV)=jI (↑(0:Nat):Int)) (Gb (Rl l_0 (s:=(0:Nat)) (r:=Sum.inl o2) (eS γ.1.2 γ.2)))) <|
  .leaf o2 [])
  (fun o2=>.run [.fcut 0 (.exit 0) [] [] [] [(0,.any),(9,.any),(10,.any),(11,jI (↑(0:Nat):Int))] [],oc] (fun γ=>k2 (rfl:(jI 0:AV)=jI (↑(0:Nat):Int)) (Gb (Rl l_0 (s:=(0:Nat)) (r:=Sum.inr (o2)) (eS γ.1.2 γ.2)))) <|
  .leaf 0 []))
def Qn (l_0:(List Gh)):Option Int:=(Ru l_0).den
theorem GeI (l_0:(List Gh)) (r:Int) (h:Qn l_0=some r):G5 Tryz.prog GT 92 [.lst (fl Gh.enc l_0) l_0.length] (jI r) []:=
 G5.of_ht 400 (Ru l_0) (fun (r:Int)=>jI r) (fun (r:Int)=>[]) (by kernel_rfl) h
def Gd1 (d_0:Gh):HT Bool True:=.run (cs 4 [oa]) (fun _=>He) <|
  .sp (d_0.Kind=(1:Int))
  (.run [bt] (fun γ=>Gb (Gp γ.2)) <|
  .sp (d_0.Amount≥(0:Int))
  (.run (cs 2 (oa::oc::tc::oc::oa::(cs 2 []))) (fun γ=>Gb (dT γ.2)) <|
  .leaf (decide (d_0.Amount≤(1000:Int))) [])
  (.run (cs 2 (oa::oc::oF::(cs 4 []))) (fun γ=>Gb (dF γ.2)) <|
  .leaf false []))
  (.run (bf::(cs 2 [oa])) (fun γ=>Gb (Gw γ.2)) <|
  .sp (d_0.Kind=(2:Int))
  (.run [bt] (fun γ=>Gb (Gp γ.2)) <|
  .sp (d_0.Amount≥(0:Int))
  (.run (cs 2 (oa::oc::tc::oc::oa::(cs 2 []))) (fun γ=>Gb (dT γ.2)) <|
  .leaf (decide (d_0.Amount≤(1125899906842624:Int))) [])
  (.run (cs 2 (oa::oc::oF::(cs 4 []))) (fun γ=>Gb (dF γ.2)) <|
  .leaf false []))
  (.run (bf::(cs 2 [oa,oc])) (fun γ=>Gb (Gw γ.2)) <|
  .leaf (d_0.Amount==(0:Int)) []))
def GdS (d_0:Gh):Option Bool:=(Gd1 d_0).den
theorem Gm0 (d_0:Gh) (r:Bool) (h:GdS d_0=some r):G5 Tryz.prog GT 193 [.agg (Gh.enc d_0)] (.bool r) []:=
 G5.of_ht 400 (Gd1 d_0) (fun (r:Bool)=>.bool r) (fun (r:Bool)=>[]) (by kernel_rfl) h
def Gis (s_0:(List UInt8)):HT Bool True:=.run [oc] (fun _=>He) <|
  .sp (s_0=[])
  (.run (oc::oa::oc::tc::(cs 3 [])) (fun γ=>Gb (Gp γ.2)) <|
  .leaf true [])
  (.bd (MK s_0) fun r2=>.run (oc::oa::oc::oF::(.ret none [.any] (.bool r2) [])::(cs 2 [])) (fun γ=>k2 (Gw γ.1.2) (Gb (HW s_0 r2 γ.2))) <|
  .leaf r2 [])
def Gfl (s_0:(List UInt8)):Option Bool:=(Gis s_0).den
theorem Gd2 (s_0:(List UInt8)) (r:Bool) (h:Gfl s_0=some r):G5 Tryz.prog GT 194 [.str s_0] (.bool r) []:=
 G5.of_ht 400 (Gis s_0) (fun (r:Bool)=>.bool r) (fun (r:Bool)=>[]) (by kernel_rfl) h
def GiG (d_0:Gh):HT Int True:=.run (cs 2 []) (fun _=>He) <|
  .bd (MK d_0.Name) fun r1=>.run (cs 2 [.ret none [.any] (.bool r1) [],oc]) (fun γ=>Gb (HW d_0.Name r1 γ.2)) <|
  .sp (r1=true)
  (.run [bf] (fun γ=>Gb ((Gs γ.2):(!r1)=false)) <|
  .sp (d_0.Kind<(1:Int))
  (.run (cs 2 (oa::oc::tc::(cs 8 [bt,oc]))) (fun γ=>k2 (dT γ.2) (Gb (rfl:true=true))) <|
  .leaf 1 [])
  (.sp (d_0.Kind>(3:Int))
  (.run (cs 2 (oa::oc::oF::oc::oa::(cs 2 (tc::(cs 3 [bt,oc]))))) (fun γ=>k2 (dF γ.1.2) (k2 (dT γ.2) (Gb (rfl:true=true)))) <|
  .leaf 1 [])
  (.bd (GdS d_0) fun r6=>.run (cs 2 (oa::oc::oF::oc::oa::(cs 2 (oF::(.ret none [.any] (.bool r6) [])::(cs 2 []))))) (fun γ=>k2 (dF γ.1.1.2) (k2 (dF γ.1.2) (Gb (Gm0 d_0 r6 γ.2)))) <|
  .sp (r6=true)
  (.run [bf] (fun γ=>Gb ((Gs γ.2):(!r6)=false)) <|
  .bd (Gfl d_0.Group) fun r9=>.sp (r9=true)
  (.bd (Gfl d_0.System) fun r12=>.run (cs 2 ((.ret none [.any] (.bool r9) [])::(cs 2 (oF::oc::(.ret none [.any] (.bool r12) [])::(cs 2 []))))) (fun γ=>k2 (Gd2 d_0.Group r9 γ.1.1.2) (k2 ((Gs γ.1.2):(!r9)=false) (Gb (Gd2 d_0.System r12 γ.2)))) <|
  .sp (r12=true)
  (.run [bf] (fun γ=>Gb ((Gs γ.2):(!r12)=false)) <|
  .sp (d_0.Class<(0:Int))
  (.run (cs 2 (oa::oc::tc::(cs 3 [bt,oc]))) (fun γ=>k2 (dT γ.2) (Gb (rfl:true=true))) <|
  .leaf 20 [])
  (.run (cs 2 [oa,oc,oF,oc,oa,oc]) (fun γ=>Gb (dF γ.2)) <|
  .sp (d_0.Class>(9:Int))
  (.run [bt,oc] (fun γ=>Gb (dT γ.2)) <|
  .leaf 20 [])
  (.run [bf] (fun γ=>Gb (dF γ.2)) <|
  .sp (d_0.Window.Days=(0:Int))
  (.sp (d_0.Window.From=(0:Int))
  (.run (cs 3 (oa::oc::oF::(cs 8 (oa::oc::tc::(cs 2 (oa::oc::oF::(cs 2 (oa::(cs 3 []))))))))) (fun γ=>k2 (Gs (Gp γ.1.2)) (k2 (Gp γ.1.2) (Gb (Gs (Gp γ.2))))) <|
  .sp (d_0.Window.To=(0:Int))
  (.run [bf] (fun γ=>Gb (Gs (Gp γ.2))) <|
  .sp (d_0.Least<(0:Int))
  (.run (cs 2 (oa::oc::tc::(cs 3 [bt,oc]))) (fun γ=>k2 (dT γ.2) (Gb (rfl:true=true))) <|
  .leaf 2 [])
  (.run (cs 2 [oa,oc,oF,oc,oa,oc]) (fun γ=>Gb (dF γ.2)) <|
  .sp (d_0.Least>(2147483648:Int))
  (.run [bt,oc] (fun γ=>Gb (dT γ.2)) <|
  .leaf 2 [])
  (.run [bf,oc] (fun γ=>Gb (dF γ.2)) <|
  .leaf 0 [])))
  (.run [bt,oc] (fun γ=>Gb (Gu (Gw γ.2))) <|
  .leaf 12 []))
  (.run (cs 3 (oa::oc::oF::(cs 8 (oa::oc::tc::(cs 2 (oa::oc::tc::(cs 6 [bt,oc]))))))) (fun γ=>k2 (Gs (Gp γ.1.2)) (k2 (Gp γ.1.2) (k2 (Gu (Gw γ.2)) (Gb (rfl:true=true))))) <|
  .leaf 12 []))
  (.bd (QO d_0.Window) fun r22=>.sp (r22=true)
  (.run (cs 3 (oa::oc::tc::oc::(.ret none [.any] (.bool r22) [])::(cs 3 (oF::(cs 2 (oa::oc::oF::(cs 11 [bf]))))))) (fun γ=>k2 (Gu (Gw γ.1.1.2)) (k2 (R6 d_0.Window r22 γ.1.2) (k2 ((Gs γ.2):(!r22)=false) (k2 (Gw γ.1.1.2) (Gb (rfl:false=false)))))) <|
  .sp (d_0.Least<(0:Int))
  (.run (cs 2 (oa::oc::tc::(cs 3 [bt,oc]))) (fun γ=>k2 (dT γ.2) (Gb (rfl:true=true))) <|
  .leaf 2 [])
  (.run (cs 2 [oa,oc,oF,oc,oa,oc]) (fun γ=>Gb (dF γ.2)) <|
  .sp (d_0.Least>(2147483648:Int))
  (.run [bt,oc] (fun γ=>Gb (dT γ.2)) <|
  .leaf 2 [])
  (.run [bf,oc] (fun γ=>Gb (dF γ.2)) <|
  .leaf 0 [])))
  (.run (cs 3 (oa::oc::tc::oc::(.ret none [.any] (.bool r22) [])::(cs 3 (tc::(cs 16 [bt,oc]))))) (fun γ=>k2 (Gu (Gw γ.1.1.2)) (k2 (R6 d_0.Window r22 γ.1.2) (k2 ((Gu (eq_false_of_ne_true γ.2)):(!r22)=true) (Gb (rfl:true=true))))) <|
  .leaf 12 [])))))
  (.run [bt,oc] (fun γ=>Gb ((Gu (eq_false_of_ne_true γ.2)):(!r12)=true)) <|
  .leaf 6 []))
  (.run (cs 2 ((.ret none [.any] (.bool r9) [])::(cs 2 (tc::(cs 4 [bt,oc]))))) (fun γ=>k2 (Gd2 d_0.Group r9 γ.1.2) (k2 ((Gu (eq_false_of_ne_true γ.2)):(!r9)=true) (Gb (rfl:true=true)))) <|
  .leaf 6 []))
  (.run [bt,oc] (fun γ=>Gb ((Gu (eq_false_of_ne_true γ.2)):(!r6)=true)) <|
  .leaf 1 []))))
  (.run [bt,oc] (fun γ=>Gb ((Gu (eq_false_of_ne_true γ.2)):(!r1)=true)) <|
  .leaf 6 [])
def Gj8 (d_0:Gh):Option Int:=(GiG d_0).den
theorem Gqf (d_0:Gh) (r:Int) (h:Gj8 d_0=some r):G5 Tryz.prog GT 121 [.agg (Gh.enc d_0)] (jI r) []:=
 G5.of_ht 400 (GiG d_0) (fun (r:Int)=>jI r) (fun (r:Int)=>[]) (by kernel_rfl) h
def QB (l_0:(List Gh)) (k3:Nat):Nat→HT (Nat⊕(Unit⊕Unit)) True
 | k5=>.run (cs 2 [oa]) (fun _=>He) <|
  .sp ((↑k5:Int)<(↑k3:Int))
  (.run [bt] (fun γ=>Gb (dT γ.2)) <|
  .bd (l_0[k5]?) fun x40=>.bd (l_0[k3]?) fun x42=>.run (cs 2 ((.op none (.i k5))::oc::(.op none (.v [.str x40.Name]))::(cs 2 [.op none (.i k3),oc,.op none (.v [.str x42.Name]),oa]))) (fun γ=>k2 (ir γ.1.2) (k2 (GC (f:=Gh.enc) (z:=9) (fun _=>rfl) γ.1.2) (k2 (GL (f:=Gh.enc) (z:=10) (j:=k5) (a:=0) (n:=1) (fun _=>rfl) γ.1.2 (by decide) rfl) (k2 (ir γ.2) (k2 (GC (f:=Gh.enc) (z:=9) (fun _=>rfl) γ.2) (Gb (GL (f:=Gh.enc) (z:=10) (j:=k3) (a:=0) (n:=1) (fun _=>rfl) γ.2 (by decide) rfl))))))) <|
  .sp (x40.Name=x42.Name)
  (.run [bt,oc] (fun γ=>Gb (Gp γ.2)) <|
  .leaf (Sum.inr (Sum.inl ())) [])
  (.run [bf] (fun γ=>Gb (Gw γ.2)) <|
  .gd (GP .i64 ((↑k5:Int)+1)) <| .run [oc,ow,oc] (fun γ=>Gb γ.2) <|
  .leaf (Sum.inl (k5+1)) []))
  (.run [bf] (fun γ=>Gb (dF γ.2)) <|
  .leaf (Sum.inr (Sum.inr (()))) [])
def JM (l_0:(List Gh)) (k3:Nat):Nat→Option (Nat⊕(Unit⊕Unit)):=fun s=>(QB l_0 k3 s).den
def Ga2 (l_0:(List Gh)) (k3:Nat):Nat→PS:=fun s=>(39,[(0,.lst (fl Gh.enc l_0) l_0.length),(3,jI (↑k3:Int)),(5,jI (↑s:Int))],[])
def Ga3:(Unit⊕Unit)→Hm:=fun q=>match q with | Sum.inl o=>.ret | Sum.inr (o)=>(.exit 2)
def UN (l_0:(List Gh)) (k3:Nat):(Unit⊕Unit)→List (Nat×AV):=fun q=>match q with | Sum.inl o=>[(2,jI 9)] | Sum.inr (o)=>[(0,.lst (fl Gh.enc l_0) l_0.length),(3,jI (↑k3:Int))]
def Gb3 (l_0:(List Gh)) (k3:Nat):(Unit⊕Unit)→List G6:=fun q=>match q with | Sum.inl o=>[] | Sum.inr (o)=>[]
theorem XL (l_0:(List Gh)) (k3:Nat) {s:Nat} {r:Unit⊕Unit} (h:lp (JM l_0 k3) s=some r):GI Tryz.prog GT 0 (.loop (GO Tryz.prog 57 [1,1,0,1,0,0,1,0,0,1,1,1,0,0])) (Ga2 l_0 k3 s).st (Ga3 r) (PS.st (39,UN l_0 k3 r,Gb3 l_0 k3 r)):=
 GI.lp_ht 0 400 (Ga2 l_0 k3) Ga3 (fun q=>(39,UN l_0 k3 q,Gb3 l_0 k3 q)) (QB l_0 k3) (by intro k5; kernel_rfl) h
def Rf (l_0:(List Gh)):Nat→HT (Nat⊕(Int⊕Unit)) True
 | k3=>.run (cs 3 [oa]) (fun _=>He) <|
  .sp ((↑k3:Int)<(↑l_0.length:Int))
  (.run [bt] (fun γ=>Gb (dT γ.2)) <|
  .bd (l_0[k3]?) fun x26=>.bd (Gj8 x26) fun r28=>.run (cs 2 ((.op none (.i k3))::(.op none (.v [.str x26.Name,jI x26.Kind,jI x26.Amount,.str x26.Group,.str x26.System,jI x26.Class,jI x26.Window.Days,jI x26.Window.From,jI x26.Window.To,jI x26.Least]))::(.ret none [.any] (jI r28) [])::(cs 2 [oa]))) (fun γ=>k2 (ir γ.1.2) (k2 (GC (f:=Gh.enc) (z:=9) (fun _=>rfl) γ.1.2) (k2 (GU (f:=Gh.enc) (z:=10) (j:=k3) (fun _=>rfl) γ.1.2 rfl) (Gb (Gqf x26 r28 γ.2))))) <|
  .sp (r28=(0:Int))
  (.run [bf,oc] (fun γ=>Gb (Gs (Gp γ.2))) <|
  .bd (lp (JM l_0 k3) (0:Nat)) fun qq=>.cs qq (fun o31=>.run [.fcut 0 .ret [(2,jI 9)] [] [] [(0,.any),(3,.any),(5,jI (↑(0:Nat):Int))] []] (fun γ=>k2 (rfl:(jI 0:AV)=jI (↑(0:Nat):Int)) (Gb (XL l_0 k3 (s:=(0:Nat)) (r:=Sum.inl o31) (eS γ.1.2 γ.2)))) <|
  .leaf (Sum.inr (Sum.inl 9)) [])
  (fun o31=>.run [.fcut 0 (.exit 2) (UN l_0 k3 (Sum.inr (o31))) [] [] [(0,.any),(3,.any),(5,jI (↑(0:Nat):Int))] []] (fun γ=>k2 (rfl:(jI 0:AV)=jI (↑(0:Nat):Int)) (Gb (XL l_0 k3 (s:=(0:Nat)) (r:=Sum.inr (o31)) (eS γ.1.2 γ.2)))) <|
  .gd (GP .i64 ((↑k3:Int)+1)) <| .run [oc,ow,oc] (fun γ=>Gb γ.2) <|
  .leaf (Sum.inl (k3+1)) []))
  (.run (bt::(cs 2 [])) (fun γ=>Gb (Gu (Gw γ.2))) <|
  .leaf (Sum.inr (Sum.inl r28)) []))
  (.run [bf] (fun γ=>Gb (dF γ.2)) <|
  .leaf (Sum.inr (Sum.inr (()))) [])
def J3 (l_0:(List Gh)):Nat→Option (Nat⊕(Int⊕Unit)):=fun s=>(Rf l_0 s).den
def GcQ (l_0:(List Gh)):Nat→PS:=fun s=>(39,[(0,.lst (fl Gh.enc l_0) l_0.length),(3,jI (↑s:Int))],[])
def Gdp:(Int⊕Unit)→Hm:=fun q=>match q with | Sum.inl o=>.ret | Sum.inr (o)=>(.exit 0)
def Gda (l_0:(List Gh)):(Int⊕Unit)→List (Nat×AV):=fun q=>match q with | Sum.inl o=>[(2,jI o)] | Sum.inr (o)=>[]
def GcT (l_0:(List Gh)):(Int⊕Unit)→List G6:=fun q=>match q with | Sum.inl o=>[] | Sum.inr (o)=>[]
theorem Y5 (l_0:(List Gh)) {s:Nat} {r:Int⊕Unit} (h:lp (J3 l_0) s=some r):GI Tryz.prog GT 0 (.loop (GO Tryz.prog 57 [1,1,0,1,0,0])) (GcQ l_0 s).st (Gdp r) (PS.st (39,Gda l_0 r,GcT l_0 r)):=
 GI.lp_ht 0 400 (GcQ l_0) Gdp (fun q=>(39,Gda l_0 q,GcT l_0 q)) (Rf l_0) (by intro k3; kernel_rfl) h
def GcA (l_0:(List Gh)):HT Int True:=.run (cs 3 [oa]) (fun _=>He) <|
  .sp ((↑l_0.length:Int)>(12:Int))
  (.run [bt,oc] (fun γ=>Gb (dT γ.2)) <|
  .leaf 3 [])
  (.run [bf,oc] (fun γ=>Gb (dF γ.2)) <|
  .bd (lp (J3 l_0) (0:Nat)) fun qq=>.cs qq (fun o2=>.run [.fcut 0 .ret [(2,jI o2)] [] [] [(0,.any),(3,jI (↑(0:Nat):Int))] []] (fun γ=>k2 (rfl:(jI 0:AV)=jI (↑(0:Nat):Int)) (Gb (Y5 l_0 (s:=(0:Nat)) (r:=Sum.inl o2) (eS γ.1.2 γ.2)))) <|
  .leaf o2 [])
  (fun o2=>.run [.fcut 0 (.exit 0) [] [] [] [(0,.any),(3,jI (↑(0:Nat):Int))] [],oc] (fun γ=>k2 (rfl:(jI 0:AV)=jI (↑(0:Nat):Int)) (Gb (Y5 l_0 (s:=(0:Nat)) (r:=Sum.inr (o2)) (eS γ.1.2 γ.2)))) <|
  .leaf 0 []))
def QS (l_0:(List Gh)):Option Int:=(GcA l_0).den
theorem RU (l_0:(List Gh)) (r:Int) (h:QS l_0=some r):G5 Tryz.prog GT 57 [.lst (fl Gh.enc l_0) l_0.length] (jI r) []:=
 G5.of_ht 400 (GcA l_0) (fun (r:Int)=>jI r) (fun (r:Int)=>[]) (by kernel_rfl) h
end
set_option maxHeartbeats 4000000
set_option maxRecDepth 100000
noncomputable section
open Go Go.Proofs
def GeS (c_0:Hi):HT Int True:=.run (cs 2 []) (fun _=>He) <|
  .bd (HC c_0.Name) fun r1=>.sp (r1=true)
  (.sp (c_0.System=[])
  (.run (cs 2 ((.ret none [.any] (.bool r1) [])::(cs 2 (oF::oc::oa::oc::oF::(cs 6 [bf]))))) (fun γ=>k2 (Ha c_0.Name r1 γ.1.1.2) (k2 ((Gs γ.1.2):(!r1)=false) (k2 (Gs (Gp γ.2)) (Gb (rfl:false=false))))) <|
  .sp (c_0.Days=(0:Int))
  (.run (cs 2 (oa::oc::oF::(cs 4 [bf]))) (fun γ=>k2 (Gs (Gp γ.2)) (Gb (rfl:false=false))) <|
  .sp (c_0.Cents<(0:Int))
  (.run (cs 2 (oa::oc::tc::(cs 4 [bt,oc]))) (fun γ=>k2 (dT γ.2) (Gb (rfl:true=true))) <|
  .leaf 13 [])
  (.run (cs 2 (oa::oc::oF::oc::oa::(cs 2 []))) (fun γ=>Gb (dF γ.2)) <|
  .sp (c_0.Cents>(1125899906842624:Int))
  (.run [bt,oc] (fun γ=>Gb (dT γ.2)) <|
  .leaf 13 [])
  (.run [bf,oc] (fun γ=>Gb (dF γ.2)) <|
  .leaf 0 [])))
  (.run (cs 2 (oa::oc::tc::oc::oa::(cs 2 []))) (fun γ=>Gb (Gu (Gw γ.2))) <|
  .sp (c_0.Days=(1:Int))
  (.run [bf] (fun γ=>Gb (Gs (Gp γ.2))) <|
  .sp (c_0.Cents<(0:Int))
  (.run (cs 2 (oa::oc::tc::(cs 4 [bt,oc]))) (fun γ=>k2 (dT γ.2) (Gb (rfl:true=true))) <|
  .leaf 13 [])
  (.run (cs 2 (oa::oc::oF::oc::oa::(cs 2 []))) (fun γ=>Gb (dF γ.2)) <|
  .sp (c_0.Cents>(1125899906842624:Int))
  (.run [bt,oc] (fun γ=>Gb (dT γ.2)) <|
  .leaf 13 [])
  (.run [bf,oc] (fun γ=>Gb (dF γ.2)) <|
  .leaf 0 [])))
  (.run [bt,oc] (fun γ=>Gb (Gu (Gw γ.2))) <|
  .leaf 1 [])))
  (.bd (HC c_0.System) fun r11=>.run (cs 2 ((.ret none [.any] (.bool r1) [])::(cs 2 (oF::oc::oa::oc::tc::oc::(.ret none [.any] (.bool r11) [])::(cs 4 []))))) (fun γ=>k2 (Ha c_0.Name r1 γ.1.1.1.2) (k2 ((Gs γ.1.1.2):(!r1)=false) (k2 (Gu (Gw γ.1.2)) (Gb (Ha c_0.System r11 γ.2))))) <|
  .sp (r11=true)
  (.run [bf] (fun γ=>Gb ((Gs γ.2):(!r11)=false)) <|
  .sp (c_0.Days=(0:Int))
  (.run (cs 2 (oa::oc::oF::(cs 4 [bf]))) (fun γ=>k2 (Gs (Gp γ.2)) (Gb (rfl:false=false))) <|
  .sp (c_0.Cents<(0:Int))
  (.run (cs 2 (oa::oc::tc::(cs 4 [bt,oc]))) (fun γ=>k2 (dT γ.2) (Gb (rfl:true=true))) <|
  .leaf 13 [])
  (.run (cs 2 (oa::oc::oF::oc::oa::(cs 2 []))) (fun γ=>Gb (dF γ.2)) <|
  .sp (c_0.Cents>(1125899906842624:Int))
  (.run [bt,oc] (fun γ=>Gb (dT γ.2)) <|
  .leaf 13 [])
  (.run [bf,oc] (fun γ=>Gb (dF γ.2)) <|
  .leaf 0 [])))
  (.run (cs 2 (oa::oc::tc::oc::oa::(cs 2 []))) (fun γ=>Gb (Gu (Gw γ.2))) <|
  .sp (c_0.Days=(1:Int))
  (.run [bf] (fun γ=>Gb (Gs (Gp γ.2))) <|
  .sp (c_0.Cents<(0:Int))
  (.run (cs 2 (oa::oc::tc::(cs 4 [bt,oc]))) (fun γ=>k2 (dT γ.2) (Gb (rfl:true=true))) <|
  .leaf 13 [])
  (.run (cs 2 (oa::oc::oF::oc::oa::(cs 2 []))) (fun γ=>Gb (dF γ.2)) <|
  .sp (c_0.Cents>(1125899906842624:Int))
  (.run [bt,oc] (fun γ=>Gb (dT γ.2)) <|
  .leaf 13 [])
  (.run [bf,oc] (fun γ=>Gb (dF γ.2)) <|
  .leaf 0 [])))
  (.run [bt,oc] (fun γ=>Gb (Gu (Gw γ.2))) <|
  .leaf 1 [])))
  (.run [bt,oc] (fun γ=>Gb ((Gu (eq_false_of_ne_true γ.2)):(!r11)=true)) <|
  .leaf 6 [])))
  (.run (cs 2 ((.ret none [.any] (.bool r1) [])::(cs 2 (tc::(cs 10 [bt,oc]))))) (fun γ=>k2 (Ha c_0.Name r1 γ.1.2) (k2 ((Gu (eq_false_of_ne_true γ.2)):(!r1)=true) (Gb (rfl:true=true)))) <|
  .leaf 6 [])
def GgN (c_0:Hi):Option Int:=(GeS c_0).den
theorem GnY (c_0:Hi) (r:Int) (h:GgN c_0=some r):G5 Tryz.prog GT 93 [.agg (Hi.enc c_0)] (jI r) []:=
 G5.of_ht 400 (GeS c_0) (fun (r:Int)=>jI r) (fun (r:Int)=>[]) (by kernel_rfl) h
def GfL (n_0:Int):HT Bool True:=.run [oc] (fun _=>He) <|
  .sp (n_0≥(0:Int))
  (.run (oc::oa::oc::tc::oa::(cs 2 [])) (fun γ=>Gb (dT γ.2)) <|
  .leaf (decide (n_0≤(1125899906842624:Int))) [])
  (.run (oc::oa::oc::oF::(cs 3 [])) (fun γ=>Gb (dF γ.2)) <|
  .leaf false [])
def V5 (n_0:Int):Option Bool:=(GfL n_0).den
theorem Xe (n_0:Int) (r:Bool) (h:V5 n_0=some r):G5 Tryz.prog GT 105 [jI n_0] (.bool r) []:=
 G5.of_ht 400 (GfL n_0) (fun (r:Bool)=>.bool r) (fun (r:Bool)=>[]) (by kernel_rfl) h
def GiA (c_0:Hi):HT Int True:=.run (cs 2 []) (fun _=>He) <|
  .bd (MK c_0.Name) fun r1=>.sp (r1=true)
  (.sp (c_0.System=[])
  (.run (cs 2 ((.ret none [.any] (.bool r1) [])::(cs 2 (oF::oc::oa::oc::oF::(cs 5 [bf]))))) (fun γ=>k2 (HW c_0.Name r1 γ.1.1.2) (k2 ((Gs γ.1.2):(!r1)=false) (k2 (Gs (Gp γ.2)) (Gb (rfl:false=false))))) <|
  .sp (c_0.Days=(0:Int))
  (.run (cs 2 (oa::oc::oF::(cs 3 [bf]))) (fun γ=>k2 (Gs (Gp γ.2)) (Gb (rfl:false=false))) <|
  .bd (V5 c_0.Cents) fun r6=>.run (cs 2 [.ret none [.any] (.bool r6) [],oc]) (fun γ=>Gb (Xe c_0.Cents r6 γ.2)) <|
  .sp (r6=true)
  (.run [bf,oc] (fun γ=>Gb ((Gs γ.2):(!r6)=false)) <|
  .leaf 0 [])
  (.run [bt,oc] (fun γ=>Gb ((Gu (eq_false_of_ne_true γ.2)):(!r6)=true)) <|
  .leaf 13 []))
  (.run (cs 2 [oa,oc,tc,oc,oa,oc]) (fun γ=>Gb (Gu (Gw γ.2))) <|
  .sp (c_0.Days=(1:Int))
  (.run [bf] (fun γ=>Gb (Gs (Gp γ.2))) <|
  .bd (V5 c_0.Cents) fun r10=>.run (cs 2 [.ret none [.any] (.bool r10) [],oc]) (fun γ=>Gb (Xe c_0.Cents r10 γ.2)) <|
  .sp (r10=true)
  (.run [bf,oc] (fun γ=>Gb ((Gs γ.2):(!r10)=false)) <|
  .leaf 0 [])
  (.run [bt,oc] (fun γ=>Gb ((Gu (eq_false_of_ne_true γ.2)):(!r10)=true)) <|
  .leaf 13 []))
  (.run [bt,oc] (fun γ=>Gb (Gu (Gw γ.2))) <|
  .leaf 1 [])))
  (.bd (MK c_0.System) fun r13=>.run (cs 2 ((.ret none [.any] (.bool r1) [])::(cs 2 (oF::oc::oa::oc::tc::oc::(.ret none [.any] (.bool r13) [])::(cs 3 []))))) (fun γ=>k2 (HW c_0.Name r1 γ.1.1.1.2) (k2 ((Gs γ.1.1.2):(!r1)=false) (k2 (Gu (Gw γ.1.2)) (Gb (HW c_0.System r13 γ.2))))) <|
  .sp (r13=true)
  (.run [bf] (fun γ=>Gb ((Gs γ.2):(!r13)=false)) <|
  .sp (c_0.Days=(0:Int))
  (.run (cs 2 (oa::oc::oF::(cs 3 [bf]))) (fun γ=>k2 (Gs (Gp γ.2)) (Gb (rfl:false=false))) <|
  .bd (V5 c_0.Cents) fun r17=>.run (cs 2 [.ret none [.any] (.bool r17) [],oc]) (fun γ=>Gb (Xe c_0.Cents r17 γ.2)) <|
  .sp (r17=true)
  (.run [bf,oc] (fun γ=>Gb ((Gs γ.2):(!r17)=false)) <|
  .leaf 0 [])
  (.run [bt,oc] (fun γ=>Gb ((Gu (eq_false_of_ne_true γ.2)):(!r17)=true)) <|
  .leaf 13 []))
  (.run (cs 2 [oa,oc,tc,oc,oa,oc]) (fun γ=>Gb (Gu (Gw γ.2))) <|
  .sp (c_0.Days=(1:Int))
  (.run [bf] (fun γ=>Gb (Gs (Gp γ.2))) <|
  .bd (V5 c_0.Cents) fun r21=>.run (cs 2 [.ret none [.any] (.bool r21) [],oc]) (fun γ=>Gb (Xe c_0.Cents r21 γ.2)) <|
  .sp (r21=true)
  (.run [bf,oc] (fun γ=>Gb ((Gs γ.2):(!r21)=false)) <|
  .leaf 0 [])
  (.run [bt,oc] (fun γ=>Gb ((Gu (eq_false_of_ne_true γ.2)):(!r21)=true)) <|
  .leaf 13 []))
  (.run [bt,oc] (fun γ=>Gb (Gu (Gw γ.2))) <|
  .leaf 1 [])))
  (.run [bt,oc] (fun γ=>Gb ((Gu (eq_false_of_ne_true γ.2)):(!r13)=true)) <|
  .leaf 6 [])))
  (.run (cs 2 ((.ret none [.any] (.bool r1) [])::(cs 2 (tc::(cs 9 [bt,oc]))))) (fun γ=>k2 (HW c_0.Name r1 γ.1.2) (k2 ((Gu (eq_false_of_ne_true γ.2)):(!r1)=true) (Gb (rfl:true=true)))) <|
  .leaf 6 [])
def Gkq (c_0:Hi):Option Int:=(GiA c_0).den
theorem Gqe (c_0:Hi) (r:Int) (h:Gkq c_0=some r):G5 Tryz.prog GT 48 [.agg (Hi.enc c_0)] (jI r) []:=
 G5.of_ht 400 (GiA c_0) (fun (r:Int)=>jI r) (fun (r:Int)=>[]) (by kernel_rfl) h
end
set_option maxHeartbeats 4000000
noncomputable section
def Vc (w:Gm):Bool:=decide (1≤w.Days∧w.Days≤127∧0≤w.From∧w.From<w.To∧w.To≤1440)
theorem XZ (w:Gm):QO w=some (Vc w):=by
 simp only [QO,VZ,d1,d2,d3,d6,Vc]; grind
def GuY (w:Gm):Bool:=decide (w.Days=0∧w.From=0∧w.To=0)||Vc w
theorem Gi4 (w:Gm):J0 w=some (GuY w):=by
 simp only [J0,Uw,d1,d2,d3,d6,GuY,Vc]; grind
def GsF (k:Int):Int:=if k=1 then 1000 else if k=2 then 1125899906842624 else 0
theorem Glq (k:Int):XD k=some (GsF k):=by
 simp only [XD,Yo,d1,d2,d3,d6,GsF]; grind
theorem GkP (d:Gh):GdS d=some (decide (0≤d.Amount∧d.Amount≤GsF d.Kind)):=by
 simp only [GdS,Gd1,d1,d2,d3,d6,GsF]
 by_cases h1:d.Kind=1
 ·simp only [h1,if_true]; grind
 ·by_cases h2:d.Kind=2
  ·simp only [h2,if_true,if_neg (show ¬ ((2:Int)=1) by decide)]; grind
  ·simp only [if_neg h1,if_neg h2]
   exact congrArg some (decide_eq_decide.2 (by omega))
theorem Gnb (s:List UInt8):Gfl s=some (decide (s=[])||HE s):=by
 simp only [Gfl,Gis,d1,d2,d3,d5,d6,K3,Option.bind_some]; grind
def Guc (d:Gh):Int:=
 if HE d.Name=false then 6 else if d.Kind<1∨d.Kind>3∨d.Amount<0∨GsF d.Kind<d.Amount then 1
 else if (d.Group≠[]∧HE d.Group=false)∨(d.System≠[]∧HE d.System=false) then 6
 else if d.Class<0∨d.Class>9 then 20 else if GuY d.Window=false then 12 else if d.Least<0∨d.Least>2147483648 then 2 else 0
theorem Gjk (d:Gh):Vf d=some (Guc d):=by
 simp only [Vf,VV,d1,d2,d3,d4,d5,d6,JF,Glq,Gi4,Option.bind_some,Guc]
 generalize GsF d.Kind=m
 generalize HE d.Group=g
 generalize HE d.System=s
 generalize GuY d.Window=w
 generalize HE d.Name=q
 cases q
 ·rfl
 by_cases c1:d.Kind<1∨d.Kind>3∨d.Amount<0∨m<d.Amount
 ·simp only [if_true,if_pos c1,if_false,Bool.true_eq_false]; grind
 simp only [if_true,if_neg c1,if_false,Bool.true_eq_false]
 rw [if_neg (by omega),if_neg (by omega),if_neg (by omega),if_neg (by omega)]
 clear c1
 cases g <;> cases s <;> cases w <;> simp only [if_true,if_false,Bool.false_eq_true,Bool.true_eq_false] <;> grind
theorem GnB (d:Gh):Gj8 d=some (Guc d):=by
 simp only [Gj8,GiG,d1,d2,d3,d4,d5,d6,K3,GkP,Gnb,XZ,Option.bind_some,Guc,GuY]
 generalize GsF d.Kind=m
 rcases Hf (HE d.Name) with hq | hq <;> simp only [hq,if_true,if_false,Bool.true_eq_false,Bool.false_eq_true]
 by_cases c1:d.Kind<1∨d.Kind>3∨d.Amount<0∨m<d.Amount
 ·simp only [if_pos c1]; grind
 simp only [if_neg c1]
 rw [if_neg (by omega),if_neg (by omega),if_pos (dT (by omega))]
 clear c1 hq
 have hw0:Vc d.Window=true→d.Window.Days≠0:=fun h=>by have:=of_decide_eq_true h; omega
 rcases Hf (HE d.Group) with hg | hg <;> rcases Hf (HE d.System) with hs | hs <;> rcases Hf (Vc d.Window) with hw | hw <;>
  simp only [hg,hs,hw,if_true,if_false,Bool.false_eq_true,Bool.true_eq_false,Bool.or_true,Bool.or_false,decide_eq_true_eq,and_false,or_false,and_true] <;> grind
def GrJ (l:List Gh) (k:Nat) (x:Gh):Option Int:=
 if Guc x≠0 then some (Guc x) else if (l.take k).any (fun y=>decide (y.Name=x.Name)) then some 9 else none
def GpO (l:List Gh):Int:=if l.length>12 then 3 else (GK (GrJ l) 0 l).getD 0
theorem GfT (l:List Gh):Qn l=some (GpO l):=by
 simp only [Qn,Ru,d1,d2,d3,d4,d5,d6,d7,GpO]
 by_cases hl:l.length>12
 ·rw [if_pos (by omega),if_pos hl]
 rw [if_neg (by omega),if_neg hl]
 have hs:Sm l:=by show _≤_; omega
 have key:lp (HR l) 0=some (HL (GK (GrJ l) 0 l)):=by
  refine GQ (fun k x hx=>?_) ?_
  ·obtain ⟨hk,i1,i2,hkl,h1,h2⟩:=rd hs hx
   have hkl2:k≤l.length:=by omega
   have hq:lp (HG l k x) 0=some (HL (GK (ixG fun y=>decide (y.Name=x.Name)) 0 (l.take k))):=by
    have hst:Sm (l.take k):=by show _≤_; rw [List.length_take]; omega
    refine GQ (fun j y hy=>?_) ?_
    ·obtain ⟨_,i3,_,hjl,_,_⟩:=rd hst hy
     simp only [HG,JX,d1,d2,d3,d4,d5,d6,d7,hy,Option.bind_some,i3,if_true,hjl,ixG]
     clear i1 i2 i3 hs hst
     grind [KC]
    ·simp only [HG,JX,d3,d6,d1]
     rw [if_neg (by omega)]
   simp only [HR,Kc,d1,d2,d3,d4,d5,d6,d7,hx,hq,Option.bind_some,Gjk,i1,if_true,hkl,hkl2,GrJ]
   clear i1 i2 hs hq
   have ha:(l.take k).any (fun y=>decide (y.Name=x.Name))=((l.take k).find? fun y=>decide (y.Name=x.Name)).isSome:=Gnj _
   rw [ha]
   rcases VY (p:=fun y:Gh=>decide (y.Name=x.Name)) (l.take k) with ⟨j,y,f1,f2,f3⟩ | ⟨f1,f3⟩
   ·simp only [f1,f3,HL,eN,eM,Option.isSome_some]
    grind [KC]
   ·simp only [f1,f3,HL,eN,eM,Option.isSome_none]
    grind [KC]
  ·simp only [HR,Kc,d3,d6,d1]
   rw [if_neg (by omega)]
 rw [key]
 cases GK (GrJ l) 0 l <;> rfl
theorem Gkx (l:List Gh):QS l=some (GpO l):=by
 simp only [QS,GcA,d1,d2,d3,d4,d5,d6,d7,GpO]
 by_cases hl:l.length>12
 ·rw [if_pos (by omega),if_pos hl]
 rw [if_neg (by omega),if_neg hl]
 have hs:Sm l:=by show _≤_; omega
 have key:lp (J3 l) 0=some (HL (GK (GrJ l) 0 l)):=by
  refine GQ (fun k x hx=>?_) ?_
  ·obtain ⟨hk,i1,i2,hkl,h1,h2⟩:=rd hs hx
   have hq:lp (JM l k) 0=some (HL (if (l.take k).any (fun y=>decide (y.Name=x.Name)) then some () else none)):=by
    rw [← Hj (l.take k) 0]
    refine JE (l:=l) (n:=k) (by omega) (fun j y hj hy=>?_) ?_
    ·obtain ⟨_,i3,_,_,_,_⟩:=rd hs hy
     have hjk:(j:Int)<(k:Int):=by omega
     simp only [JM,QB,d1,d2,d3,d4,d5,d6,d7,hx,hy,Option.bind_some,i3,if_true,hjk]
     clear i1 i2 i3 hs
     grind [KC]
    ·simp only [JM,QB,d3,d6,d1]
     rw [if_neg (by omega)]
   simp only [J3,Rf,d1,d2,d3,d4,d5,d6,d7,hx,hq,Option.bind_some,GnB,i1,if_true,hkl,GrJ]
   clear i1 i2 hs hq
   rcases Hf ((l.take k).any fun y=>decide (y.Name=x.Name)) with hh | hh <;> simp only [hh,HL,eN,eM,if_true,if_false,Bool.false_eq_true] <;> grind [KC]
  ·simp only [J3,Rf,d3,d6,d1]
   rw [if_neg (by omega)]
 rw [key]
 cases GK (GrJ l) 0 l <;> rfl
def Gdo (c:Hi):Int:=
 if HE c.Name=false then 6 else if c.System≠[]∧HE c.System=false then 6 else if c.Days≠0∧c.Days≠1 then 1 else if c.Cents<0∨1125899906842624<c.Cents then 13 else 0
theorem Gp1 (c:Hi):GgN c=some (Gdo c):=by
 simp only [GgN,GeS,d1,d2,d3,d4,d5,d6,JF,Option.bind_some,Gdo]
 grind
theorem Gml (n:Int):V5 n=some (decide (0≤n∧n≤1125899906842624)):=by
 simp only [V5,GfL,d1,d2,d3,d6]; grind
theorem GmC (c:Hi):Gkq c=some (Gdo c):=by
 simp only [Gkq,GiA,d1,d2,d3,d4,d5,d6,K3,Gml,Option.bind_some,Gdo]
 grind
end
end Go.Proofs.YtnlaiahcemckkaaGreatDoor.Av
