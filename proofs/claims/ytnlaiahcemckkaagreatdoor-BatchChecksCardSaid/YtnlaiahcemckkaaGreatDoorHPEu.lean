import Derived.Test.YtnlaiahcemckkaaGreatDoorHPEo
import Derived.Test.YtnlaiahcemckkaaGreatDoorHPEm
open Prod (fst)
open Int (tdiv tmod)
set_option maxHeartbeats 4000000
set_option maxRecDepth 100000
set_option linter.unusedVariables false
set_option linter.unusedSimpArgs false
namespace Go.Proofs.YtnlaiahcemckkaaGreatDoor.Av
noncomputable section
open Go Go.Proofs
def U5 (o_0:Gk):HT Int True:=.run (cs 4 (oa::(cs 2 [oa,oc]))) (fun _=>He) <|
  .sp ((o_0.Tag==[])=(o_0.Plate==[]))
  (.run [bt,oc] (fun γ=>Gb (Gp γ.2)) <|
  .leaf 1 [])
  (.run [bf] (fun γ=>Gb (Gw γ.2)) <|
  .sp (o_0.Tag=[])
  (.run (cs 2 (oa::oc::oF::(cs 4 (bf::(cs 2 [oa]))))) (fun γ=>k2 (Gs (Gp γ.2)) (Gb (rfl:false=false))) <|
  .sp (o_0.Plate=[])
  (.run [bf] (fun γ=>Gb (Gs (Gp γ.2))) <|
  .bd (Jz o_0.Time) fun r4=>.run (cs 2 [.ret none [.any] (.bool r4) [],oc]) (fun γ=>Gb (G3 o_0.Time r4 γ.2)) <|
  .sp (r4=true)
  (.run [bf,oc] (fun γ=>Gb ((Gs γ.2):(!r4)=false)) <|
  .leaf 0 [])
  (.run [bt,oc] (fun γ=>Gb ((Gu (eq_false_of_ne_true γ.2)):(!r4)=true)) <|
  .leaf 12 []))
  (.run [bt] (fun γ=>Gb (Gu (Gw γ.2))) <|
  .bd (QX o_0.Plate) fun r7=>.run (cs 2 ((.ret none [.any] (.tup [.str r7.1,jI r7.2]) [])::(cs 5 []))) (fun γ=>Gb (V3 o_0.Plate r7 γ.2)) <|
  .sp (r7.2=(0:Int))
  (.run (oc::oa::oc::oF::(cs 2 [oa,oc])) (fun γ=>Gb (Gs (Gp γ.2))) <|
  .sp (r7.1=o_0.Plate)
  (.run [bf] (fun γ=>Gb (Gs (Gp γ.2))) <|
  .bd (Jz o_0.Time) fun r11=>.run (cs 2 [.ret none [.any] (.bool r11) [],oc]) (fun γ=>Gb (G3 o_0.Time r11 γ.2)) <|
  .sp (r11=true)
  (.run [bf,oc] (fun γ=>Gb ((Gs γ.2):(!r11)=false)) <|
  .leaf 0 [])
  (.run [bt,oc] (fun γ=>Gb ((Gu (eq_false_of_ne_true γ.2)):(!r11)=true)) <|
  .leaf 12 []))
  (.run [bt,oc] (fun γ=>Gb (Gu (Gw γ.2))) <|
  .leaf 19 []))
  (.run (oc::oa::oc::tc::(cs 4 [bt,oc])) (fun γ=>k2 (Gu (Gw γ.2)) (Gb (rfl:true=true))) <|
  .leaf 19 [])))
  (.bd (Gdw o_0.Tag) fun r14=>.run (cs 2 [oa,oc,tc,oc,.ret none [.any] (jI r14) [],oa,oc]) (fun γ=>k2 (Gu (Gw γ.1.2)) (Gb (Gh8 o_0.Tag r14 γ.2))) <|
  .sp (r14=(0:Int))
  (.run (bf::(cs 2 [oa])) (fun γ=>Gb (Gs (Gp γ.2))) <|
  .sp (o_0.Plate=[])
  (.run [bf] (fun γ=>Gb (Gs (Gp γ.2))) <|
  .bd (Jz o_0.Time) fun r18=>.run (cs 2 [.ret none [.any] (.bool r18) [],oc]) (fun γ=>Gb (G3 o_0.Time r18 γ.2)) <|
  .sp (r18=true)
  (.run [bf,oc] (fun γ=>Gb ((Gs γ.2):(!r18)=false)) <|
  .leaf 0 [])
  (.run [bt,oc] (fun γ=>Gb ((Gu (eq_false_of_ne_true γ.2)):(!r18)=true)) <|
  .leaf 12 []))
  (.run [bt] (fun γ=>Gb (Gu (Gw γ.2))) <|
  .bd (QX o_0.Plate) fun r21=>.run (cs 2 ((.ret none [.any] (.tup [.str r21.1,jI r21.2]) [])::(cs 5 []))) (fun γ=>Gb (V3 o_0.Plate r21 γ.2)) <|
  .sp (r21.2=(0:Int))
  (.run (oc::oa::oc::oF::(cs 2 [oa,oc])) (fun γ=>Gb (Gs (Gp γ.2))) <|
  .sp (r21.1=o_0.Plate)
  (.run [bf] (fun γ=>Gb (Gs (Gp γ.2))) <|
  .bd (Jz o_0.Time) fun r25=>.run (cs 2 [.ret none [.any] (.bool r25) [],oc]) (fun γ=>Gb (G3 o_0.Time r25 γ.2)) <|
  .sp (r25=true)
  (.run [bf,oc] (fun γ=>Gb ((Gs γ.2):(!r25)=false)) <|
  .leaf 0 [])
  (.run [bt,oc] (fun γ=>Gb ((Gu (eq_false_of_ne_true γ.2)):(!r25)=true)) <|
  .leaf 12 []))
  (.run [bt,oc] (fun γ=>Gb (Gu (Gw γ.2))) <|
  .leaf 19 []))
  (.run (oc::oa::oc::tc::(cs 4 [bt,oc])) (fun γ=>k2 (Gu (Gw γ.2)) (Gb (rfl:true=true))) <|
  .leaf 19 [])))
  (.run [bt,oc] (fun γ=>Gb (Gu (Gw γ.2))) <|
  .leaf 18 [])))
def RV (o_0:Gk):Option Int:=(U5 o_0).den
theorem GgX (o_0:Gk) (r:Int) (h:RV o_0=some r):G5 Tryz.prog GT 250 [.agg (Gk.enc o_0)] (jI r) []:=
 G5.of_ht 400 (U5 o_0) (fun (r:Int)=>jI r) (fun (r:Int)=>[]) (by kernel_rfl) h
def Kh (l_0:(List Gk)) (o_1:Gk):Nat→HT (Nat⊕(Unit⊕Unit)) True
 | k9=>.run [oa] (fun _=>He) <|
  .sp ((↑k9:Int)<(↑l_0.length:Int))
  (.run [bt] (fun γ=>Gb (dT γ.2)) <|
  .bd (l_0[k9]?) fun x27=>.run ((.op none (.i k9))::(.op none (.v [.str x27.Tag,.str x27.Plate,jI x27.Time.From,jI x27.Time.To]))::(cs 2 [])) (fun γ=>k2 (ir γ.2) (k2 (GC (f:=Gk.enc) (z:=3) (fun _=>rfl) γ.2) (Gb (GU (f:=Gk.enc) (z:=4) (j:=k9) (fun _=>rfl) γ.2 rfl)))) <|
  .sp (x27.Tag=o_1.Tag)
  (.sp (x27.Plate=o_1.Plate)
  (.bd (Jz x27.Time) fun r31=>.sp (r31=true)
  (.bd (Jz o_1.Time) fun r34=>.sp (r34=true)
  (.bd (some ((if x27.Time.From<o_1.Time.From then o_1.Time.From else x27.Time.From))) fun y37=>.sp (y37<(if o_1.Time.To<x27.Time.To then o_1.Time.To else x27.Time.To))
  (.sp (x27.Time.To<o_1.Time.To)
  (.run (cs 4 (oa::oc::tc::(cs 3 (oa::(cs 2 (tc::(cs 8 ((.tr (.frz [.t 0,.t 11] [jI x27.Time.From,jI x27.Time.To] 1))::(cs 8 (bt::(cs 7 (bt::(cs 5 ((.ret none [.any] (.bool r31) [])::bt::(cs 3 ((.op none (.ap 2))::(cs 4 (bf::(cs 3 (bf::(cs 11 (bf::(cs 5 (bf::(cs 2 (bf::(cs 2 (bf::(cs 18 (bt::(cs 11 (bf::(cs 5 (bt::(cs 20 (bf::(cs 3 ((.op none (.ap 2))::(cs 4 (bf::(cs 3 ((.tr (.frz [.t 1,.t 14] [jI o_1.Time.From,jI o_1.Time.To] 1))::(cs 8 (bt::(cs 7 (bt::(cs 5 ((.ret none [.any] (.bool r34) [])::bt::(cs 3 ((.op none (.ap 2))::(cs 4 (bf::(cs 3 (bf::(cs 11 (bf::(cs 5 (bf::(cs 2 (bf::(cs 2 (bf::(cs 18 (bt::(cs 11 (bf::(cs 5 (bt::(cs 20 (bf::(cs 3 ((.op none (.ap 2))::(cs 4 (bf::(cs 17 (bt::(cs 10 (oa::(cs 10 (oa::(cs 5 ((.tr (.eqt (.t 51) (jI y37)))::(cs 2 (oa::bt::(cs 3 ((.op none (.ap 2))::(cs 11 (oa::bt::(cs 13 (bf::(cs 5 [bt,oc]))))))))))))))))))))))))))))))))))))))))))))))))))))))))))))))))))))))))))))))))))))))))))) (fun γ=>k2 (Gp γ.1.1.1.1.1.1.1.1.2) (k2 (Gp γ.1.1.1.1.1.1.1.2) (k2 (⟨rfl,rfl,rfl,nB rfl,nB rfl⟩:2=2∧sub [jI x27.Time.From,jI x27.Time.To] 0 2=[jI x27.Time.From,jI x27.Time.To]∧1=1∧0+2≤List.length ([jI x27.Time.From,jI x27.Time.To]:List AV)∧1≤1) (k2 (⟨rfl,rfl,rfl,nB rfl,nB rfl⟩:2=2∧sub [jI x27.Time.From,jI x27.Time.To] 0 2=[jI x27.Time.From,jI x27.Time.To]∧1=1∧0+2≤List.length ([jI x27.Time.From,jI x27.Time.To]:List AV)∧1≤1) (k2 (rfl:true=true) (k2 (rfl:true=true) (k2 (G3 x27.Time r31 γ.1.1.1.1.1.1.2) (k2 γ.1.1.1.1.1.2 (k2 ((nB rfl):0+2≤List.length ([jI x27.Time.From,jI x27.Time.To]:List AV)) (k2 ((by decide):0<1) (k2 ((by decide):1≤8796093022000) (k2 (rfl:false=false) (k2 (rfl:false=false) (k2 (rfl:false=false) (k2 (rfl:false=false) (k2 (rfl:false=false) (k2 (rfl:false=false) (k2 (rfl:true=true) (k2 (rfl:false=false) (k2 (rfl:true=true) (k2 (rfl:false=false) (k2 ((nB rfl):0+2≤List.length ([jI x27.Time.From,jI x27.Time.To]:List AV)) (k2 ((by decide):0<1) (k2 ((by decide):1≤8796093022000) (k2 (rfl:false=false) (k2 (⟨rfl,rfl,rfl,nB rfl,nB rfl⟩:3=3∧sub [jI o_1.Time.From,jI o_1.Time.To] 0 2=[jI o_1.Time.From,jI o_1.Time.To]∧1=1∧0+2≤List.length ([jI o_1.Time.From,jI o_1.Time.To]:List AV)∧1≤1) (k2 (⟨rfl,rfl,rfl,nB rfl,nB rfl⟩:3=3∧sub [jI o_1.Time.From,jI o_1.Time.To] 0 2=[jI o_1.Time.From,jI o_1.Time.To]∧1=1∧0+2≤List.length ([jI o_1.Time.From,jI o_1.Time.To]:List AV)∧1≤1) (k2 (rfl:true=true) (k2 (rfl:true=true) (k2 (G3 o_1.Time r34 γ.1.1.1.1.2) (k2 γ.1.1.1.2 (k2 ((nB rfl):0+2≤List.length ([jI o_1.Time.From,jI o_1.Time.To]:List AV)) (k2 ((by decide):0<1) (k2 ((by decide):1≤8796093022000) (k2 (rfl:false=false) (k2 (rfl:false=false) (k2 (rfl:false=false) (k2 (rfl:false=false) (k2 (rfl:false=false) (k2 (rfl:false=false) (k2 (rfl:true=true) (k2 (rfl:false=false) (k2 (rfl:true=true) (k2 (rfl:false=false) (k2 ((nB rfl):0+2≤List.length ([jI o_1.Time.From,jI o_1.Time.To]:List AV)) (k2 ((by decide):0<1) (k2 ((by decide):1≤8796093022000) (k2 (rfl:false=false) (k2 (rfl:true=true) (k2 ((congrArg _ (Option.some.inj γ.1.1.2)):(jI (if x27.Time.From<o_1.Time.From then o_1.Time.From else x27.Time.From):AV)=jI y37) (k2 (dT γ.1.2) (k2 ((nB rfl):0+2≤List.length ([jI (if x27.Time.From<o_1.Time.From then o_1.Time.From else x27.Time.From),jI (if o_1.Time.To<x27.Time.To then o_1.Time.To else x27.Time.To)]:List AV)) (k2 ((by decide):0<1) (k2 ((by decide):1≤8796093022000) (k2 (dT γ.2) (k2 (rfl:false=false) (Gb (rfl:true=true)))))))))))))))))))))))))))))))))))))))))))))))))))))))))) <|
  .leaf (Sum.inr (Sum.inl ())) [0])
  (.run (cs 4 (oa::oc::tc::(cs 3 (oa::(cs 2 (tc::(cs 8 ((.tr (.frz [.t 0,.t 11] [jI x27.Time.From,jI x27.Time.To] 1))::(cs 8 (bt::(cs 7 (bt::(cs 5 ((.ret none [.any] (.bool r31) [])::bt::(cs 3 ((.op none (.ap 2))::(cs 4 (bf::(cs 3 (bf::(cs 11 (bf::(cs 5 (bf::(cs 2 (bf::(cs 2 (bf::(cs 18 (bt::(cs 11 (bf::(cs 5 (bt::(cs 20 (bf::(cs 3 ((.op none (.ap 2))::(cs 4 (bf::(cs 3 ((.tr (.frz [.t 1,.t 14] [jI o_1.Time.From,jI o_1.Time.To] 1))::(cs 8 (bt::(cs 7 (bt::(cs 5 ((.ret none [.any] (.bool r34) [])::bt::(cs 3 ((.op none (.ap 2))::(cs 4 (bf::(cs 3 (bf::(cs 11 (bf::(cs 5 (bf::(cs 2 (bf::(cs 2 (bf::(cs 18 (bt::(cs 11 (bf::(cs 5 (bt::(cs 20 (bf::(cs 3 ((.op none (.ap 2))::(cs 4 (bf::(cs 17 (bt::(cs 10 (oa::(cs 10 (oa::(cs 5 ((.tr (.eqt (.t 51) (jI y37)))::(cs 2 (oa::bt::(cs 3 ((.op none (.ap 2))::(cs 11 (oa::bf::(cs 13 (bf::(cs 5 [bt,oc]))))))))))))))))))))))))))))))))))))))))))))))))))))))))))))))))))))))))))))))))))))))))))) (fun γ=>k2 (Gp γ.1.1.1.1.1.1.1.1.2) (k2 (Gp γ.1.1.1.1.1.1.1.2) (k2 (⟨rfl,rfl,rfl,nB rfl,nB rfl⟩:2=2∧sub [jI x27.Time.From,jI x27.Time.To] 0 2=[jI x27.Time.From,jI x27.Time.To]∧1=1∧0+2≤List.length ([jI x27.Time.From,jI x27.Time.To]:List AV)∧1≤1) (k2 (⟨rfl,rfl,rfl,nB rfl,nB rfl⟩:2=2∧sub [jI x27.Time.From,jI x27.Time.To] 0 2=[jI x27.Time.From,jI x27.Time.To]∧1=1∧0+2≤List.length ([jI x27.Time.From,jI x27.Time.To]:List AV)∧1≤1) (k2 (rfl:true=true) (k2 (rfl:true=true) (k2 (G3 x27.Time r31 γ.1.1.1.1.1.1.2) (k2 γ.1.1.1.1.1.2 (k2 ((nB rfl):0+2≤List.length ([jI x27.Time.From,jI x27.Time.To]:List AV)) (k2 ((by decide):0<1) (k2 ((by decide):1≤8796093022000) (k2 (rfl:false=false) (k2 (rfl:false=false) (k2 (rfl:false=false) (k2 (rfl:false=false) (k2 (rfl:false=false) (k2 (rfl:false=false) (k2 (rfl:true=true) (k2 (rfl:false=false) (k2 (rfl:true=true) (k2 (rfl:false=false) (k2 ((nB rfl):0+2≤List.length ([jI x27.Time.From,jI x27.Time.To]:List AV)) (k2 ((by decide):0<1) (k2 ((by decide):1≤8796093022000) (k2 (rfl:false=false) (k2 (⟨rfl,rfl,rfl,nB rfl,nB rfl⟩:3=3∧sub [jI o_1.Time.From,jI o_1.Time.To] 0 2=[jI o_1.Time.From,jI o_1.Time.To]∧1=1∧0+2≤List.length ([jI o_1.Time.From,jI o_1.Time.To]:List AV)∧1≤1) (k2 (⟨rfl,rfl,rfl,nB rfl,nB rfl⟩:3=3∧sub [jI o_1.Time.From,jI o_1.Time.To] 0 2=[jI o_1.Time.From,jI o_1.Time.To]∧1=1∧0+2≤List.length ([jI o_1.Time.From,jI o_1.Time.To]:List AV)∧1≤1) (k2 (rfl:true=true) (k2 (rfl:true=true) (k2 (G3 o_1.Time r34 γ.1.1.1.1.2) (k2 γ.1.1.1.2 (k2 ((nB rfl):0+2≤List.length ([jI o_1.Time.From,jI o_1.Time.To]:List AV)) (k2 ((by decide):0<1) (k2 ((by decide):1≤8796093022000) (k2 (rfl:false=false) (k2 (rfl:false=false) (k2 (rfl:false=false) (k2 (rfl:false=false) (k2 (rfl:false=false) (k2 (rfl:false=false) (k2 (rfl:true=true) (k2 (rfl:false=false) (k2 (rfl:true=true) (k2 (rfl:false=false) (k2 ((nB rfl):0+2≤List.length ([jI o_1.Time.From,jI o_1.Time.To]:List AV)) (k2 ((by decide):0<1) (k2 ((by decide):1≤8796093022000) (k2 (rfl:false=false) (k2 (rfl:true=true) (k2 ((congrArg _ (Option.some.inj γ.1.1.2)):(jI (if x27.Time.From<o_1.Time.From then o_1.Time.From else x27.Time.From):AV)=jI y37) (k2 (dT γ.1.2) (k2 ((nB rfl):0+2≤List.length ([jI (if x27.Time.From<o_1.Time.From then o_1.Time.From else x27.Time.From),jI (if o_1.Time.To<x27.Time.To then o_1.Time.To else x27.Time.To)]:List AV)) (k2 ((by decide):0<1) (k2 ((by decide):1≤8796093022000) (k2 (dF γ.2) (k2 (rfl:false=false) (Gb (rfl:true=true)))))))))))))))))))))))))))))))))))))))))))))))))))))))))) <|
  .leaf (Sum.inr (Sum.inl ())) [0]))
  (.sp (x27.Time.To<o_1.Time.To)
  (.run (cs 4 (oa::oc::tc::(cs 3 (oa::(cs 2 (tc::(cs 8 ((.tr (.frz [.t 0,.t 11] [jI x27.Time.From,jI x27.Time.To] 1))::(cs 8 (bt::(cs 7 (bt::(cs 5 ((.ret none [.any] (.bool r31) [])::bt::(cs 3 ((.op none (.ap 2))::(cs 4 (bf::(cs 3 (bf::(cs 11 (bf::(cs 5 (bf::(cs 2 (bf::(cs 2 (bf::(cs 18 (bt::(cs 11 (bf::(cs 5 (bt::(cs 20 (bf::(cs 3 ((.op none (.ap 2))::(cs 4 (bf::(cs 3 ((.tr (.frz [.t 1,.t 14] [jI o_1.Time.From,jI o_1.Time.To] 1))::(cs 8 (bt::(cs 7 (bt::(cs 5 ((.ret none [.any] (.bool r34) [])::bt::(cs 3 ((.op none (.ap 2))::(cs 4 (bf::(cs 3 (bf::(cs 11 (bf::(cs 5 (bf::(cs 2 (bf::(cs 2 (bf::(cs 18 (bt::(cs 11 (bf::(cs 5 (bt::(cs 20 (bf::(cs 3 ((.op none (.ap 2))::(cs 4 (bf::(cs 17 (bt::(cs 10 (oa::(cs 10 (oa::(cs 5 ((.tr (.eqt (.t 51) (jI y37)))::(cs 2 (oa::bf::(cs 10 (oa::bt::(cs 13 (bf::(cs 5 [bf]))))))))))))))))))))))))))))))))))))))))))))))))))))))))))))))))))))))))))))))))))))))))) (fun γ=>k2 (Gp γ.1.1.1.1.1.1.1.1.2) (k2 (Gp γ.1.1.1.1.1.1.1.2) (k2 (⟨rfl,rfl,rfl,nB rfl,nB rfl⟩:2=2∧sub [jI x27.Time.From,jI x27.Time.To] 0 2=[jI x27.Time.From,jI x27.Time.To]∧1=1∧0+2≤List.length ([jI x27.Time.From,jI x27.Time.To]:List AV)∧1≤1) (k2 (⟨rfl,rfl,rfl,nB rfl,nB rfl⟩:2=2∧sub [jI x27.Time.From,jI x27.Time.To] 0 2=[jI x27.Time.From,jI x27.Time.To]∧1=1∧0+2≤List.length ([jI x27.Time.From,jI x27.Time.To]:List AV)∧1≤1) (k2 (rfl:true=true) (k2 (rfl:true=true) (k2 (G3 x27.Time r31 γ.1.1.1.1.1.1.2) (k2 γ.1.1.1.1.1.2 (k2 ((nB rfl):0+2≤List.length ([jI x27.Time.From,jI x27.Time.To]:List AV)) (k2 ((by decide):0<1) (k2 ((by decide):1≤8796093022000) (k2 (rfl:false=false) (k2 (rfl:false=false) (k2 (rfl:false=false) (k2 (rfl:false=false) (k2 (rfl:false=false) (k2 (rfl:false=false) (k2 (rfl:true=true) (k2 (rfl:false=false) (k2 (rfl:true=true) (k2 (rfl:false=false) (k2 ((nB rfl):0+2≤List.length ([jI x27.Time.From,jI x27.Time.To]:List AV)) (k2 ((by decide):0<1) (k2 ((by decide):1≤8796093022000) (k2 (rfl:false=false) (k2 (⟨rfl,rfl,rfl,nB rfl,nB rfl⟩:3=3∧sub [jI o_1.Time.From,jI o_1.Time.To] 0 2=[jI o_1.Time.From,jI o_1.Time.To]∧1=1∧0+2≤List.length ([jI o_1.Time.From,jI o_1.Time.To]:List AV)∧1≤1) (k2 (⟨rfl,rfl,rfl,nB rfl,nB rfl⟩:3=3∧sub [jI o_1.Time.From,jI o_1.Time.To] 0 2=[jI o_1.Time.From,jI o_1.Time.To]∧1=1∧0+2≤List.length ([jI o_1.Time.From,jI o_1.Time.To]:List AV)∧1≤1) (k2 (rfl:true=true) (k2 (rfl:true=true) (k2 (G3 o_1.Time r34 γ.1.1.1.1.2) (k2 γ.1.1.1.2 (k2 ((nB rfl):0+2≤List.length ([jI o_1.Time.From,jI o_1.Time.To]:List AV)) (k2 ((by decide):0<1) (k2 ((by decide):1≤8796093022000) (k2 (rfl:false=false) (k2 (rfl:false=false) (k2 (rfl:false=false) (k2 (rfl:false=false) (k2 (rfl:false=false) (k2 (rfl:false=false) (k2 (rfl:true=true) (k2 (rfl:false=false) (k2 (rfl:true=true) (k2 (rfl:false=false) (k2 ((nB rfl):0+2≤List.length ([jI o_1.Time.From,jI o_1.Time.To]:List AV)) (k2 ((by decide):0<1) (k2 ((by decide):1≤8796093022000) (k2 (rfl:false=false) (k2 (rfl:true=true) (k2 ((congrArg _ (Option.some.inj γ.1.1.2)):(jI (if x27.Time.From<o_1.Time.From then o_1.Time.From else x27.Time.From):AV)=jI y37) (k2 (dF γ.1.2) (k2 (dT γ.2) (k2 (rfl:false=false) (Gb (rfl:false=false))))))))))))))))))))))))))))))))))))))))))))))))))))))) <|
  .gd (GP .i64 ((↑k9:Int)+1)) <| .run [ow,oc] (fun γ=>Gb γ.2) <|
  .leaf (Sum.inl (k9+1)) [0])
  (.run (cs 4 (oa::oc::tc::(cs 3 (oa::(cs 2 (tc::(cs 8 ((.tr (.frz [.t 0,.t 11] [jI x27.Time.From,jI x27.Time.To] 1))::(cs 8 (bt::(cs 7 (bt::(cs 5 ((.ret none [.any] (.bool r31) [])::bt::(cs 3 ((.op none (.ap 2))::(cs 4 (bf::(cs 3 (bf::(cs 11 (bf::(cs 5 (bf::(cs 2 (bf::(cs 2 (bf::(cs 18 (bt::(cs 11 (bf::(cs 5 (bt::(cs 20 (bf::(cs 3 ((.op none (.ap 2))::(cs 4 (bf::(cs 3 ((.tr (.frz [.t 1,.t 14] [jI o_1.Time.From,jI o_1.Time.To] 1))::(cs 8 (bt::(cs 7 (bt::(cs 5 ((.ret none [.any] (.bool r34) [])::bt::(cs 3 ((.op none (.ap 2))::(cs 4 (bf::(cs 3 (bf::(cs 11 (bf::(cs 5 (bf::(cs 2 (bf::(cs 2 (bf::(cs 18 (bt::(cs 11 (bf::(cs 5 (bt::(cs 20 (bf::(cs 3 ((.op none (.ap 2))::(cs 4 (bf::(cs 17 (bt::(cs 10 (oa::(cs 10 (oa::(cs 5 ((.tr (.eqt (.t 51) (jI y37)))::(cs 2 (oa::bf::(cs 10 (oa::bf::(cs 13 (bf::(cs 5 [bf]))))))))))))))))))))))))))))))))))))))))))))))))))))))))))))))))))))))))))))))))))))))))) (fun γ=>k2 (Gp γ.1.1.1.1.1.1.1.1.2) (k2 (Gp γ.1.1.1.1.1.1.1.2) (k2 (⟨rfl,rfl,rfl,nB rfl,nB rfl⟩:2=2∧sub [jI x27.Time.From,jI x27.Time.To] 0 2=[jI x27.Time.From,jI x27.Time.To]∧1=1∧0+2≤List.length ([jI x27.Time.From,jI x27.Time.To]:List AV)∧1≤1) (k2 (⟨rfl,rfl,rfl,nB rfl,nB rfl⟩:2=2∧sub [jI x27.Time.From,jI x27.Time.To] 0 2=[jI x27.Time.From,jI x27.Time.To]∧1=1∧0+2≤List.length ([jI x27.Time.From,jI x27.Time.To]:List AV)∧1≤1) (k2 (rfl:true=true) (k2 (rfl:true=true) (k2 (G3 x27.Time r31 γ.1.1.1.1.1.1.2) (k2 γ.1.1.1.1.1.2 (k2 ((nB rfl):0+2≤List.length ([jI x27.Time.From,jI x27.Time.To]:List AV)) (k2 ((by decide):0<1) (k2 ((by decide):1≤8796093022000) (k2 (rfl:false=false) (k2 (rfl:false=false) (k2 (rfl:false=false) (k2 (rfl:false=false) (k2 (rfl:false=false) (k2 (rfl:false=false) (k2 (rfl:true=true) (k2 (rfl:false=false) (k2 (rfl:true=true) (k2 (rfl:false=false) (k2 ((nB rfl):0+2≤List.length ([jI x27.Time.From,jI x27.Time.To]:List AV)) (k2 ((by decide):0<1) (k2 ((by decide):1≤8796093022000) (k2 (rfl:false=false) (k2 (⟨rfl,rfl,rfl,nB rfl,nB rfl⟩:3=3∧sub [jI o_1.Time.From,jI o_1.Time.To] 0 2=[jI o_1.Time.From,jI o_1.Time.To]∧1=1∧0+2≤List.length ([jI o_1.Time.From,jI o_1.Time.To]:List AV)∧1≤1) (k2 (⟨rfl,rfl,rfl,nB rfl,nB rfl⟩:3=3∧sub [jI o_1.Time.From,jI o_1.Time.To] 0 2=[jI o_1.Time.From,jI o_1.Time.To]∧1=1∧0+2≤List.length ([jI o_1.Time.From,jI o_1.Time.To]:List AV)∧1≤1) (k2 (rfl:true=true) (k2 (rfl:true=true) (k2 (G3 o_1.Time r34 γ.1.1.1.1.2) (k2 γ.1.1.1.2 (k2 ((nB rfl):0+2≤List.length ([jI o_1.Time.From,jI o_1.Time.To]:List AV)) (k2 ((by decide):0<1) (k2 ((by decide):1≤8796093022000) (k2 (rfl:false=false) (k2 (rfl:false=false) (k2 (rfl:false=false) (k2 (rfl:false=false) (k2 (rfl:false=false) (k2 (rfl:false=false) (k2 (rfl:true=true) (k2 (rfl:false=false) (k2 (rfl:true=true) (k2 (rfl:false=false) (k2 ((nB rfl):0+2≤List.length ([jI o_1.Time.From,jI o_1.Time.To]:List AV)) (k2 ((by decide):0<1) (k2 ((by decide):1≤8796093022000) (k2 (rfl:false=false) (k2 (rfl:true=true) (k2 ((congrArg _ (Option.some.inj γ.1.1.2)):(jI (if x27.Time.From<o_1.Time.From then o_1.Time.From else x27.Time.From):AV)=jI y37) (k2 (dF γ.1.2) (k2 (dF γ.2) (k2 (rfl:false=false) (Gb (rfl:false=false))))))))))))))))))))))))))))))))))))))))))))))))))))))) <|
  .gd (GP .i64 ((↑k9:Int)+1)) <| .run [ow,oc] (fun γ=>Gb γ.2) <|
  .leaf (Sum.inl (k9+1)) [0])))
  (.run (cs 4 (oa::oc::tc::(cs 3 (oa::(cs 2 (tc::(cs 8 ((.tr (.frz [.t 0,.t 11] [jI x27.Time.From,jI x27.Time.To] 1))::(cs 8 (bt::(cs 7 (bt::(cs 5 ((.ret none [.any] (.bool r31) [])::bt::(cs 3 ((.op none (.ap 2))::(cs 4 (bf::(cs 3 (bf::(cs 11 (bf::(cs 5 (bf::(cs 2 (bf::(cs 2 (bf::(cs 18 (bt::(cs 11 (bf::(cs 5 (bt::(cs 20 (bf::(cs 3 ((.op none (.ap 2))::(cs 4 (bf::(cs 3 ((.tr (.frz [.t 1,.t 14] [jI o_1.Time.From,jI o_1.Time.To] 1))::(cs 8 (bt::(cs 7 (bt::(cs 5 ((.ret none [.any] (.bool r34) [])::bf::(cs 3 (bf::(cs 3 (bf::(cs 11 (bf::(cs 5 (bf::(cs 2 (bf::(cs 2 (bf::(cs 18 (bt::(cs 11 (bf::(cs 5 (bf::(cs 17 (bf::(cs 5 [bf]))))))))))))))))))))))))))))))))))))))))))))))))))))))))))))))))))))) (fun γ=>k2 (Gp γ.1.1.1.1.1.2) (k2 (Gp γ.1.1.1.1.2) (k2 (⟨rfl,rfl,rfl,nB rfl,nB rfl⟩:2=2∧sub [jI x27.Time.From,jI x27.Time.To] 0 2=[jI x27.Time.From,jI x27.Time.To]∧1=1∧0+2≤List.length ([jI x27.Time.From,jI x27.Time.To]:List AV)∧1≤1) (k2 (⟨rfl,rfl,rfl,nB rfl,nB rfl⟩:2=2∧sub [jI x27.Time.From,jI x27.Time.To] 0 2=[jI x27.Time.From,jI x27.Time.To]∧1=1∧0+2≤List.length ([jI x27.Time.From,jI x27.Time.To]:List AV)∧1≤1) (k2 (rfl:true=true) (k2 (rfl:true=true) (k2 (G3 x27.Time r31 γ.1.1.1.2) (k2 γ.1.1.2 (k2 ((nB rfl):0+2≤List.length ([jI x27.Time.From,jI x27.Time.To]:List AV)) (k2 ((by decide):0<1) (k2 ((by decide):1≤8796093022000) (k2 (rfl:false=false) (k2 (rfl:false=false) (k2 (rfl:false=false) (k2 (rfl:false=false) (k2 (rfl:false=false) (k2 (rfl:false=false) (k2 (rfl:true=true) (k2 (rfl:false=false) (k2 (rfl:true=true) (k2 (rfl:false=false) (k2 ((nB rfl):0+2≤List.length ([jI x27.Time.From,jI x27.Time.To]:List AV)) (k2 ((by decide):0<1) (k2 ((by decide):1≤8796093022000) (k2 (rfl:false=false) (k2 (⟨rfl,rfl,rfl,nB rfl,nB rfl⟩:3=3∧sub [jI o_1.Time.From,jI o_1.Time.To] 0 2=[jI o_1.Time.From,jI o_1.Time.To]∧1=1∧0+2≤List.length ([jI o_1.Time.From,jI o_1.Time.To]:List AV)∧1≤1) (k2 (⟨rfl,rfl,rfl,nB rfl,nB rfl⟩:3=3∧sub [jI o_1.Time.From,jI o_1.Time.To] 0 2=[jI o_1.Time.From,jI o_1.Time.To]∧1=1∧0+2≤List.length ([jI o_1.Time.From,jI o_1.Time.To]:List AV)∧1≤1) (k2 (rfl:true=true) (k2 (rfl:true=true) (k2 (G3 o_1.Time r34 γ.1.2) (k2 ((eq_false_of_ne_true γ.2):r34=false) (k2 (rfl:false=false) (k2 (rfl:false=false) (k2 (rfl:false=false) (k2 (rfl:false=false) (k2 (rfl:false=false) (k2 (rfl:false=false) (k2 (rfl:true=true) (k2 (rfl:false=false) (k2 (rfl:false=false) (k2 (rfl:false=false) (Gb (rfl:false=false))))))))))))))))))))))))))))))))))))))))))) <|
  .gd (GP .i64 ((↑k9:Int)+1)) <| .run [ow,oc] (fun γ=>Gb γ.2) <|
  .leaf (Sum.inl (k9+1)) [0]))
  (.bd (Jz o_1.Time) fun r45=>.sp (r45=true)
  (.run (cs 4 (oa::oc::tc::(cs 3 (oa::(cs 2 (tc::(cs 8 ((.tr (.frz [.t 0,.t 11] [jI x27.Time.From,jI x27.Time.To] 1))::(cs 8 (bt::(cs 7 (bt::(cs 5 ((.ret none [.any] (.bool r31) [])::bf::(cs 3 (bf::(cs 3 (bf::(cs 11 (bf::(cs 5 (bf::(cs 2 (bf::(cs 2 (bf::(cs 18 (bt::(cs 11 (bf::(cs 5 (bf::(cs 3 ((.tr (.frz [.t 1,.t 14] [jI o_1.Time.From,jI o_1.Time.To] 1))::(cs 8 (bt::(cs 7 (bt::(cs 5 ((.ret none [.any] (.bool r45) [])::bt::(cs 3 ((.op none (.ap 2))::(cs 4 (bf::(cs 3 (bf::(cs 11 (bf::(cs 5 (bf::(cs 2 (bf::(cs 2 (bf::(cs 18 (bt::(cs 11 (bf::(cs 5 (bt::(cs 20 (bf::(cs 3 ((.op none (.ap 2))::(cs 4 (bf::(cs 17 (bf::(cs 5 [bf]))))))))))))))))))))))))))))))))))))))))))))))))))))))))))))))))))))) (fun γ=>k2 (Gp γ.1.1.1.1.1.2) (k2 (Gp γ.1.1.1.1.2) (k2 (⟨rfl,rfl,rfl,nB rfl,nB rfl⟩:2=2∧sub [jI x27.Time.From,jI x27.Time.To] 0 2=[jI x27.Time.From,jI x27.Time.To]∧1=1∧0+2≤List.length ([jI x27.Time.From,jI x27.Time.To]:List AV)∧1≤1) (k2 (⟨rfl,rfl,rfl,nB rfl,nB rfl⟩:2=2∧sub [jI x27.Time.From,jI x27.Time.To] 0 2=[jI x27.Time.From,jI x27.Time.To]∧1=1∧0+2≤List.length ([jI x27.Time.From,jI x27.Time.To]:List AV)∧1≤1) (k2 (rfl:true=true) (k2 (rfl:true=true) (k2 (G3 x27.Time r31 γ.1.1.1.2) (k2 ((eq_false_of_ne_true γ.1.1.2):r31=false) (k2 (rfl:false=false) (k2 (rfl:false=false) (k2 (rfl:false=false) (k2 (rfl:false=false) (k2 (rfl:false=false) (k2 (rfl:false=false) (k2 (rfl:true=true) (k2 (rfl:false=false) (k2 (rfl:false=false) (k2 (⟨rfl,rfl,rfl,nB rfl,nB rfl⟩:3=3∧sub [jI o_1.Time.From,jI o_1.Time.To] 0 2=[jI o_1.Time.From,jI o_1.Time.To]∧1=1∧0+2≤List.length ([jI o_1.Time.From,jI o_1.Time.To]:List AV)∧1≤1) (k2 (⟨rfl,rfl,rfl,nB rfl,nB rfl⟩:3=3∧sub [jI o_1.Time.From,jI o_1.Time.To] 0 2=[jI o_1.Time.From,jI o_1.Time.To]∧1=1∧0+2≤List.length ([jI o_1.Time.From,jI o_1.Time.To]:List AV)∧1≤1) (k2 (rfl:true=true) (k2 (rfl:true=true) (k2 (G3 o_1.Time r45 γ.1.2) (k2 γ.2 (k2 ((nB rfl):0+2≤List.length ([jI o_1.Time.From,jI o_1.Time.To]:List AV)) (k2 ((by decide):0<1) (k2 ((by decide):1≤8796093022000) (k2 (rfl:false=false) (k2 (rfl:false=false) (k2 (rfl:false=false) (k2 (rfl:false=false) (k2 (rfl:false=false) (k2 (rfl:false=false) (k2 (rfl:true=true) (k2 (rfl:false=false) (k2 (rfl:true=true) (k2 (rfl:false=false) (k2 ((nB rfl):0+2≤List.length ([jI o_1.Time.From,jI o_1.Time.To]:List AV)) (k2 ((by decide):0<1) (k2 ((by decide):1≤8796093022000) (k2 (rfl:false=false) (k2 (rfl:false=false) (Gb (rfl:false=false))))))))))))))))))))))))))))))))))))))))))) <|
  .gd (GP .i64 ((↑k9:Int)+1)) <| .run [ow,oc] (fun γ=>Gb γ.2) <|
  .leaf (Sum.inl (k9+1)) [0])
  (.run (cs 4 (oa::oc::tc::(cs 3 (oa::(cs 2 (tc::(cs 8 ((.tr (.frz [.t 0,.t 11] [jI x27.Time.From,jI x27.Time.To] 1))::(cs 8 (bt::(cs 7 (bt::(cs 5 ((.ret none [.any] (.bool r31) [])::bf::(cs 3 (bf::(cs 3 (bf::(cs 11 (bf::(cs 5 (bf::(cs 2 (bf::(cs 2 (bf::(cs 18 (bt::(cs 11 (bf::(cs 5 (bf::(cs 3 ((.tr (.frz [.t 1,.t 14] [jI o_1.Time.From,jI o_1.Time.To] 1))::(cs 8 (bt::(cs 7 (bt::(cs 5 ((.ret none [.any] (.bool r45) [])::bf::(cs 3 (bf::(cs 3 (bf::(cs 11 (bf::(cs 5 (bf::(cs 2 (bf::(cs 2 (bf::(cs 18 (bt::(cs 11 (bf::(cs 5 (bf::(cs 17 (bf::(cs 5 [bf]))))))))))))))))))))))))))))))))))))))))))))))))))))))))))))) (fun γ=>k2 (Gp γ.1.1.1.1.1.2) (k2 (Gp γ.1.1.1.1.2) (k2 (⟨rfl,rfl,rfl,nB rfl,nB rfl⟩:2=2∧sub [jI x27.Time.From,jI x27.Time.To] 0 2=[jI x27.Time.From,jI x27.Time.To]∧1=1∧0+2≤List.length ([jI x27.Time.From,jI x27.Time.To]:List AV)∧1≤1) (k2 (⟨rfl,rfl,rfl,nB rfl,nB rfl⟩:2=2∧sub [jI x27.Time.From,jI x27.Time.To] 0 2=[jI x27.Time.From,jI x27.Time.To]∧1=1∧0+2≤List.length ([jI x27.Time.From,jI x27.Time.To]:List AV)∧1≤1) (k2 (rfl:true=true) (k2 (rfl:true=true) (k2 (G3 x27.Time r31 γ.1.1.1.2) (k2 ((eq_false_of_ne_true γ.1.1.2):r31=false) (k2 (rfl:false=false) (k2 (rfl:false=false) (k2 (rfl:false=false) (k2 (rfl:false=false) (k2 (rfl:false=false) (k2 (rfl:false=false) (k2 (rfl:true=true) (k2 (rfl:false=false) (k2 (rfl:false=false) (k2 (⟨rfl,rfl,rfl,nB rfl,nB rfl⟩:3=3∧sub [jI o_1.Time.From,jI o_1.Time.To] 0 2=[jI o_1.Time.From,jI o_1.Time.To]∧1=1∧0+2≤List.length ([jI o_1.Time.From,jI o_1.Time.To]:List AV)∧1≤1) (k2 (⟨rfl,rfl,rfl,nB rfl,nB rfl⟩:3=3∧sub [jI o_1.Time.From,jI o_1.Time.To] 0 2=[jI o_1.Time.From,jI o_1.Time.To]∧1=1∧0+2≤List.length ([jI o_1.Time.From,jI o_1.Time.To]:List AV)∧1≤1) (k2 (rfl:true=true) (k2 (rfl:true=true) (k2 (G3 o_1.Time r45 γ.1.2) (k2 ((eq_false_of_ne_true γ.2):r45=false) (k2 (rfl:false=false) (k2 (rfl:false=false) (k2 (rfl:false=false) (k2 (rfl:false=false) (k2 (rfl:false=false) (k2 (rfl:false=false) (k2 (rfl:true=true) (k2 (rfl:false=false) (k2 (rfl:false=false) (k2 (rfl:false=false) (Gb (rfl:false=false))))))))))))))))))))))))))))))))))) <|
  .gd (GP .i64 ((↑k9:Int)+1)) <| .run [ow,oc] (fun γ=>Gb γ.2) <|
  .leaf (Sum.inl (k9+1)) [0])))
  (.run (cs 4 (oa::oc::tc::(cs 3 (oa::(cs 2 (oF::(cs 9 [bf]))))))) (fun γ=>k2 (Gp γ.1.2) (k2 (Gw γ.2) (Gb (rfl:false=false)))) <|
  .gd (GP .i64 ((↑k9:Int)+1)) <| .run [ow,oc] (fun γ=>Gb γ.2) <|
  .leaf (Sum.inl (k9+1)) [0]))
  (.run (cs 4 (oa::oc::oF::(cs 16 [bf]))) (fun γ=>k2 (Gw γ.2) (Gb (rfl:false=false))) <|
  .gd (GP .i64 ((↑k9:Int)+1)) <| .run [ow,oc] (fun γ=>Gb γ.2) <|
  .leaf (Sum.inl (k9+1)) [0]))
  (.run [bf] (fun γ=>Gb (dF γ.2)) <|
  .leaf (Sum.inr (Sum.inr (()))) [0])
def HP (l_0:(List Gk)) (o_1:Gk):Nat→Option (Nat⊕(Unit⊕Unit)):=fun s=>(Kh l_0 o_1 s).den
def UX (l_0:(List Gk)) (o_1:Gk):Nat→PS:=fun s=>(37,[(3,.ptr 0 0),(7,.lst (fl Gk.enc l_0) l_0.length),(8,jI (↑l_0.length:Int)),(9,jI (↑s:Int))],[(bT (Gk.enc o_1) 224)])
def Uv:(Unit⊕Unit)→Hm:=fun q=>match q with | Sum.inl o=>.ret | Sum.inr (o)=>(.exit 0)
def UE (l_0:(List Gk)) (o_1:Gk):(Unit⊕Unit)→List (Nat×AV):=fun q=>match q with | Sum.inl o=>[(4,.bool true)] | Sum.inr (o)=>[]
def UB (l_0:(List Gk)) (o_1:Gk):(Unit⊕Unit)→List G6:=fun q=>match q with | Sum.inl o=>[(bT (Gk.enc o_1) 224)] | Sum.inr (o)=>[(bT (Gk.enc o_1) 224)]
theorem Ro (l_0:(List Gk)) (o_1:Gk) {s:Nat} {r:Unit⊕Unit} (h:lp (HP l_0 o_1) s=some r):GI Tryz.prog GT 1 (.loop (GO Tryz.prog 184 [1,0,1,0,0])) (UX l_0 o_1 s).st (Uv r) (PS.st (37,UE l_0 o_1 r,UB l_0 o_1 r)):=
 GI.lp_ht 1 400 (UX l_0 o_1) Uv (fun q=>(37,UE l_0 o_1 q,UB l_0 o_1 q)) (Kh l_0 o_1) (by intro k9; kernel_rfl) h
def Rr (l_0:(List Gk)) (o_1:Gk):HT Bool True:=.run (cs 5 []) (fun _=>He) <|
  .bd (lp (HP l_0 o_1) (0:Nat)) fun qq=>.cs qq (fun o1=>.run [.fcut 1 .ret [(4,.bool true)] [(bT (Gk.enc o_1) 224)] [0] [(3,.any),(7,.any),(8,.any),(9,jI (↑(0:Nat):Int))] [bS]] (fun γ=>k2 (rfl:(jI 0:AV)=jI (↑(0:Nat):Int)) (Gb (Ro l_0 o_1 (s:=(0:Nat)) (r:=Sum.inl o1) (eS γ.1.2 γ.2)))) <|
  .leaf true [])
  (fun o1=>.run [.fcut 1 (.exit 0) [] [(bT (Gk.enc o_1) 224)] [0] [(3,.any),(7,.any),(8,.any),(9,jI (↑(0:Nat):Int))] [bS],oc] (fun γ=>k2 (rfl:(jI 0:AV)=jI (↑(0:Nat):Int)) (Gb (Ro l_0 o_1 (s:=(0:Nat)) (r:=Sum.inr (o1)) (eS γ.1.2 γ.2)))) <|
  .leaf false [])
def KL (l_0:(List Gk)) (o_1:Gk):Option Bool:=(Rr l_0 o_1).den
theorem VG (l_0:(List Gk)) (o_1:Gk) (r:Bool) (h:KL l_0 o_1=some r):G5 Tryz.prog GT 184 [.lst (fl Gk.enc l_0) l_0.length,.agg (Gk.enc o_1)] (.bool r) []:=
 G5.of_ht 400 (Rr l_0 o_1) (fun (r:Bool)=>.bool r) (fun (r:Bool)=>[]) (by kernel_rfl) h
def MO (a_0:Gd):Nat→HT (Nat⊕(Int⊕Unit)) True
 | k26=>.run [oa] (fun _=>He) <|
  .sp ((↑k26:Int)<(↑a_0.Owned.length:Int))
  (.run [bt] (fun γ=>Gb (dT γ.2)) <|
  .bd (a_0.Owned[k26]?) fun x19=>.run (oc::(.op none (.i k26))::(.op none (.v [.str x19.Tag,.str x19.Plate,jI x19.Time.From,jI x19.Time.To]))::(cs 3 [])) (fun γ=>k2 (ir γ.2) (k2 (GC (f:=Gk.enc) (z:=3) (fun _=>rfl) γ.2) (Gb (GU (f:=Gk.enc) (z:=4) (j:=k26) (fun _=>rfl) γ.2 rfl)))) <|
  .bd (RV x19) fun r21=>.run (oc::(.ret none [.any] (jI r21) [])::(cs 2 [oa])) (fun γ=>Gb (GgX x19 r21 γ.2)) <|
  .sp (r21=(0:Int))
  (.run [bf] (fun γ=>Gb (Gs (Gp γ.2))) <|
  .gd (k26≤a_0.Owned.length) <| .bd (KL (List.take k26 a_0.Owned) x19) fun r25=>.run (cs 3 [.op none (.s 0 k26),.trp (.eqt (.t 39) (.lst (fl Gk.enc (List.take k26 a_0.Owned)) ((List.take k26 a_0.Owned).length))),oc,.ret none [.any,.any] (.bool r25) []]) (fun γ=>k2 (rfl:(↑k26:Int)=((k26:Nat):Int)) (k2 (⟨Nat.zero_le _,γ.1.2⟩:0≤k26∧k26≤a_0.Owned.length) (k2 ((VW (Ri (f:=Gk.enc) (z:=4) (fun _=>rfl) _ _) (by rw [List.length_take]; omega)):(.lst (List.take (k26*4) (fl Gk.enc a_0.Owned)) k26:AV)=.lst (fl Gk.enc (List.take k26 a_0.Owned)) ((List.take k26 a_0.Owned).length)) (Gb (VG (List.take k26 a_0.Owned) x19 r25 γ.2))))) <|
  .sp (r25=true)
  (.run [bt,oc] (fun γ=>Gb γ.2) <|
  .leaf (Sum.inr (Sum.inl 9)) [0])
  (.run [bf] (fun γ=>Gb ((eq_false_of_ne_true γ.2):r25=false)) <|
  .gd (GP .i64 ((↑k26:Int)+1)) <| .run [ow,oc] (fun γ=>Gb γ.2) <|
  .leaf (Sum.inl (k26+1)) [0]))
  (.run (bt::(cs 2 [])) (fun γ=>Gb (Gu (Gw γ.2))) <|
  .leaf (Sum.inr (Sum.inl r21)) [0]))
  (.run [bf] (fun γ=>Gb (dF γ.2)) <|
  .leaf (Sum.inr (Sum.inr (()))) [0])
def HY (a_0:Gd):Nat→Option (Nat⊕(Int⊕Unit)):=fun s=>(MO a_0 s).den
def GaT (a_0:Gd):Nat→PS:=fun s=>(43,[(1,.ptr 0 0),(24,.lst (fl Gk.enc a_0.Owned) a_0.Owned.length),(25,jI (↑a_0.Owned.length:Int)),(26,jI (↑s:Int))],[(bT (Gd.enc a_0) 221)])
def GaO:(Int⊕Unit)→Hm:=fun q=>match q with | Sum.inl o=>.ret | Sum.inr (o)=>(.exit 0)
def GaU (a_0:Gd):(Int⊕Unit)→List (Nat×AV):=fun q=>match q with | Sum.inl o=>[(2,jI o)] | Sum.inr (o)=>[]
def Z7 (a_0:Gd):(Int⊕Unit)→List G6:=fun q=>match q with | Sum.inl o=>[(bT (Gd.enc a_0) 221)] | Sum.inr (o)=>[(bT (Gd.enc a_0) 221)]
theorem Ks (a_0:Gd) {s:Nat} {r:Int⊕Unit} (h:lp (HY a_0) s=some r):GI Tryz.prog GT 1 (.loop (GO Tryz.prog 183 [1,1,1,1,0,1,0,0])) (GaT a_0 s).st (GaO r) (PS.st (43,GaU a_0 r,Z7 a_0 r)):=
 GI.lp_ht 1 400 (GaT a_0) GaO (fun q=>(43,GaU a_0 q,Z7 a_0 q)) (MO a_0) (by intro k26; kernel_rfl) h
def Yu (a_0:Gd):HT Int True:=.run (cs 2 []) (fun _=>He) <|
  .bd (HC a_0.Name) fun r1=>.run (cs 2 [.ret none [.any] (.bool r1) [],oc]) (fun γ=>Gb (Ha a_0.Name r1 γ.2)) <|
  .sp (r1=true)
  (.run [bf] (fun γ=>Gb ((Gs γ.2):(!r1)=false)) <|
  .sp (a_0.Agency=[])
  (.run (cs 2 (oa::oc::oF::(cs 4 (bf::(cs 3 [oa]))))) (fun γ=>k2 (Gs (Gp γ.2)) (Gb (rfl:false=false))) <|
  .sp ((↑a_0.Owned.length:Int)>(64:Int))
  (.run [bt,oc] (fun γ=>Gb (dT γ.2)) <|
  .leaf 3 [])
  (.run (bf::(cs 4 [])) (fun γ=>Gb (dF γ.2)) <|
  .bd (lp (HY a_0) (0:Nat)) fun qq=>.cs qq (fun o6=>.run [.fcut 1 .ret [(2,jI o6)] [(bT (Gd.enc a_0) 221)] [0] [(1,.any),(24,.any),(25,.any),(26,jI (↑(0:Nat):Int))] [bS]] (fun γ=>k2 (rfl:(jI 0:AV)=jI (↑(0:Nat):Int)) (Gb (Ks a_0 (s:=(0:Nat)) (r:=Sum.inl o6) (eS γ.1.2 γ.2)))) <|
  .leaf o6 [])
  (fun o6=>.run [.fcut 1 (.exit 0) [] [(bT (Gd.enc a_0) 221)] [0] [(1,.any),(24,.any),(25,.any),(26,jI (↑(0:Nat):Int))] [bS],oc] (fun γ=>k2 (rfl:(jI 0:AV)=jI (↑(0:Nat):Int)) (Gb (Ks a_0 (s:=(0:Nat)) (r:=Sum.inr (o6)) (eS γ.1.2 γ.2)))) <|
  .leaf 0 [])))
  (.bd (HC a_0.Agency) fun r29=>.run (cs 2 (oa::oc::tc::oc::(.ret none [.any] (.bool r29) [])::(cs 2 []))) (fun γ=>k2 (Gu (Gw γ.1.2)) (Gb (Ha a_0.Agency r29 γ.2))) <|
  .sp (r29=true)
  (.run (bf::(cs 3 [oa])) (fun γ=>Gb ((Gs γ.2):(!r29)=false)) <|
  .sp ((↑a_0.Owned.length:Int)>(64:Int))
  (.run [bt,oc] (fun γ=>Gb (dT γ.2)) <|
  .leaf 3 [])
  (.run (bf::(cs 4 [])) (fun γ=>Gb (dF γ.2)) <|
  .bd (lp (HY a_0) (0:Nat)) fun qq=>.cs qq (fun o33=>.run [.fcut 1 .ret [(2,jI o33)] [(bT (Gd.enc a_0) 221)] [0] [(1,.any),(24,.any),(25,.any),(26,jI (↑(0:Nat):Int))] [bS]] (fun γ=>k2 (rfl:(jI 0:AV)=jI (↑(0:Nat):Int)) (Gb (Ks a_0 (s:=(0:Nat)) (r:=Sum.inl o33) (eS γ.1.2 γ.2)))) <|
  .leaf o33 [])
  (fun o33=>.run [.fcut 1 (.exit 0) [] [(bT (Gd.enc a_0) 221)] [0] [(1,.any),(24,.any),(25,.any),(26,jI (↑(0:Nat):Int))] [bS],oc] (fun γ=>k2 (rfl:(jI 0:AV)=jI (↑(0:Nat):Int)) (Gb (Ks a_0 (s:=(0:Nat)) (r:=Sum.inr (o33)) (eS γ.1.2 γ.2)))) <|
  .leaf 0 [])))
  (.run [bt,oc] (fun γ=>Gb ((Gu (eq_false_of_ne_true γ.2)):(!r29)=true)) <|
  .leaf 30 [])))
  (.run [bt,oc] (fun γ=>Gb ((Gu (eq_false_of_ne_true γ.2)):(!r1)=true)) <|
  .leaf 6 [])
def Xk (a_0:Gd):Option Int:=(Yu a_0).den
theorem GjY (a_0:Gd) (r:Int) (h:Xk a_0=some r):G5 Tryz.prog GT 183 [.agg (Gd.enc a_0)] (jI r) []:=
 G5.of_ht 400 (Yu a_0) (fun (r:Int)=>jI r) (fun (r:Int)=>[]) (by kernel_rfl) h
def Ke (l_0:(List Gd)) (k15:Nat) (x53:Gd) (k29:Nat) (x81:Gd):Nat→HT (Nat⊕(Unit⊕Unit)) True
 | k41=>.run [oa] (fun _=>He) <|
  .sp ((↑k41:Int)<(↑x53.Owned.length:Int))
  (.run [bt] (fun γ=>Gb (dT γ.2)) <|
  .bd (x53.Owned[k41]?) fun x93=>.run ((.op none (.i k41))::(.op none (.v [.str x93.Tag,.str x93.Plate,jI x93.Time.From,jI x93.Time.To]))::(cs 2 [])) (fun γ=>k2 (ir γ.2) (k2 (GC (f:=Gk.enc) (z:=3) (fun _=>rfl) γ.2) (Gb (GU (f:=Gk.enc) (z:=4) (j:=k41) (fun _=>rfl) γ.2 rfl)))) <|
  .bd (KL x81.Owned x93) fun r95=>.run (cs 3 [.ret none [.any,.any] (.bool r95) []]) (fun γ=>Gb (VG x81.Owned x93 r95 γ.2)) <|
  .sp (r95=true)
  (.run [bt,oc] (fun γ=>Gb γ.2) <|
  .leaf (Sum.inr (Sum.inl ())) [0,1])
  (.run [bf] (fun γ=>Gb ((eq_false_of_ne_true γ.2):r95=false)) <|
  .gd (GP .i64 ((↑k41:Int)+1)) <| .run [ow,oc] (fun γ=>Gb γ.2) <|
  .leaf (Sum.inl (k41+1)) [0,1]))
  (.run [bf] (fun γ=>Gb (dF γ.2)) <|
  .leaf (Sum.inr (Sum.inr (()))) [0,1])
def HS (l_0:(List Gd)) (k15:Nat) (x53:Gd) (k29:Nat) (x81:Gd):Nat→Option (Nat⊕(Unit⊕Unit)):=fun s=>(Ke l_0 k15 x53 k29 x81 s).den
def UY (l_0:(List Gd)) (k15:Nat) (x53:Gd) (k29:Nat) (x81:Gd):Nat→PS:=fun s=>(52,[(0,.lst (fl Gd.enc l_0) l_0.length),(4,.ptr 0 0),(7,.ptr 1 0),(13,.lst (fl Gd.enc l_0) l_0.length),(14,jI (↑l_0.length:Int)),(15,jI (↑k15:Int)),(27,.lst (fl Gd.enc (List.take k15 l_0)) ((List.take k15 l_0).length)),(28,jI (↑((List.take k15 l_0).length):Int)),(29,jI (↑k29:Int)),(39,.lst (fl Gk.enc x53.Owned) x53.Owned.length),(40,jI (↑x53.Owned.length:Int)),(41,jI (↑s:Int))],[(bT (Gd.enc x53) 221),(bT (Gd.enc x81) 221)])
def UK:(Unit⊕Unit)→Hm:=fun q=>match q with | Sum.inl o=>.ret | Sum.inr (o)=>(.exit 4)
def MF (l_0:(List Gd)) (k15:Nat) (x53:Gd) (k29:Nat) (x81:Gd):(Unit⊕Unit)→List (Nat×AV):=fun q=>match q with | Sum.inl o=>[(2,jI 9)] | Sum.inr (o)=>[(0,.lst (fl Gd.enc l_0) l_0.length),(4,.ptr 0 0),(13,.lst (fl Gd.enc l_0) l_0.length),(14,jI (↑l_0.length:Int)),(15,jI (↑k15:Int)),(27,.lst (fl Gd.enc (List.take k15 l_0)) ((List.take k15 l_0).length)),(28,jI (↑((List.take k15 l_0).length):Int)),(29,jI (↑k29:Int))]
def Kd (l_0:(List Gd)) (k15:Nat) (x53:Gd) (k29:Nat) (x81:Gd):(Unit⊕Unit)→List G6:=fun q=>match q with | Sum.inl o=>[(bT (Gd.enc x53) 221),(bT (Gd.enc x81) 221)] | Sum.inr (o)=>[(bT (Gd.enc x53) 221),(bT (Gd.enc x81) 221)]
theorem Rn (l_0:(List Gd)) (k15:Nat) (x53:Gd) (k29:Nat) (x81:Gd) {s:Nat} {r:Unit⊕Unit} (h:lp (HS l_0 k15 x53 k29 x81) s=some r):GI Tryz.prog GT 2 (.loop (GO Tryz.prog 97 [1,1,0,1,0,0,1,1,0,0,1,1,1,0,0,1,1,0,0,1,1,1,0,0])) (UY l_0 k15 x53 k29 x81 s).st (UK r) (PS.st (52,MF l_0 k15 x53 k29 x81 r,Kd l_0 k15 x53 k29 x81 r)):=
 GI.lp_ht 2 400 (UY l_0 k15 x53 k29 x81) UK (fun q=>(52,MF l_0 k15 x53 k29 x81 q,Kd l_0 k15 x53 k29 x81 q)) (Ke l_0 k15 x53 k29 x81) (by intro k41; kernel_rfl) h
def Kf (l_0:(List Gd)) (k15:Nat) (x53:Gd):Nat→HT (Nat⊕(Unit⊕Unit)) True
 | k29=>.run [oa] (fun _=>He) <|
  .sp ((↑k29:Int)<(↑((List.take k15 l_0).length):Int))
  (.run [bt] (fun γ=>Gb (dT γ.2)) <|
  .bd ((List.take k15 l_0)[k29]?) fun x81=>.run ((.op none (.i k29))::(.op none (.v [.str x81.Name,.str x81.Agency,.bool x81.Prepay,.lst (fl Gk.enc x81.Owned) x81.Owned.length,jI x81.Refill.Below,jI x81.Refill.Cents,jI x81.Refill.Tries,jI x81.Refill.Wait,.bool x81.Exempt]))::(cs 6 [oa])) (fun γ=>k2 (ir γ.2) (k2 (GC (f:=Gd.enc) (z:=8) (fun _=>rfl) γ.2) (Gb (GU (f:=Gd.enc) (z:=9) (j:=k29) (fun _=>rfl) γ.2 rfl)))) <|
  .sp (x81.Name=x53.Name)
  (.run [bt,oc] (fun γ=>Gb (Gp γ.2)) <|
  .leaf (Sum.inr (Sum.inl ())) [0])
  (.run (bf::(cs 4 [])) (fun γ=>Gb (Gw γ.2)) <|
  .bd (lp (HS l_0 k15 x53 k29 x81) (0:Nat)) fun qq=>.cs qq (fun o84=>.run [.fcut 2 .ret [(2,jI 9)] (Kd l_0 k15 x53 k29 x81 (Sum.inl o84)) [0,1] [(0,.any),(4,.any),(7,.any),(13,.any),(14,.any),(15,.any),(27,.any),(28,.any),(29,.any),(39,.any),(40,.any),(41,jI (↑(0:Nat):Int))] [bS,bS]] (fun γ=>k2 (rfl:(jI 0:AV)=jI (↑(0:Nat):Int)) (Gb (Rn l_0 k15 x53 k29 x81 (s:=(0:Nat)) (r:=Sum.inl o84) (eS γ.1.2 γ.2)))) <|
  .leaf (Sum.inr (Sum.inl ())) [0])
  (fun o84=>.run [.fcut 2 (.exit 4) (MF l_0 k15 x53 k29 x81 (Sum.inr (o84))) (Kd l_0 k15 x53 k29 x81 (Sum.inr (o84))) [0,1] [(0,.any),(4,.any),(7,.any),(13,.any),(14,.any),(15,.any),(27,.any),(28,.any),(29,.any),(39,.any),(40,.any),(41,jI (↑(0:Nat):Int))] [bS,bS]] (fun γ=>k2 (rfl:(jI 0:AV)=jI (↑(0:Nat):Int)) (Gb (Rn l_0 k15 x53 k29 x81 (s:=(0:Nat)) (r:=Sum.inr (o84)) (eS γ.1.2 γ.2)))) <|
  .gd (GP .i64 ((↑k29:Int)+1)) <| .run [ow,oc] (fun γ=>Gb γ.2) <|
  .leaf (Sum.inl (k29+1)) [0])))
  (.run [bf] (fun γ=>Gb (dF γ.2)) <|
  .leaf (Sum.inr (Sum.inr (()))) [0])
def HQ (l_0:(List Gd)) (k15:Nat) (x53:Gd):Nat→Option (Nat⊕(Unit⊕Unit)):=fun s=>(Kf l_0 k15 x53 s).den
def Ux (l_0:(List Gd)) (k15:Nat) (x53:Gd):Nat→PS:=fun s=>(52,[(0,.lst (fl Gd.enc l_0) l_0.length),(4,.ptr 0 0),(13,.lst (fl Gd.enc l_0) l_0.length),(14,jI (↑l_0.length:Int)),(15,jI (↑k15:Int)),(27,.lst (fl Gd.enc (List.take k15 l_0)) ((List.take k15 l_0).length)),(28,jI (↑((List.take k15 l_0).length):Int)),(29,jI (↑s:Int))],[(bT (Gd.enc x53) 221)])
def Vg:(Unit⊕Unit)→Hm:=fun q=>match q with | Sum.inl o=>.ret | Sum.inr (o)=>(.exit 2)
def MR (l_0:(List Gd)) (k15:Nat) (x53:Gd):(Unit⊕Unit)→List (Nat×AV):=fun q=>match q with | Sum.inl o=>[(2,jI 9)] | Sum.inr (o)=>[(0,.lst (fl Gd.enc l_0) l_0.length),(13,.lst (fl Gd.enc l_0) l_0.length),(14,jI (↑l_0.length:Int)),(15,jI (↑k15:Int))]
def UQ (l_0:(List Gd)) (k15:Nat) (x53:Gd):(Unit⊕Unit)→List G6:=fun q=>match q with | Sum.inl o=>[(bT (Gd.enc x53) 221)] | Sum.inr (o)=>[(bT (Gd.enc x53) 221)]
theorem Rp (l_0:(List Gd)) (k15:Nat) (x53:Gd) {s:Nat} {r:Unit⊕Unit} (h:lp (HQ l_0 k15 x53) s=some r):GI Tryz.prog GT 1 (.loop (GO Tryz.prog 97 [1,1,0,1,0,0,1,1,0,0,1,1,1,0,0])) (Ux l_0 k15 x53 s).st (Vg r) (PS.st (52,MR l_0 k15 x53 r,UQ l_0 k15 x53 r)):=
 GI.lp_ht 1 400 (Ux l_0 k15 x53) Vg (fun q=>(52,MR l_0 k15 x53 q,UQ l_0 k15 x53 q)) (Kf l_0 k15 x53) (by intro k29; kernel_rfl) h
def Kw (l_0:(List Gd)):Nat→HT (Nat⊕(Int⊕Unit)) True
 | k15=>.run [oa] (fun _=>He) <|
  .sp ((↑k15:Int)<(↑l_0.length:Int))
  (.run [bt] (fun γ=>Gb (dT γ.2)) <|
  .bd (l_0[k15]?) fun x53=>.run (oc::(.op none (.i k15))::(.op none (.v [.str x53.Name,.str x53.Agency,.bool x53.Prepay,.lst (fl Gk.enc x53.Owned) x53.Owned.length,jI x53.Refill.Below,jI x53.Refill.Cents,jI x53.Refill.Tries,jI x53.Refill.Wait,.bool x53.Exempt]))::(cs 3 [])) (fun γ=>k2 (ir γ.2) (k2 (GC (f:=Gd.enc) (z:=8) (fun _=>rfl) γ.2) (Gb (GU (f:=Gd.enc) (z:=9) (j:=k15) (fun _=>rfl) γ.2 rfl)))) <|
  .bd (Xk x53) fun r55=>.run (oc::(.ret none [.any] (jI r55) [])::(cs 2 [oa])) (fun γ=>Gb (GjY x53 r55 γ.2)) <|
  .sp (r55=(0:Int))
  (.run [bf] (fun γ=>Gb (Gs (Gp γ.2))) <|
  .gd (k15≤l_0.length) <| .run (cs 2 ((.op none (.s 0 k15))::(.tr (.eqt (.t 27) (.lst (fl Gd.enc (List.take k15 l_0)) ((List.take k15 l_0).length))))::(cs 2 []))) (fun γ=>k2 (rfl:(↑k15:Int)=((k15:Nat):Int)) (k2 (⟨Nat.zero_le _,γ.2⟩:0≤k15∧k15≤l_0.length) (Gb ((VW (Ri (f:=Gd.enc) (z:=9) (fun _=>rfl) _ _) (by rw [List.length_take]; omega)):(.lst (List.take (k15*9) (fl Gd.enc l_0)) k15:AV)=.lst (fl Gd.enc (List.take k15 l_0)) ((List.take k15 l_0).length))))) <|
  .bd (lp (HQ l_0 k15 x53) (0:Nat)) fun qq=>.cs qq (fun o59=>.run [.fcut 1 .ret [(2,jI 9)] [(bT (Gd.enc x53) 221)] [0] [(0,.any),(4,.any),(13,.any),(14,.any),(15,.any),(27,.any),(28,.any),(29,jI (↑(0:Nat):Int))] [bS]] (fun γ=>k2 (rfl:(jI 0:AV)=jI (↑(0:Nat):Int)) (Gb (Rp l_0 k15 x53 (s:=(0:Nat)) (r:=Sum.inl o59) (eS γ.1.2 γ.2)))) <|
  .leaf (Sum.inr (Sum.inl 9)) [])
  (fun o59=>.run [.fcut 1 (.exit 2) (MR l_0 k15 x53 (Sum.inr (o59))) [(bT (Gd.enc x53) 221)] [0] [(0,.any),(4,.any),(13,.any),(14,.any),(15,.any),(27,.any),(28,.any),(29,jI (↑(0:Nat):Int))] [bS]] (fun γ=>k2 (rfl:(jI 0:AV)=jI (↑(0:Nat):Int)) (Gb (Rp l_0 k15 x53 (s:=(0:Nat)) (r:=Sum.inr (o59)) (eS γ.1.2 γ.2)))) <|
  .gd (GP .i64 ((↑k15:Int)+1)) <| .run [ow,oc] (fun γ=>Gb γ.2) <|
  .leaf (Sum.inl (k15+1)) []))
  (.run (bt::(cs 2 [])) (fun γ=>Gb (Gu (Gw γ.2))) <|
  .leaf (Sum.inr (Sum.inl r55)) []))
  (.run [bf] (fun γ=>Gb (dF γ.2)) <|
  .leaf (Sum.inr (Sum.inr (()))) [])
def HZ (l_0:(List Gd)):Nat→Option (Nat⊕(Int⊕Unit)):=fun s=>(Kw l_0 s).den
def VA (l_0:(List Gd)):Nat→PS:=fun s=>(52,[(0,.lst (fl Gd.enc l_0) l_0.length),(13,.lst (fl Gd.enc l_0) l_0.length),(14,jI (↑l_0.length:Int)),(15,jI (↑s:Int))],[])
def VM:(Int⊕Unit)→Hm:=fun q=>match q with | Sum.inl o=>.ret | Sum.inr (o)=>(.exit 0)
def VK (l_0:(List Gd)):(Int⊕Unit)→List (Nat×AV):=fun q=>match q with | Sum.inl o=>[(2,jI o)] | Sum.inr (o)=>[]
def Vu (l_0:(List Gd)):(Int⊕Unit)→List G6:=fun q=>match q with | Sum.inl o=>[] | Sum.inr (o)=>[]
theorem RE (l_0:(List Gd)) {s:Nat} {r:Int⊕Unit} (h:lp (HZ l_0) s=some r):GI Tryz.prog GT 0 (.loop (GO Tryz.prog 97 [1,1,0,1,0,0])) (VA l_0 s).st (VM r) (PS.st (52,VK l_0 r,Vu l_0 r)):=
 GI.lp_ht 0 400 (VA l_0) VM (fun q=>(52,VK l_0 q,Vu l_0 q)) (Kw l_0) (by intro k15; kernel_rfl) h
def R0 (l_0:(List Gd)):HT Int True:=.run (cs 3 [oa]) (fun _=>He) <|
  .sp ((↑l_0.length:Int)>(1024:Int))
  (.run [bt,oc] (fun γ=>Gb (dT γ.2)) <|
  .leaf 3 [])
  (.run (bf::(cs 3 [])) (fun γ=>Gb (dF γ.2)) <|
  .bd (lp (HZ l_0) (0:Nat)) fun qq=>.cs qq (fun o2=>.run [.fcut 0 .ret [(2,jI o2)] [] [] [(0,.any),(13,.any),(14,.any),(15,jI (↑(0:Nat):Int))] []] (fun γ=>k2 (rfl:(jI 0:AV)=jI (↑(0:Nat):Int)) (Gb (RE l_0 (s:=(0:Nat)) (r:=Sum.inl o2) (eS γ.1.2 γ.2)))) <|
  .leaf o2 [])
  (fun o2=>.run [.fcut 0 (.exit 0) [] [] [] [(0,.any),(13,.any),(14,.any),(15,jI (↑(0:Nat):Int))] [],oc] (fun γ=>k2 (rfl:(jI 0:AV)=jI (↑(0:Nat):Int)) (Gb (RE l_0 (s:=(0:Nat)) (r:=Sum.inr (o2)) (eS γ.1.2 γ.2)))) <|
  .leaf 0 []))
def Mv (l_0:(List Gd)):Option Int:=(R0 l_0).den
theorem QR (l_0:(List Gd)) (r:Int) (h:Mv l_0=some r):G5 Tryz.prog GT 97 [.lst (fl Gd.enc l_0) l_0.length] (jI r) []:=
 G5.of_ht 400 (R0 l_0) (fun (r:Int)=>jI r) (fun (r:Int)=>[]) (by kernel_rfl) h
def Gd8 (o_0:Gk):HT Int True:=.run (cs 4 (oa::(cs 2 [oa,oc]))) (fun _=>He) <|
  .sp ((o_0.Tag==[])=(o_0.Plate==[]))
  (.run [bt,oc] (fun γ=>Gb (Gp γ.2)) <|
  .leaf 1 [])
  (.run [bf] (fun γ=>Gb (Gw γ.2)) <|
  .sp (o_0.Tag=[])
  (.run (cs 2 (oa::oc::oF::(cs 4 (bf::(cs 2 [oa]))))) (fun γ=>k2 (Gs (Gp γ.2)) (Gb (rfl:false=false))) <|
  .sp (o_0.Plate=[])
  (.run [bf] (fun γ=>Gb (Gs (Gp γ.2))) <|
  .bd (Qb o_0.Time) fun r4=>.run (cs 2 [.ret none [.any] (.bool r4) [],oc]) (fun γ=>Gb (HH o_0.Time r4 γ.2)) <|
  .sp (r4=true)
  (.run [bf,oc] (fun γ=>Gb ((Gs γ.2):(!r4)=false)) <|
  .leaf 0 [])
  (.run [bt,oc] (fun γ=>Gb ((Gu (eq_false_of_ne_true γ.2)):(!r4)=true)) <|
  .leaf 12 []))
  (.run [bt] (fun γ=>Gb (Gu (Gw γ.2))) <|
  .bd (ZA o_0.Plate) fun r7=>.run (cs 2 ((.ret none [.any] (.tup [.str r7.1,jI r7.2]) [])::(cs 5 []))) (fun γ=>Gb (Gcu o_0.Plate r7 γ.2)) <|
  .sp (r7.2=(0:Int))
  (.run (oc::oa::oc::oF::(cs 2 [oa,oc])) (fun γ=>Gb (Gs (Gp γ.2))) <|
  .sp (r7.1=o_0.Plate)
  (.run [bf] (fun γ=>Gb (Gs (Gp γ.2))) <|
  .bd (Qb o_0.Time) fun r11=>.run (cs 2 [.ret none [.any] (.bool r11) [],oc]) (fun γ=>Gb (HH o_0.Time r11 γ.2)) <|
  .sp (r11=true)
  (.run [bf,oc] (fun γ=>Gb ((Gs γ.2):(!r11)=false)) <|
  .leaf 0 [])
  (.run [bt,oc] (fun γ=>Gb ((Gu (eq_false_of_ne_true γ.2)):(!r11)=true)) <|
  .leaf 12 []))
  (.run [bt,oc] (fun γ=>Gb (Gu (Gw γ.2))) <|
  .leaf 19 []))
  (.run (oc::oa::oc::tc::(cs 4 [bt,oc])) (fun γ=>k2 (Gu (Gw γ.2)) (Gb (rfl:true=true))) <|
  .leaf 19 [])))
  (.bd (GeM o_0.Tag) fun r14=>.run (cs 2 [oa,oc,tc,oc,.ret none [.any] (jI r14) [],oa,oc]) (fun γ=>k2 (Gu (Gw γ.1.2)) (Gb (Gj4 o_0.Tag r14 γ.2))) <|
  .sp (r14=(0:Int))
  (.run (bf::(cs 2 [oa])) (fun γ=>Gb (Gs (Gp γ.2))) <|
  .sp (o_0.Plate=[])
  (.run [bf] (fun γ=>Gb (Gs (Gp γ.2))) <|
  .bd (Qb o_0.Time) fun r18=>.run (cs 2 [.ret none [.any] (.bool r18) [],oc]) (fun γ=>Gb (HH o_0.Time r18 γ.2)) <|
  .sp (r18=true)
  (.run [bf,oc] (fun γ=>Gb ((Gs γ.2):(!r18)=false)) <|
  .leaf 0 [])
  (.run [bt,oc] (fun γ=>Gb ((Gu (eq_false_of_ne_true γ.2)):(!r18)=true)) <|
  .leaf 12 []))
  (.run [bt] (fun γ=>Gb (Gu (Gw γ.2))) <|
  .bd (ZA o_0.Plate) fun r21=>.run (cs 2 ((.ret none [.any] (.tup [.str r21.1,jI r21.2]) [])::(cs 5 []))) (fun γ=>Gb (Gcu o_0.Plate r21 γ.2)) <|
  .sp (r21.2=(0:Int))
  (.run (oc::oa::oc::oF::(cs 2 [oa,oc])) (fun γ=>Gb (Gs (Gp γ.2))) <|
  .sp (r21.1=o_0.Plate)
  (.run [bf] (fun γ=>Gb (Gs (Gp γ.2))) <|
  .bd (Qb o_0.Time) fun r25=>.run (cs 2 [.ret none [.any] (.bool r25) [],oc]) (fun γ=>Gb (HH o_0.Time r25 γ.2)) <|
  .sp (r25=true)
  (.run [bf,oc] (fun γ=>Gb ((Gs γ.2):(!r25)=false)) <|
  .leaf 0 [])
  (.run [bt,oc] (fun γ=>Gb ((Gu (eq_false_of_ne_true γ.2)):(!r25)=true)) <|
  .leaf 12 []))
  (.run [bt,oc] (fun γ=>Gb (Gu (Gw γ.2))) <|
  .leaf 19 []))
  (.run (oc::oa::oc::tc::(cs 4 [bt,oc])) (fun γ=>k2 (Gu (Gw γ.2)) (Gb (rfl:true=true))) <|
  .leaf 19 [])))
  (.run [bt,oc] (fun γ=>Gb (Gu (Gw γ.2))) <|
  .leaf 18 [])))
def Gec (o_0:Gk):Option Int:=(Gd8 o_0).den
theorem Gmz (o_0:Gk) (r:Int) (h:Gec o_0=some r):G5 Tryz.prog GT 196 [.agg (Gk.enc o_0)] (jI r) []:=
 G5.of_ht 400 (Gd8 o_0) (fun (r:Int)=>jI r) (fun (r:Int)=>[]) (by kernel_rfl) h
def Gch (a_0:Gk) (b_1:Gk):HT Bool True:=.run (cs 3 []) (fun _=>He) <|
  .sp (a_0.Tag=b_1.Tag)
  (.sp (a_0.Plate=b_1.Plate)
  (.bd (Qb a_0.Time) fun r3=>.sp (r3=true)
  (.bd (Qb b_1.Time) fun r6=>.sp (r6=true)
  (.sp (a_0.Time.From<b_1.Time.To)
  (.run (cs 4 (oa::oc::tc::(cs 3 (oa::(cs 2 (tc::oc::(.ret none [.any] (.bool r3) [])::(cs 2 (tc::oc::(.ret none [.any] (.bool r6) [])::(cs 2 (tc::(cs 5 (oa::(cs 2 (tc::(cs 5 (oa::(cs 2 []))))))))))))))))) (fun γ=>k2 (Gp γ.1.1.1.1.1.1.2) (k2 (Gp γ.1.1.1.1.1.2) (k2 (HH a_0.Time r3 γ.1.1.1.1.2) (k2 γ.1.1.1.2 (k2 (HH b_1.Time r6 γ.1.1.2) (k2 γ.1.2 (Gb (dT γ.2)))))))) <|
  .leaf (decide (b_1.Time.From<a_0.Time.To)) [])
  (.run (cs 4 (oa::oc::tc::(cs 3 (oa::(cs 2 (tc::oc::(.ret none [.any] (.bool r3) [])::(cs 2 (tc::oc::(.ret none [.any] (.bool r6) [])::(cs 2 (tc::(cs 5 (oa::(cs 2 (oF::(cs 8 []))))))))))))))) (fun γ=>k2 (Gp γ.1.1.1.1.1.1.2) (k2 (Gp γ.1.1.1.1.1.2) (k2 (HH a_0.Time r3 γ.1.1.1.1.2) (k2 γ.1.1.1.2 (k2 (HH b_1.Time r6 γ.1.1.2) (k2 γ.1.2 (Gb (dF γ.2)))))))) <|
  .leaf false []))
  (.run (cs 4 (oa::oc::tc::(cs 3 (oa::(cs 2 (tc::oc::(.ret none [.any] (.bool r3) [])::(cs 2 (tc::oc::(.ret none [.any] (.bool r6) [])::(cs 2 (oF::(cs 17 []))))))))))) (fun γ=>k2 (Gp γ.1.1.1.1.1.2) (k2 (Gp γ.1.1.1.1.2) (k2 (HH a_0.Time r3 γ.1.1.1.2) (k2 γ.1.1.2 (k2 (HH b_1.Time r6 γ.1.2) (Gb ((eq_false_of_ne_true γ.2):r6=false))))))) <|
  .leaf false []))
  (.run (cs 4 (oa::oc::tc::(cs 3 (oa::(cs 2 (tc::oc::(.ret none [.any] (.bool r3) [])::(cs 2 (oF::(cs 22 []))))))))) (fun γ=>k2 (Gp γ.1.1.1.2) (k2 (Gp γ.1.1.2) (k2 (HH a_0.Time r3 γ.1.2) (Gb ((eq_false_of_ne_true γ.2):r3=false))))) <|
  .leaf false []))
  (.run (cs 4 (oa::oc::tc::(cs 3 (oa::(cs 2 (oF::(cs 27 []))))))) (fun γ=>k2 (Gp γ.1.2) (Gb (Gw γ.2))) <|
  .leaf false []))
  (.run (cs 4 (oa::oc::oF::(cs 34 []))) (fun γ=>Gb (Gw γ.2)) <|
  .leaf false [])
def GbR (a_0:Gk) (b_1:Gk):Option Bool:=(Gch a_0 b_1).den
theorem Gl2 (a_0:Gk) (b_1:Gk) (r:Bool) (h:GbR a_0 b_1=some r):G5 Tryz.prog GT 197 [.agg (Gk.enc a_0),.agg (Gk.enc b_1)] (.bool r) []:=
 G5.of_ht 400 (Gch a_0 b_1) (fun (r:Bool)=>.bool r) (fun (r:Bool)=>[]) (by kernel_rfl) h
def Qp (l_0:(List Gk)) (o_1:Gk):Nat→HT (Nat⊕(Unit⊕Unit)) True
 | k5=>.run (cs 3 [oa]) (fun _=>He) <|
  .sp ((↑k5:Int)<(↑l_0.length:Int))
  (.run [bt] (fun γ=>Gb (dT γ.2)) <|
  .bd (l_0[k5]?) fun x10=>.bd (GbR x10 o_1) fun r12=>.run (cs 2 [.op none (.i k5),.op none (.v [.str x10.Tag,.str x10.Plate,jI x10.Time.From,jI x10.Time.To]),oc,.ret none [.any,.any] (.bool r12) []]) (fun γ=>k2 (ir γ.1.2) (k2 (GC (f:=Gk.enc) (z:=3) (fun _=>rfl) γ.1.2) (k2 (GU (f:=Gk.enc) (z:=4) (j:=k5) (fun _=>rfl) γ.1.2 rfl) (Gb (Gl2 x10 o_1 r12 γ.2))))) <|
  .sp (r12=true)
  (.run [bt,oc] (fun γ=>Gb γ.2) <|
  .leaf (Sum.inr (Sum.inl ())) [0])
  (.run [bf] (fun γ=>Gb ((eq_false_of_ne_true γ.2):r12=false)) <|
  .gd (GP .i64 ((↑k5:Int)+1)) <| .run [oc,ow,oc] (fun γ=>Gb γ.2) <|
  .leaf (Sum.inl (k5+1)) [0]))
  (.run [bf] (fun γ=>Gb (dF γ.2)) <|
  .leaf (Sum.inr (Sum.inr (()))) [0])
def JR (l_0:(List Gk)) (o_1:Gk):Nat→Option (Nat⊕(Unit⊕Unit)):=fun s=>(Qp l_0 o_1 s).den
def GbG (l_0:(List Gk)) (o_1:Gk):Nat→PS:=fun s=>(18,[(0,.lst (fl Gk.enc l_0) l_0.length),(3,.ptr 0 0),(5,jI (↑s:Int))],[(bT (Gk.enc o_1) 224)])
def Gb1:(Unit⊕Unit)→Hm:=fun q=>match q with | Sum.inl o=>.ret | Sum.inr (o)=>(.exit 0)
def GbJ (l_0:(List Gk)) (o_1:Gk):(Unit⊕Unit)→List (Nat×AV):=fun q=>match q with | Sum.inl o=>[(4,.bool true)] | Sum.inr (o)=>[]
def GbM (l_0:(List Gk)) (o_1:Gk):(Unit⊕Unit)→List G6:=fun q=>match q with | Sum.inl o=>[(bT (Gk.enc o_1) 224)] | Sum.inr (o)=>[(bT (Gk.enc o_1) 224)]
theorem X4 (l_0:(List Gk)) (o_1:Gk) {s:Nat} {r:Unit⊕Unit} (h:lp (JR l_0 o_1) s=some r):GI Tryz.prog GT 1 (.loop (GO Tryz.prog 124 [1,0,1,0,0])) (GbG l_0 o_1 s).st (Gb1 r) (PS.st (18,GbJ l_0 o_1 r,GbM l_0 o_1 r)):=
 GI.lp_ht 1 400 (GbG l_0 o_1) Gb1 (fun q=>(18,GbJ l_0 o_1 q,GbM l_0 o_1 q)) (Qp l_0 o_1) (by intro k5; kernel_rfl) h
def Gaj (l_0:(List Gk)) (o_1:Gk):HT Bool True:=.run (cs 3 []) (fun _=>He) <|
  .bd (lp (JR l_0 o_1) (0:Nat)) fun qq=>.cs qq (fun o1=>.run [.fcut 1 .ret [(4,.bool true)] [(bT (Gk.enc o_1) 224)] [0] [(0,.any),(3,.any),(5,jI (↑(0:Nat):Int))] [bS]] (fun γ=>k2 (rfl:(jI 0:AV)=jI (↑(0:Nat):Int)) (Gb (X4 l_0 o_1 (s:=(0:Nat)) (r:=Sum.inl o1) (eS γ.1.2 γ.2)))) <|
  .leaf true [])
  (fun o1=>.run [.fcut 1 (.exit 0) [] [(bT (Gk.enc o_1) 224)] [0] [(0,.any),(3,.any),(5,jI (↑(0:Nat):Int))] [bS],oc] (fun γ=>k2 (rfl:(jI 0:AV)=jI (↑(0:Nat):Int)) (Gb (X4 l_0 o_1 (s:=(0:Nat)) (r:=Sum.inr (o1)) (eS γ.1.2 γ.2)))) <|
  .leaf false [])
def UI (l_0:(List Gk)) (o_1:Gk):Option Bool:=(Gaj l_0 o_1).den
theorem GcO (l_0:(List Gk)) (o_1:Gk) (r:Bool) (h:UI l_0 o_1=some r):G5 Tryz.prog GT 124 [.lst (fl Gk.enc l_0) l_0.length,.agg (Gk.enc o_1)] (.bool r) []:=
 G5.of_ht 400 (Gaj l_0 o_1) (fun (r:Bool)=>.bool r) (fun (r:Bool)=>[]) (by kernel_rfl) h
def Xs (a_0:Gd):Nat→HT (Nat⊕(Int⊕Unit)) True
 | k3=>.run (cs 4 [oa]) (fun _=>He) <|
  .sp ((↑k3:Int)<(↑a_0.Owned.length:Int))
  (.run [bt] (fun γ=>Gb (dT γ.2)) <|
  .bd (a_0.Owned[k3]?) fun x19=>.bd (Gec x19) fun r21=>.run (cs 3 ((.op none (.i k3))::(.op none (.v [.str x19.Tag,.str x19.Plate,jI x19.Time.From,jI x19.Time.To]))::(.ret none [.any] (jI r21) [])::(cs 2 [oa]))) (fun γ=>k2 (ir γ.1.2) (k2 (GC (f:=Gk.enc) (z:=3) (fun _=>rfl) γ.1.2) (k2 (GU (f:=Gk.enc) (z:=4) (j:=k3) (fun _=>rfl) γ.1.2 rfl) (Gb (Gmz x19 r21 γ.2))))) <|
  .sp (r21=(0:Int))
  (.run [bf] (fun γ=>Gb (Gs (Gp γ.2))) <|
  .gd (k3≤a_0.Owned.length) <| .bd (UI (List.take k3 a_0.Owned) x19) fun r25=>.run (cs 3 ((.op none (.s 0 k3))::(.trp (.eqt (.t 41) (.lst (fl Gk.enc (List.take k3 a_0.Owned)) ((List.take k3 a_0.Owned).length))))::(cs 3 [.op none (.i k3),.op none (.v [.str x19.Tag,.str x19.Plate,jI x19.Time.From,jI x19.Time.To]),.ret none [.any,.any] (.bool r25) []]))) (fun γ=>k2 (rfl:(↑k3:Int)=((k3:Nat):Int)) (k2 (⟨Nat.zero_le _,γ.1.2⟩:0≤k3∧k3≤a_0.Owned.length) (k2 ((VW (Ri (f:=Gk.enc) (z:=4) (fun _=>rfl) _ _) (by rw [List.length_take]; omega)):(.lst (List.take (k3*4) (fl Gk.enc a_0.Owned)) k3:AV)=.lst (fl Gk.enc (List.take k3 a_0.Owned)) ((List.take k3 a_0.Owned).length)) (k2 (ir γ.1.1.1.1.2) (k2 (GC (f:=Gk.enc) (z:=3) (fun _=>rfl) γ.1.1.1.1.2) (k2 (GU (f:=Gk.enc) (z:=4) (j:=k3) (fun _=>rfl) γ.1.1.1.1.2 rfl) (Gb (GcO (List.take k3 a_0.Owned) x19 r25 γ.2)))))))) <|
  .sp (r25=true)
  (.run [bt,oc] (fun γ=>Gb γ.2) <|
  .leaf (Sum.inr (Sum.inl 9)) [0])
  (.run [bf] (fun γ=>Gb ((eq_false_of_ne_true γ.2):r25=false)) <|
  .gd (GP .i64 ((↑k3:Int)+1)) <| .run [oc,ow,oc] (fun γ=>Gb γ.2) <|
  .leaf (Sum.inl (k3+1)) [0]))
  (.run (bt::(cs 2 [])) (fun γ=>Gb (Gu (Gw γ.2))) <|
  .leaf (Sum.inr (Sum.inl r21)) [0]))
  (.run [bf] (fun γ=>Gb (dF γ.2)) <|
  .leaf (Sum.inr (Sum.inr (()))) [0])
def Kl (a_0:Gd):Nat→Option (Nat⊕(Int⊕Unit)):=fun s=>(Xs a_0 s).den
def Ghj (a_0:Gd):Nat→PS:=fun s=>(48,[(1,.ptr 0 0),(3,jI (↑s:Int))],[(bT (Gd.enc a_0) 221)])
def GhC:(Int⊕Unit)→Hm:=fun q=>match q with | Sum.inl o=>.ret | Sum.inr (o)=>(.exit 0)
def Ghs (a_0:Gd):(Int⊕Unit)→List (Nat×AV):=fun q=>match q with | Sum.inl o=>[(2,jI o)] | Sum.inr (o)=>[]
def Ght (a_0:Gd):(Int⊕Unit)→List G6:=fun q=>match q with | Sum.inl o=>[(bT (Gd.enc a_0) 221)] | Sum.inr (o)=>[(bT (Gd.enc a_0) 221)]
theorem Q7 (a_0:Gd) {s:Nat} {r:Int⊕Unit} (h:lp (Kl a_0) s=some r):GI Tryz.prog GT 1 (.loop (GO Tryz.prog 123 [1,1,1,1,0,1,0,0])) (Ghj a_0 s).st (GhC r) (PS.st (48,Ghs a_0 r,Ght a_0 r)):=
 GI.lp_ht 1 400 (Ghj a_0) GhC (fun q=>(48,Ghs a_0 q,Ght a_0 q)) (Xs a_0) (by intro k3; kernel_rfl) h
def GiZ (a_0:Gd):HT Int True:=.run (cs 2 []) (fun _=>He) <|
  .bd (Xa a_0.Name) fun r1=>.run (cs 2 [.ret none [.any] (.bool r1) [],oc]) (fun γ=>Gb (Xo a_0.Name r1 γ.2)) <|
  .sp (r1=true)
  (.run [bf] (fun γ=>Gb ((Gs γ.2):(!r1)=false)) <|
  .sp (a_0.Agency=[])
  (.run (cs 2 (oa::oc::oF::(cs 4 (bf::(cs 3 [oa]))))) (fun γ=>k2 (Gs (Gp γ.2)) (Gb (rfl:false=false))) <|
  .sp ((↑a_0.Owned.length:Int)>(64:Int))
  (.run [bt,oc] (fun γ=>Gb (dT γ.2)) <|
  .leaf 3 [])
  (.run [bf,oc] (fun γ=>Gb (dF γ.2)) <|
  .bd (lp (Kl a_0) (0:Nat)) fun qq=>.cs qq (fun o6=>.run [.fcut 1 .ret [(2,jI o6)] [(bT (Gd.enc a_0) 221)] [0] [(1,.any),(3,jI (↑(0:Nat):Int))] [bS]] (fun γ=>k2 (rfl:(jI 0:AV)=jI (↑(0:Nat):Int)) (Gb (Q7 a_0 (s:=(0:Nat)) (r:=Sum.inl o6) (eS γ.1.2 γ.2)))) <|
  .leaf o6 [])
  (fun o6=>.run [.fcut 1 (.exit 0) [] [(bT (Gd.enc a_0) 221)] [0] [(1,.any),(3,jI (↑(0:Nat):Int))] [bS],oc] (fun γ=>k2 (rfl:(jI 0:AV)=jI (↑(0:Nat):Int)) (Gb (Q7 a_0 (s:=(0:Nat)) (r:=Sum.inr (o6)) (eS γ.1.2 γ.2)))) <|
  .leaf 0 [])))
  (.bd (Xa a_0.Agency) fun r29=>.run (cs 2 (oa::oc::tc::oc::(.ret none [.any] (.bool r29) [])::(cs 2 []))) (fun γ=>k2 (Gu (Gw γ.1.2)) (Gb (Xo a_0.Agency r29 γ.2))) <|
  .sp (r29=true)
  (.run (bf::(cs 3 [oa])) (fun γ=>Gb ((Gs γ.2):(!r29)=false)) <|
  .sp ((↑a_0.Owned.length:Int)>(64:Int))
  (.run [bt,oc] (fun γ=>Gb (dT γ.2)) <|
  .leaf 3 [])
  (.run [bf,oc] (fun γ=>Gb (dF γ.2)) <|
  .bd (lp (Kl a_0) (0:Nat)) fun qq=>.cs qq (fun o33=>.run [.fcut 1 .ret [(2,jI o33)] [(bT (Gd.enc a_0) 221)] [0] [(1,.any),(3,jI (↑(0:Nat):Int))] [bS]] (fun γ=>k2 (rfl:(jI 0:AV)=jI (↑(0:Nat):Int)) (Gb (Q7 a_0 (s:=(0:Nat)) (r:=Sum.inl o33) (eS γ.1.2 γ.2)))) <|
  .leaf o33 [])
  (fun o33=>.run [.fcut 1 (.exit 0) [] [(bT (Gd.enc a_0) 221)] [0] [(1,.any),(3,jI (↑(0:Nat):Int))] [bS],oc] (fun γ=>k2 (rfl:(jI 0:AV)=jI (↑(0:Nat):Int)) (Gb (Q7 a_0 (s:=(0:Nat)) (r:=Sum.inr (o33)) (eS γ.1.2 γ.2)))) <|
  .leaf 0 [])))
  (.run [bt,oc] (fun γ=>Gb ((Gu (eq_false_of_ne_true γ.2)):(!r29)=true)) <|
  .leaf 30 [])))
  (.run [bt,oc] (fun γ=>Gb ((Gu (eq_false_of_ne_true γ.2)):(!r1)=true)) <|
  .leaf 6 [])
def GjL (a_0:Gd):Option Int:=(GiZ a_0).den
theorem GpG (a_0:Gd) (r:Int) (h:GjL a_0=some r):G5 Tryz.prog GT 123 [.agg (Gd.enc a_0)] (jI r) []:=
 G5.of_ht 400 (GiZ a_0) (fun (r:Int)=>jI r) (fun (r:Int)=>[]) (by kernel_rfl) h
def MW (l_0:(List Gd)) (k3:Nat) (k5:Nat):Nat→HT (Nat⊕(Unit⊕Unit)) True
 | k6=>.bd (l_0[k3]?) fun x126=>.run (cs 3 [.op none (.i k3),oc,.op none (.v [.lst (fl Gk.enc x126.Owned) x126.Owned.length]),oc,oa]) (fun γ=>k2 (ir γ.2) (k2 (GC (f:=Gd.enc) (z:=8) (fun _=>rfl) γ.2) (Gb (GL (f:=Gd.enc) (z:=9) (j:=k3) (a:=3) (n:=1) (fun _=>rfl) γ.2 (by decide) rfl)))) <|
  .sp ((↑k6:Int)<(↑x126.Owned.length:Int))
  (.run [bt] (fun γ=>Gb (dT γ.2)) <|
  .bd (l_0[k5]?) fun x129=>.bd (x126.Owned[k6]?) fun x131=>.bd (UI x129.Owned x131) fun r133=>.run (cs 2 ((.op none (.i k5))::oc::(.op none (.v [.lst (fl Gk.enc x129.Owned) x129.Owned.length]))::(cs 2 [.op none (.i k3),oc,.op none (.v [.lst (fl Gk.enc x126.Owned) x126.Owned.length]),oc,.op none (.i k6),.op none (.v [.str x131.Tag,.str x131.Plate,jI x131.Time.From,jI x131.Time.To]),.ret none [.any,.any] (.bool r133) []]))) (fun γ=>k2 (ir γ.1.1.2) (k2 (GC (f:=Gd.enc) (z:=8) (fun _=>rfl) γ.1.1.2) (k2 (GL (f:=Gd.enc) (z:=9) (j:=k5) (a:=3) (n:=1) (fun _=>rfl) γ.1.1.2 (by decide) rfl) (k2 (ir γ.1.1.1.1.2) (k2 (GC (f:=Gd.enc) (z:=8) (fun _=>rfl) γ.1.1.1.1.2) (k2 (GL (f:=Gd.enc) (z:=9) (j:=k3) (a:=3) (n:=1) (fun _=>rfl) γ.1.1.1.1.2 (by decide) rfl) (k2 (ir γ.1.2) (k2 (GC (f:=Gk.enc) (z:=3) (fun _=>rfl) γ.1.2) (k2 (GU (f:=Gk.enc) (z:=4) (j:=k6) (fun _=>rfl) γ.1.2 rfl) (Gb (GcO x129.Owned x131 r133 γ.2))))))))))) <|
  .sp (r133=true)
  (.run [bt,oc] (fun γ=>Gb γ.2) <|
  .leaf (Sum.inr (Sum.inl ())) [])
  (.run [bf] (fun γ=>Gb ((eq_false_of_ne_true γ.2):r133=false)) <|
  .gd (GP .i64 ((↑k6:Int)+1)) <| .run [oc,ow,oc] (fun γ=>Gb γ.2) <|
  .leaf (Sum.inl (k6+1)) []))
  (.run [bf] (fun γ=>Gb (dF γ.2)) <|
  .leaf (Sum.inr (Sum.inr (()))) [])
def Jr (l_0:(List Gd)) (k3:Nat) (k5:Nat):Nat→Option (Nat⊕(Unit⊕Unit)):=fun s=>(MW l_0 k3 k5 s).den
def Gae (l_0:(List Gd)) (k3:Nat) (k5:Nat):Nat→PS:=fun s=>(64,[(0,.lst (fl Gd.enc l_0) l_0.length),(3,jI (↑k3:Int)),(5,jI (↑k5:Int)),(6,jI (↑s:Int))],[])
def Gac:(Unit⊕Unit)→Hm:=fun q=>match q with | Sum.inl o=>.ret | Sum.inr (o)=>(.exit 4)
def R5 (l_0:(List Gd)) (k3:Nat) (k5:Nat):(Unit⊕Unit)→List (Nat×AV):=fun q=>match q with | Sum.inl o=>[(2,jI 9)] | Sum.inr (o)=>[(0,.lst (fl Gd.enc l_0) l_0.length),(3,jI (↑k3:Int)),(5,jI (↑k5:Int))]
def ZZ (l_0:(List Gd)) (k3:Nat) (k5:Nat):(Unit⊕Unit)→List G6:=fun q=>match q with | Sum.inl o=>[] | Sum.inr (o)=>[]
theorem VP (l_0:(List Gd)) (k3:Nat) (k5:Nat) {s:Nat} {r:Unit⊕Unit} (h:lp (Jr l_0 k3 k5) s=some r):GI Tryz.prog GT 0 (.loop (GO Tryz.prog 59 [1,1,0,1,0,0,1,0,0,1,1,1,0,0,1,0,0,1,1,0,0])) (Gae l_0 k3 k5 s).st (Gac r) (PS.st (64,R5 l_0 k3 k5 r,ZZ l_0 k3 k5 r)):=
 GI.lp_ht 0 400 (Gae l_0 k3 k5) Gac (fun q=>(64,R5 l_0 k3 k5 q,ZZ l_0 k3 k5 q)) (MW l_0 k3 k5) (by intro k6; kernel_rfl) h
def Qy (l_0:(List Gd)) (k3:Nat):Nat→HT (Nat⊕(Unit⊕Unit)) True
 | k5=>.run (cs 2 [oa]) (fun _=>He) <|
  .sp ((↑k5:Int)<(↑k3:Int))
  (.run [bt] (fun γ=>Gb (dT γ.2)) <|
  .bd (l_0[k5]?) fun x109=>.bd (l_0[k3]?) fun x111=>.run (cs 2 ((.op none (.i k5))::oc::(.op none (.v [.str x109.Name]))::(cs 2 [.op none (.i k3),oc,.op none (.v [.str x111.Name]),oa]))) (fun γ=>k2 (ir γ.1.2) (k2 (GC (f:=Gd.enc) (z:=8) (fun _=>rfl) γ.1.2) (k2 (GL (f:=Gd.enc) (z:=9) (j:=k5) (a:=0) (n:=1) (fun _=>rfl) γ.1.2 (by decide) rfl) (k2 (ir γ.2) (k2 (GC (f:=Gd.enc) (z:=8) (fun _=>rfl) γ.2) (Gb (GL (f:=Gd.enc) (z:=9) (j:=k3) (a:=0) (n:=1) (fun _=>rfl) γ.2 (by decide) rfl))))))) <|
  .sp (x109.Name=x111.Name)
  (.run [bt,oc] (fun γ=>Gb (Gp γ.2)) <|
  .leaf (Sum.inr (Sum.inl ())) [])
  (.run [bf,oc] (fun γ=>Gb (Gw γ.2)) <|
  .bd (lp (Jr l_0 k3 k5) (0:Nat)) fun qq=>.cs qq (fun o114=>.run [.fcut 0 .ret [(2,jI 9)] [] [] [(0,.any),(3,.any),(5,.any),(6,jI (↑(0:Nat):Int))] []] (fun γ=>k2 (rfl:(jI 0:AV)=jI (↑(0:Nat):Int)) (Gb (VP l_0 k3 k5 (s:=(0:Nat)) (r:=Sum.inl o114) (eS γ.1.2 γ.2)))) <|
  .leaf (Sum.inr (Sum.inl ())) [])
  (fun o114=>.run [.fcut 0 (.exit 4) (R5 l_0 k3 k5 (Sum.inr (o114))) [] [] [(0,.any),(3,.any),(5,.any),(6,jI (↑(0:Nat):Int))] []] (fun γ=>k2 (rfl:(jI 0:AV)=jI (↑(0:Nat):Int)) (Gb (VP l_0 k3 k5 (s:=(0:Nat)) (r:=Sum.inr (o114)) (eS γ.1.2 γ.2)))) <|
  .gd (GP .i64 ((↑k5:Int)+1)) <| .run [oc,ow,oc] (fun γ=>Gb γ.2) <|
  .leaf (Sum.inl (k5+1)) [])))
  (.run [bf] (fun γ=>Gb (dF γ.2)) <|
  .leaf (Sum.inr (Sum.inr (()))) [])
def JJ (l_0:(List Gd)) (k3:Nat):Nat→Option (Nat⊕(Unit⊕Unit)):=fun s=>(Qy l_0 k3 s).den
def GbO (l_0:(List Gd)) (k3:Nat):Nat→PS:=fun s=>(64,[(0,.lst (fl Gd.enc l_0) l_0.length),(3,jI (↑k3:Int)),(5,jI (↑s:Int))],[])
def GbX:(Unit⊕Unit)→Hm:=fun q=>match q with | Sum.inl o=>.ret | Sum.inr (o)=>(.exit 2)
def Ut (l_0:(List Gd)) (k3:Nat):(Unit⊕Unit)→List (Nat×AV):=fun q=>match q with | Sum.inl o=>[(2,jI 9)] | Sum.inr (o)=>[(0,.lst (fl Gd.enc l_0) l_0.length),(3,jI (↑k3:Int))]
def Gbn (l_0:(List Gd)) (k3:Nat):(Unit⊕Unit)→List G6:=fun q=>match q with | Sum.inl o=>[] | Sum.inr (o)=>[]
theorem Yg (l_0:(List Gd)) (k3:Nat) {s:Nat} {r:Unit⊕Unit} (h:lp (JJ l_0 k3) s=some r):GI Tryz.prog GT 0 (.loop (GO Tryz.prog 59 [1,1,0,1,0,0,1,0,0,1,1,1,0,0])) (GbO l_0 k3 s).st (GbX r) (PS.st (64,Ut l_0 k3 r,Gbn l_0 k3 r)):=
 GI.lp_ht 0 400 (GbO l_0 k3) GbX (fun q=>(64,Ut l_0 k3 q,Gbn l_0 k3 q)) (Qy l_0 k3) (by intro k5; kernel_rfl) h
def Q3 (l_0:(List Gd)):Nat→HT (Nat⊕(Int⊕Unit)) True
 | k3=>.run (cs 3 [oa]) (fun _=>He) <|
  .sp ((↑k3:Int)<(↑l_0.length:Int))
  (.run [bt] (fun γ=>Gb (dT γ.2)) <|
  .bd (l_0[k3]?) fun x72=>.bd (GjL x72) fun r74=>.run (cs 2 ((.op none (.i k3))::(.op none (.v [.str x72.Name,.str x72.Agency,.bool x72.Prepay,.lst (fl Gk.enc x72.Owned) x72.Owned.length,jI x72.Refill.Below,jI x72.Refill.Cents,jI x72.Refill.Tries,jI x72.Refill.Wait,.bool x72.Exempt]))::(.ret none [.any] (jI r74) [])::(cs 2 [oa]))) (fun γ=>k2 (ir γ.1.2) (k2 (GC (f:=Gd.enc) (z:=8) (fun _=>rfl) γ.1.2) (k2 (GU (f:=Gd.enc) (z:=9) (j:=k3) (fun _=>rfl) γ.1.2 rfl) (Gb (GpG x72 r74 γ.2))))) <|
  .sp (r74=(0:Int))
  (.run [bf,oc] (fun γ=>Gb (Gs (Gp γ.2))) <|
  .bd (lp (JJ l_0 k3) (0:Nat)) fun qq=>.cs qq (fun o77=>.run [.fcut 0 .ret [(2,jI 9)] [] [] [(0,.any),(3,.any),(5,jI (↑(0:Nat):Int))] []] (fun γ=>k2 (rfl:(jI 0:AV)=jI (↑(0:Nat):Int)) (Gb (Yg l_0 k3 (s:=(0:Nat)) (r:=Sum.inl o77) (eS γ.1.2 γ.2)))) <|
  .leaf (Sum.inr (Sum.inl 9)) [])
  (fun o77=>.run [.fcut 0 (.exit 2) (Ut l_0 k3 (Sum.inr (o77))) [] [] [(0,.any),(3,.any),(5,jI (↑(0:Nat):Int))] []] (fun γ=>k2 (rfl:(jI 0:AV)=jI (↑(0:Nat):Int)) (Gb (Yg l_0 k3 (s:=(0:Nat)) (r:=Sum.inr (o77)) (eS γ.1.2 γ.2)))) <|
  .gd (GP .i64 ((↑k3:Int)+1)) <| .run [oc,ow,oc] (fun γ=>Gb γ.2) <|
  .leaf (Sum.inl (k3+1)) []))
  (.run (bt::(cs 2 [])) (fun γ=>Gb (Gu (Gw γ.2))) <|
  .leaf (Sum.inr (Sum.inl r74)) []))
  (.run [bf] (fun γ=>Gb (dF γ.2)) <|
  .leaf (Sum.inr (Sum.inr (()))) [])
def J7 (l_0:(List Gd)):Nat→Option (Nat⊕(Int⊕Unit)):=fun s=>(Q3 l_0 s).den
def Gdr (l_0:(List Gd)):Nat→PS:=fun s=>(64,[(0,.lst (fl Gd.enc l_0) l_0.length),(3,jI (↑s:Int))],[])
def GdB:(Int⊕Unit)→Hm:=fun q=>match q with | Sum.inl o=>.ret | Sum.inr (o)=>(.exit 0)
def GcU (l_0:(List Gd)):(Int⊕Unit)→List (Nat×AV):=fun q=>match q with | Sum.inl o=>[(2,jI o)] | Sum.inr (o)=>[]
def Gdf (l_0:(List Gd)):(Int⊕Unit)→List G6:=fun q=>match q with | Sum.inl o=>[] | Sum.inr (o)=>[]
theorem YR (l_0:(List Gd)) {s:Nat} {r:Int⊕Unit} (h:lp (J7 l_0) s=some r):GI Tryz.prog GT 0 (.loop (GO Tryz.prog 59 [1,1,0,1,0,0])) (Gdr l_0 s).st (GdB r) (PS.st (64,GcU l_0 r,Gdf l_0 r)):=
 GI.lp_ht 0 400 (Gdr l_0) GdB (fun q=>(64,GcU l_0 q,Gdf l_0 q)) (Q3 l_0) (by intro k3; kernel_rfl) h
def Gcm (l_0:(List Gd)):HT Int True:=.run (cs 3 [oa]) (fun _=>He) <|
  .sp ((↑l_0.length:Int)>(1024:Int))
  (.run [bt,oc] (fun γ=>Gb (dT γ.2)) <|
  .leaf 3 [])
  (.run [bf,oc] (fun γ=>Gb (dF γ.2)) <|
  .bd (lp (J7 l_0) (0:Nat)) fun qq=>.cs qq (fun o2=>.run [.fcut 0 .ret [(2,jI o2)] [] [] [(0,.any),(3,jI (↑(0:Nat):Int))] []] (fun γ=>k2 (rfl:(jI 0:AV)=jI (↑(0:Nat):Int)) (Gb (YR l_0 (s:=(0:Nat)) (r:=Sum.inl o2) (eS γ.1.2 γ.2)))) <|
  .leaf o2 [])
  (fun o2=>.run [.fcut 0 (.exit 0) [] [] [] [(0,.any),(3,jI (↑(0:Nat):Int))] [],oc] (fun γ=>k2 (rfl:(jI 0:AV)=jI (↑(0:Nat):Int)) (Gb (YR l_0 (s:=(0:Nat)) (r:=Sum.inr (o2)) (eS γ.1.2 γ.2)))) <|
  .leaf 0 []))
def MD (l_0:(List Gd)):Option Int:=(Gcm l_0).den
theorem RL (l_0:(List Gd)) (r:Int) (h:MD l_0=some r):G5 Tryz.prog GT 59 [.lst (fl Gd.enc l_0) l_0.length] (jI r) []:=
 G5.of_ht 400 (Gcm l_0) (fun (r:Int)=>jI r) (fun (r:Int)=>[]) (by kernel_rfl) h
end
set_option maxHeartbeats 4000000
noncomputable section
def GtR (o:Gk):Int:=
 if (o.Tag=[]↔o.Plate=[]) then 1 else if o.Tag≠[]∧chk o.Tag≠0 then 18 else if o.Plate≠[]∧((plN o.Plate).2≠0∨(plN o.Plate).1≠o.Plate) then 19
 else if Rk o.Time=false then 12 else 0
theorem beqN (a b:List UInt8):((a==[])=(b==[]))↔(a=[]↔b=[]):=by cases a <;> cases b <;> simp
theorem GiN (o:Gk) (h:Ls o.Plate):RV o=some (GtR o):=by
 have hn:=GeC o.Plate (by unfold Ls at h; omega)
 simp only [RV,U5,d1,d2,d3,d4,d5,d6,d7,hn,Gqo,RH,Option.bind_some,beqN,GtR]
 clear hn h
 generalize plN o.Plate=q
 generalize Rk o.Time=w
 generalize chk o.Tag=c
 cases w <;> by_cases h1:o.Tag=[] <;> by_cases h2:o.Plate=[] <;> simp only [h1,h2] <;> grind
theorem Glc (o:Gk) (h:Ls o.Plate):Gec o=some (GtR o):=by
 have hn:=GeD o.Plate (by unfold Ls at h; omega)
 simp only [Gec,Gd8,d1,d2,d3,d4,d5,d6,d7,hn,Got,Ys,Option.bind_some,beqN,GtR]
 clear hn h
 generalize plN o.Plate=q
 generalize Rk o.Time=w
 generalize chk o.Tag=c
 cases w <;> by_cases h1:o.Tag=[] <;> by_cases h2:o.Plate=[] <;> simp only [h1,h2] <;> grind
def R8 (o x:Gk):Bool:=decide (x.Tag=o.Tag∧x.Plate=o.Plate∧Rk x.Time=true∧Rk o.Time=true∧x.Time.From<o.Time.To∧o.Time.From<x.Time.To)
theorem X0 (l:List Gk) (hl:Sm l) (o:Gk):KL l o=some (l.any (R8 o)):=by
 simp only [KL,Rr,d1,d2,d3,d4,d5,d6,d7]
 have key:lp (HP l o) 0=some (HL (if l.any (R8 o) then some () else none)):=by
  rw [← Hj l 0]
  refine GQ (fun k x hx=>?_) ?_
  ·obtain ⟨hk,i1,i2,hkl,h1,h2⟩:=rd hl hx
   simp only [HP,Kh,d1,d2,d3,d4,d5,d6,d7,hx,Option.bind_some,RH,i1,if_true,hkl]
   clear i1 i2 hl
   unfold R8
   by_cases e1:x.Tag=o.Tag
   ·by_cases e2:x.Plate=o.Plate
    ·rcases Hf (Rk x.Time) with e3 | e3 <;> rcases Hf (Rk o.Time) with e4 | e4 <;> simp only [e1,e2,e3,e4,if_true,if_false,Bool.false_eq_true,true_and,false_and,and_false,decide_false,KC]
     have v1:x.Time.From<x.Time.To:=(of_decide_eq_true e3).2.1
     have v2:o.Time.From<o.Time.To:=(of_decide_eq_true e4).2.1
     clear e3 e4
     by_cases c1:x.Time.From<o.Time.From <;> by_cases c2:o.Time.To<x.Time.To <;> simp only [c1,c2,if_true,if_false] <;> grind [KC]
    ·simp only [e1,e2,if_true,if_false,false_and,and_false,decide_false,Bool.false_eq_true,KC]
   ·simp only [e1,if_false,false_and,decide_false,Bool.false_eq_true,KC]
  ·simp only [HP,Kh,d3,d6,d1]
   rw [if_neg (by omega)]
 rw [key]
 cases l.any (R8 o) <;> rfl
theorem Gjf (x o:Gk):GbR x o=some (R8 o x):=by
 simp only [GbR,Gch,d1,d2,d3,d5,d6,Ys,Option.bind_some,R8]
 grind
theorem GaG (l:List Gk) (hl:Sm l) (o:Gk):UI l o=some (l.any (R8 o)):=by
 simp only [UI,Gaj,d1,d2,d3,d4,d5,d6,d7]
 have key:lp (JR l o) 0=some (HL (if l.any (R8 o) then some () else none)):=by
  rw [← Hj l 0]
  refine GQ (fun k x hx=>?_) ?_
  ·obtain ⟨hk,i1,i2,hkl,h1,h2⟩:=rd hl hx
   simp only [JR,Qp,d1,d2,d3,d4,d5,d6,d7,hx,Option.bind_some,Gjf,i1,if_true,hkl]
   cases R8 o x <;> rfl
  ·simp only [JR,Qp,d3,d6,d1]
   rw [if_neg (by omega)]
 rw [key]
 cases l.any (R8 o) <;> rfl
def GsV (l:List Gk) (k:Nat) (x:Gk):Option Int:=if GtR x≠0 then some (GtR x) else if (l.take k).any (R8 x) then some 9 else none
def Gnp (a:Gd):Int:=
 if HE a.Name=false then 6 else if a.Agency≠[]∧HE a.Agency=false then 30 else if a.Owned.length>64 then 3 else (GK (GsV a.Owned) 0 a.Owned).getD 0
def GpR (a:Gd):Prop:=∀ o ∈ a.Owned,Ls o.Plate
theorem Glf (a:Gd) (hs:Sm a.Owned) (ha:GpR a):lp (HY a) 0=some (HL (GK (GsV a.Owned) 0 a.Owned)):=by
 refine GQ (fun k x hx=>?_) ?_
 ·obtain ⟨hk,i1,i2,hkl,h1,h2⟩:=rd hs hx
  have hkl2:k≤a.Owned.length:=by omega
  have hst:Sm (a.Owned.take k):=by unfold Sm at hs ⊢; rw [List.length_take]; omega
  simp only [HY,MO,d1,d2,d3,d4,d5,d6,d7,hx,Option.bind_some,GiN x (ha x (List.mem_of_getElem? hx)),X0 _ hst,i1,if_true,hkl,hkl2,GsV]
  clear i1 i2 hs hst ha
  rcases Hf ((a.Owned.take k).any (R8 x)) with hh | hh <;> simp only [hh,if_true,if_false,Bool.false_eq_true] <;> clear hh <;> grind [KC]
 ·simp only [HY,MO,d3,d6,d1]
  rw [if_neg (by omega)]
theorem Gk2 (a:Gd) (ha:GpR a):Xk a=some (Gnp a):=by
 simp only [Xk,Yu,d1,d2,d3,d4,d5,d6,d7,JF,Option.bind_some,Gnp]
 rcases Hf (HE a.Name) with hn | hn <;> simp only [hn,if_true,if_false,Bool.true_eq_false,Bool.false_eq_true]
 by_cases hl:a.Owned.length>64
 ·rcases Hf (HE a.Agency) with hn | hn <;> simp only [hn] <;> grind
 have key:=Glf a (by show _≤_; omega) ha
 simp only [key,Option.bind_some]
 clear key ha
 rcases Hf (HE a.Agency) with hn | hn <;> cases GK (GsV a.Owned) 0 a.Owned <;> simp only [hn,HL,eN,eM,Option.getD_some,Option.getD_none] <;> grind
theorem GmL (a:Gd) (hs:Sm a.Owned) (ha:GpR a):lp (Kl a) 0=some (HL (GK (GsV a.Owned) 0 a.Owned)):=by
 refine GQ (fun k x hx=>?_) ?_
 ·obtain ⟨hk,i1,i2,hkl,h1,h2⟩:=rd hs hx
  have hkl2:k≤a.Owned.length:=by omega
  have hst:Sm (a.Owned.take k):=by unfold Sm at hs ⊢; rw [List.length_take]; omega
  simp only [Kl,Xs,d1,d2,d3,d4,d5,d6,d7,hx,Option.bind_some,Glc x (ha x (List.mem_of_getElem? hx)),GaG _ hst,i1,if_true,hkl,hkl2,GsV]
  clear i1 i2 hs hst ha
  rcases Hf ((a.Owned.take k).any (R8 x)) with hh | hh <;> simp only [hh,if_true,if_false,Bool.false_eq_true] <;> clear hh <;> grind [KC]
 ·simp only [Kl,Xs,d3,d6,d1]
  rw [if_neg (by omega)]
theorem Gnt (a:Gd) (ha:GpR a):GjL a=some (Gnp a):=by
 simp only [GjL,GiZ,d1,d2,d3,d4,d5,d6,d7,RN,Option.bind_some,Gnp]
 rcases Hf (HE a.Name) with hn | hn <;> simp only [hn,if_true,if_false,Bool.true_eq_false,Bool.false_eq_true]
 by_cases hl:a.Owned.length>64
 ·rcases Hf (HE a.Agency) with hn | hn <;> simp only [hn] <;> grind
 have key:=GmL a (by show _≤_; omega) ha
 simp only [key,Option.bind_some]
 clear key ha
 rcases Hf (HE a.Agency) with hn | hn <;> cases GK (GsV a.Owned) 0 a.Owned <;> simp only [hn,HL,eN,eM,Option.getD_some,Option.getD_none] <;> grind
def GsO (x y:Gd):Bool:=decide (y.Name=x.Name)||x.Owned.any fun o=>y.Owned.any (R8 o)
def Gpk (l:List Gd) (k:Nat) (x:Gd):Option Int:=if Gnp x≠0 then some (Gnp x) else if (l.take k).any (GsO x) then some 9 else none
def GmZ (l:List Gd):Int:=if l.length>1024 then 3 else (GK (Gpk l) 0 l).getD 0
theorem GdY {a:Gd} (h:Gnp a=0):a.Owned.length≤64:=by
 unfold Gnp at h
 grind
theorem GoL {l:List Gd} {k:Nat} {x:Gd} (h:Gpk l k x=none):Gnp x=0:=by unfold Gpk at h; grind
theorem GgZ (l:List Gd) (ha:∀ a ∈ l,GpR a):Mv l=some (GmZ l):=by
 simp only [Mv,R0,d1,d2,d3,d4,d5,d6,d7,GmZ]
 by_cases hl:l.length>1024
 ·rw [if_pos (by omega),if_pos hl]
 rw [if_neg (by omega),if_neg hl]
 have hs:Sm l:=by show _≤_; omega
 have key:lp (HZ l) 0=some (HL (GK (Gpk l) 0 l)):=by
  refine GnH (fun k x hx hb=>?_) ?_
  ·obtain ⟨hk,i1,i2,hkl,h1,h2⟩:=rd hs hx
   have hkl2:k≤l.length:=by omega
   simp only [HZ,Kw,d1,d2,d3,d4,d5,d6,d7,hx,Option.bind_some,Gk2 x (ha x (List.mem_of_getElem? hx)),i1,if_true,hkl,hkl2,Gpk]
   by_cases h0:Gnp x=0
   rotate_left
   ·clear i1 i2 hs hb ha; simp only [h0]; grind [KC]
   have hxo:Sm x.Owned:=by have:=GdY h0; show _≤_; omega
   have hq:lp (HQ l k x) 0=some (HL (if (l.take k).any (GsO x) then some () else none)):=by
    rw [← Hj (l.take k) 0]
    have hst:Sm (l.take k):=by show _≤_; rw [List.length_take]; omega
    refine GQ (fun j y hy=>?_) ?_
    ·obtain ⟨hj,i3,_,hjl,_,_⟩:=rd hst hy
     have hyo:Sm y.Owned:=by
      rw [List.length_take] at hj
      rw [List.getElem?_take,if_pos (by omega)] at hy
      have:=GdY (GoL (hb j y (by omega) hy)); show _≤_; omega
     have hw:lp (HS l k x j y) 0=some (HL (if x.Owned.any (fun o=>y.Owned.any (R8 o)) then some () else none)):=by
      rw [← Hj x.Owned 0]
      refine GQ (fun n o ho=>?_) ?_
      ·obtain ⟨hn,i4,_,hnl,_,_⟩:=rd hxo ho
       simp only [HS,Ke,d1,d2,d3,d4,d5,d6,d7,ho,Option.bind_some,X0 _ hyo,i4,if_true,hnl]
       cases y.Owned.any (R8 o) <;> rfl
      ·simp only [HS,Ke,d3,d6,d1]
       rw [if_neg (by omega)]
     simp only [HQ,Kf,d1,d2,d3,d4,d5,d6,d7,hy,hw,Option.bind_some,i3,if_true,hjl,GsO]
     clear i1 i2 i3 hs hst hw hb ha hyo hxo
     by_cases e:y.Name=x.Name <;> rcases Hf (x.Owned.any fun o=>y.Owned.any (R8 o)) with hh | hh <;> simp only [e,hh,HL,eN,eM,if_true,if_false,Bool.false_eq_true,decide_true,decide_false,Bool.or_true,Bool.or_false,Bool.true_or,Bool.false_or,KC]
    ·simp only [HQ,Kf,d3,d6,d1]
     rw [if_neg (by omega)]
   simp only [hq,h0,Option.bind_some]
   clear i1 i2 hs hq hb ha hxo
   rcases Hf ((l.take k).any (GsO x)) with hh | hh <;> simp only [hh,HL,eN,eM,if_true,if_false,Bool.false_eq_true] <;> clear hh <;> grind [KC]
  ·simp only [HZ,Kw,d3,d6,d1]
   rw [if_neg (by omega)]
 rw [key]
 cases GK (Gpk l) 0 l <;> rfl
theorem GjS (l:List Gd) (ha:∀ a ∈ l,GpR a):MD l=some (GmZ l):=by
 simp only [MD,Gcm,d1,d2,d3,d4,d5,d6,d7,GmZ]
 by_cases hl:l.length>1024
 ·rw [if_pos (by omega),if_pos hl]
 rw [if_neg (by omega),if_neg hl]
 have hs:Sm l:=by show _≤_; omega
 have key:lp (J7 l) 0=some (HL (GK (Gpk l) 0 l)):=by
  refine GnH (fun k x hx hb=>?_) ?_
  ·obtain ⟨hk,i1,i2,hkl,h1,h2⟩:=rd hs hx
   simp only [J7,Q3,d1,d2,d3,d4,d5,d6,d7,hx,Option.bind_some,Gnt x (ha x (List.mem_of_getElem? hx)),i1,if_true,hkl,Gpk]
   by_cases h0:Gnp x=0
   rotate_left
   ·clear i1 i2 hs hb ha; simp only [h0]; grind [KC]
   have hxo:Sm x.Owned:=by have:=GdY h0; show _≤_; omega
   have hq:lp (JJ l k) 0=some (HL (if (l.take k).any (GsO x) then some () else none)):=by
    rw [← Hj (l.take k) 0]
    refine JE (l:=l) (n:=k) (by omega) (fun j y hj hy=>?_) ?_
    ·obtain ⟨_,i3,_,_,_,_⟩:=rd hs hy
     have hjl:(j:Int)<(k:Int):=by omega
     have hyo:Sm y.Owned:=by have:=GdY (GoL (hb j y (by omega) hy)); show _≤_; omega
     have hw:lp (Jr l k j) 0=some (HL (if x.Owned.any (fun o=>y.Owned.any (R8 o)) then some () else none)):=by
      rw [← Hj x.Owned 0]
      refine GQ (fun n o ho=>?_) ?_
      ·obtain ⟨hn,i4,_,hnl,_,_⟩:=rd hxo ho
       simp only [Jr,MW,d1,d2,d3,d4,d5,d6,d7,hx,hy,ho,Option.bind_some,GaG _ hyo,i4,if_true,hnl]
       cases y.Owned.any (R8 o) <;> rfl
      ·simp only [Jr,MW,d3,d5,d6,d1,hx,Option.bind_some]
       rw [if_neg (by omega)]
     simp only [JJ,Qy,d1,d2,d3,d4,d5,d6,d7,hx,hy,hw,Option.bind_some,i3,if_true,hjl,GsO]
     clear i1 i2 i3 hs hw hb ha hyo hxo
     by_cases e:y.Name=x.Name <;> rcases Hf (x.Owned.any fun o=>y.Owned.any (R8 o)) with hh | hh <;> simp only [e,hh,HL,eN,eM,if_true,if_false,Bool.false_eq_true,decide_true,decide_false,Bool.or_true,Bool.or_false,Bool.true_or,Bool.false_or,KC]
    ·simp only [JJ,Qy,d3,d6,d1]
     rw [if_neg (by omega)]
   simp only [hq,h0,Option.bind_some]
   clear i1 i2 hs hq hb ha hxo
   rcases Hf ((l.take k).any (GsO x)) with hh | hh <;> simp only [hh,HL,eN,eM,if_true,if_false,Bool.false_eq_true] <;> clear hh <;> grind [KC]
  ·simp only [J7,Q3,d3,d6,d1]
   rw [if_neg (by omega)]
 rw [key]
 cases GK (Gpk l) 0 l <;> rfl
end
end Go.Proofs.YtnlaiahcemckkaaGreatDoor.Av
