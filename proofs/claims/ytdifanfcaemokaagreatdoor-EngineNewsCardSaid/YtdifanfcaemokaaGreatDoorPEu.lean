import Derived.Test.YtdifanfcaemokaaGreatDoorPEo
import Derived.Test.YtdifanfcaemokaaGreatDoorPEm
open Prod (fst)
open Int (tdiv tmod)
set_option maxHeartbeats 4000000
set_option maxRecDepth 100000
set_option linter.unusedVariables false
set_option linter.unusedSimpArgs false
namespace Go.Proofs.YtdifanfcaemokaaGreatDoor.Av
noncomputable section
open Go Go.Proofs
def VF (o_0:Gn):HT Int True:=.run (cs 4 (oa::(cs 2 [oa,oc]))) (fun _=>Hg) <|
  .sp ((o_0.Tag==[])=(o_0.Plate==[]))
  (.run [bt,oc] (fun γ=>Gb (Gu γ.2)) <|
  .leaf 1 [])
  (.run [bf] (fun γ=>Gb (Gz γ.2)) <|
  .sp (o_0.Tag=[])
  (.run (cs 2 (oa::oc::oF::(cs 4 (bf::(cs 2 [oa]))))) (fun γ=>k2 (Gx (Gu γ.2)) (Gb fF)) <|
  .sp (o_0.Plate=[])
  (.run [bf] (fun γ=>Gb (Gx (Gu γ.2))) <|
  .bd (JQ o_0.Time) fun r4=>.run (cs 2 [rN [.any] (.bool r4) [],oc]) (fun γ=>Gb (G8 o_0.Time r4 γ.2)) <|
  .sp (r4=true)
  (.run [bf,oc] (fun γ=>Gb ((Gx γ.2):(!r4)=false)) <|
  .leaf 0 [])
  (.run [bt,oc] (fun γ=>Gb ((Gy (Ja γ.2)):(!r4)=true)) <|
  .leaf 12 []))
  (.run [bt] (fun γ=>Gb (Gy (Gz γ.2))) <|
  .bd (R0 o_0.Plate) fun r7=>.run (cs 2 ((rN [.any] (.tup [.str r7.1,jI r7.2]) [])::(cs 5 []))) (fun γ=>Gb (Yd o_0.Plate r7 γ.2)) <|
  .sp (r7.2=(0:Int))
  (.run (oc::oa::oc::oF::(cs 2 [oa,oc])) (fun γ=>Gb (Gx (Gu γ.2))) <|
  .sp (r7.1=o_0.Plate)
  (.run [bf] (fun γ=>Gb (Gx (Gu γ.2))) <|
  .bd (JQ o_0.Time) fun r11=>.run (cs 2 [rN [.any] (.bool r11) [],oc]) (fun γ=>Gb (G8 o_0.Time r11 γ.2)) <|
  .sp (r11=true)
  (.run [bf,oc] (fun γ=>Gb ((Gx γ.2):(!r11)=false)) <|
  .leaf 0 [])
  (.run [bt,oc] (fun γ=>Gb ((Gy (Ja γ.2)):(!r11)=true)) <|
  .leaf 12 []))
  (.run [bt,oc] (fun γ=>Gb (Gy (Gz γ.2))) <|
  .leaf 19 []))
  (.run (oc::oa::oc::tc::(cs 4 [bt,oc])) (fun γ=>k2 (Gy (Gz γ.2)) (Gb tT)) <|
  .leaf 19 [])))
  (.bd (Ge0 o_0.Tag) fun r14=>.run (cs 2 [oa,oc,tc,oc,rN [.any] (jI r14) [],oa,oc]) (fun γ=>k2 (Gy (Gz γ.1.2)) (Gb (GjP o_0.Tag r14 γ.2))) <|
  .sp (r14=(0:Int))
  (.run (bf::(cs 2 [oa])) (fun γ=>Gb (Gx (Gu γ.2))) <|
  .sp (o_0.Plate=[])
  (.run [bf] (fun γ=>Gb (Gx (Gu γ.2))) <|
  .bd (JQ o_0.Time) fun r18=>.run (cs 2 [rN [.any] (.bool r18) [],oc]) (fun γ=>Gb (G8 o_0.Time r18 γ.2)) <|
  .sp (r18=true)
  (.run [bf,oc] (fun γ=>Gb ((Gx γ.2):(!r18)=false)) <|
  .leaf 0 [])
  (.run [bt,oc] (fun γ=>Gb ((Gy (Ja γ.2)):(!r18)=true)) <|
  .leaf 12 []))
  (.run [bt] (fun γ=>Gb (Gy (Gz γ.2))) <|
  .bd (R0 o_0.Plate) fun r21=>.run (cs 2 ((rN [.any] (.tup [.str r21.1,jI r21.2]) [])::(cs 5 []))) (fun γ=>Gb (Yd o_0.Plate r21 γ.2)) <|
  .sp (r21.2=(0:Int))
  (.run (oc::oa::oc::oF::(cs 2 [oa,oc])) (fun γ=>Gb (Gx (Gu γ.2))) <|
  .sp (r21.1=o_0.Plate)
  (.run [bf] (fun γ=>Gb (Gx (Gu γ.2))) <|
  .bd (JQ o_0.Time) fun r25=>.run (cs 2 [rN [.any] (.bool r25) [],oc]) (fun γ=>Gb (G8 o_0.Time r25 γ.2)) <|
  .sp (r25=true)
  (.run [bf,oc] (fun γ=>Gb ((Gx γ.2):(!r25)=false)) <|
  .leaf 0 [])
  (.run [bt,oc] (fun γ=>Gb ((Gy (Ja γ.2)):(!r25)=true)) <|
  .leaf 12 []))
  (.run [bt,oc] (fun γ=>Gb (Gy (Gz γ.2))) <|
  .leaf 19 []))
  (.run (oc::oa::oc::tc::(cs 4 [bt,oc])) (fun γ=>k2 (Gy (Gz γ.2)) (Gb tT)) <|
  .leaf 19 [])))
  (.run [bt,oc] (fun γ=>Gb (Gy (Gz γ.2))) <|
  .leaf 18 [])))
def US (o_0:Gn):Option Int:=(VF o_0).den
theorem Giu (o_0:Gn) (r:Int) (h:US o_0=some r):RT 291 [.agg (Gn.enc o_0)] (jI r) []:=
 HA.of_ht 400 (VF o_0) (fun (r:Int)=>jI r) (fun (r:Int)=>[]) (by kernel_rfl) h
def KD (l_0:(List Gn)) (o_1:Gn):Nat→HT (Nat⊕(Unit⊕Unit)) True
 | k9=>.run [oa] (fun _=>Hg) <|
  .sp ((↑k9:Int)<(↑l_0.length:Int))
  (.run [bt] (fun γ=>Gb (dT γ.2)) <|
  .bd (l_0[k9]?) fun x27=>.run ((oN (.i k9))::(oN (.v [.str x27.Tag,.str x27.Plate,jI x27.Time.From,jI x27.Time.To]))::(cs 2 [])) (fun γ=>k2 (ir γ.2) (k2 (GD (f:=Gn.enc) (z:=3) (fun _=>rfl) γ.2) (Gb (GX (f:=Gn.enc) (z:=4) (j:=k9) (fun _=>rfl) γ.2 rfl)))) <|
  .sp (x27.Tag=o_1.Tag)
  (.sp (x27.Plate=o_1.Plate)
  (.bd (JQ x27.Time) fun r31=>.sp (r31=true)
  (.bd (JQ o_1.Time) fun r34=>.sp (r34=true)
  (.bd (some ((if x27.Time.From<o_1.Time.From then o_1.Time.From else x27.Time.From))) fun y37=>.sp (y37<(if o_1.Time.To<x27.Time.To then o_1.Time.To else x27.Time.To))
  (.sp (x27.Time.To<o_1.Time.To)
  (.run (cs 4 (oa::oc::tc::(cs 3 (oa::(cs 2 (tc::(cs 8 ((.tr (.frz [.t 0,.t 11] [jI x27.Time.From,jI x27.Time.To] 1))::(cs 8 (bt::(cs 7 (bt::(cs 5 ((rN [.any] (.bool r31) [])::bt::(cs 3 ((oN (.ap 2))::(cs 4 (bf::(cs 3 (bf::(cs 11 (bf::(cs 5 (bf::(cs 2 (bf::(cs 2 (bf::(cs 18 (bt::(cs 11 (bf::(cs 5 (bt::(cs 20 (bf::(cs 3 ((oN (.ap 2))::(cs 4 (bf::(cs 3 ((.tr (.frz [.t 1,.t 14] [jI o_1.Time.From,jI o_1.Time.To] 1))::(cs 8 (bt::(cs 7 (bt::(cs 5 ((rN [.any] (.bool r34) [])::bt::(cs 3 ((oN (.ap 2))::(cs 4 (bf::(cs 3 (bf::(cs 11 (bf::(cs 5 (bf::(cs 2 (bf::(cs 2 (bf::(cs 18 (bt::(cs 11 (bf::(cs 5 (bt::(cs 20 (bf::(cs 3 ((oN (.ap 2))::(cs 4 (bf::(cs 17 (bt::(cs 10 (oa::(cs 10 (oa::(cs 5 ((.tr (.eqt (.t 51) (jI y37)))::(cs 2 (oa::bt::(cs 3 ((oN (.ap 2))::(cs 11 (oa::bt::(cs 13 (bf::(cs 5 [bt,oc]))))))))))))))))))))))))))))))))))))))))))))))))))))))))))))))))))))))))))))))))))))))))))) (fun γ=>k2 (Gu (yA8 γ)) (k2 (Gu (RB γ)) (k2 (⟨rfl,rfl,rfl,nB rfl,nB rfl⟩:2=2∧sub [jI x27.Time.From,jI x27.Time.To] 0 2=[jI x27.Time.From,jI x27.Time.To]∧1=1∧0+2≤List.length ([jI x27.Time.From,jI x27.Time.To]:List AV)∧1≤1) (k2 (⟨rfl,rfl,rfl,nB rfl,nB rfl⟩:2=2∧sub [jI x27.Time.From,jI x27.Time.To] 0 2=[jI x27.Time.From,jI x27.Time.To]∧1=1∧0+2≤List.length ([jI x27.Time.From,jI x27.Time.To]:List AV)∧1≤1) (k2 tT (k2 tT (k2 (G8 x27.Time r31 (yA6 γ)) (k2 (RA γ) (k2 ((nB rfl):0+2≤List.length ([jI x27.Time.From,jI x27.Time.To]:List AV)) (k2 ((by decide):0<1) (k2 ((by decide):1≤8796093022000) (k2 fF (k2 fF (k2 fF (k2 fF (k2 fF (k2 fF (k2 tT (k2 fF (k2 tT (k2 fF (k2 ((nB rfl):0+2≤List.length ([jI x27.Time.From,jI x27.Time.To]:List AV)) (k2 ((by decide):0<1) (k2 ((by decide):1≤8796093022000) (k2 fF (k2 (⟨rfl,rfl,rfl,nB rfl,nB rfl⟩:3=3∧sub [jI o_1.Time.From,jI o_1.Time.To] 0 2=[jI o_1.Time.From,jI o_1.Time.To]∧1=1∧0+2≤List.length ([jI o_1.Time.From,jI o_1.Time.To]:List AV)∧1≤1) (k2 (⟨rfl,rfl,rfl,nB rfl,nB rfl⟩:3=3∧sub [jI o_1.Time.From,jI o_1.Time.To] 0 2=[jI o_1.Time.From,jI o_1.Time.To]∧1=1∧0+2≤List.length ([jI o_1.Time.From,jI o_1.Time.To]:List AV)∧1≤1) (k2 tT (k2 tT (k2 (G8 o_1.Time r34 (HW γ)) (k2 (G0 γ) (k2 ((nB rfl):0+2≤List.length ([jI o_1.Time.From,jI o_1.Time.To]:List AV)) (k2 ((by decide):0<1) (k2 ((by decide):1≤8796093022000) (k2 fF (k2 fF (k2 fF (k2 fF (k2 fF (k2 fF (k2 tT (k2 fF (k2 tT (k2 fF (k2 ((nB rfl):0+2≤List.length ([jI o_1.Time.From,jI o_1.Time.To]:List AV)) (k2 ((by decide):0<1) (k2 ((by decide):1≤8796093022000) (k2 fF (k2 tT (k2 ((congrArg _ (Option.some.inj γ.1.1.2)):(jI (if x27.Time.From<o_1.Time.From then o_1.Time.From else x27.Time.From):AV)=jI y37) (k2 (dT γ.1.2) (k2 ((nB rfl):0+2≤List.length ([jI (if x27.Time.From<o_1.Time.From then o_1.Time.From else x27.Time.From),jI (if o_1.Time.To<x27.Time.To then o_1.Time.To else x27.Time.To)]:List AV)) (k2 ((by decide):0<1) (k2 ((by decide):1≤8796093022000) (k2 (dT γ.2) (k2 fF (Gb tT))))))))))))))))))))))))))))))))))))))))))))))))))))))))) <|
  .leaf (.inr (.inl ())) [0])
  (.run (cs 4 (oa::oc::tc::(cs 3 (oa::(cs 2 (tc::(cs 8 ((.tr (.frz [.t 0,.t 11] [jI x27.Time.From,jI x27.Time.To] 1))::(cs 8 (bt::(cs 7 (bt::(cs 5 ((rN [.any] (.bool r31) [])::bt::(cs 3 ((oN (.ap 2))::(cs 4 (bf::(cs 3 (bf::(cs 11 (bf::(cs 5 (bf::(cs 2 (bf::(cs 2 (bf::(cs 18 (bt::(cs 11 (bf::(cs 5 (bt::(cs 20 (bf::(cs 3 ((oN (.ap 2))::(cs 4 (bf::(cs 3 ((.tr (.frz [.t 1,.t 14] [jI o_1.Time.From,jI o_1.Time.To] 1))::(cs 8 (bt::(cs 7 (bt::(cs 5 ((rN [.any] (.bool r34) [])::bt::(cs 3 ((oN (.ap 2))::(cs 4 (bf::(cs 3 (bf::(cs 11 (bf::(cs 5 (bf::(cs 2 (bf::(cs 2 (bf::(cs 18 (bt::(cs 11 (bf::(cs 5 (bt::(cs 20 (bf::(cs 3 ((oN (.ap 2))::(cs 4 (bf::(cs 17 (bt::(cs 10 (oa::(cs 10 (oa::(cs 5 ((.tr (.eqt (.t 51) (jI y37)))::(cs 2 (oa::bt::(cs 3 ((oN (.ap 2))::(cs 11 (oa::bf::(cs 13 (bf::(cs 5 [bt,oc]))))))))))))))))))))))))))))))))))))))))))))))))))))))))))))))))))))))))))))))))))))))))))) (fun γ=>k2 (Gu (yA8 γ)) (k2 (Gu (RB γ)) (k2 (⟨rfl,rfl,rfl,nB rfl,nB rfl⟩:2=2∧sub [jI x27.Time.From,jI x27.Time.To] 0 2=[jI x27.Time.From,jI x27.Time.To]∧1=1∧0+2≤List.length ([jI x27.Time.From,jI x27.Time.To]:List AV)∧1≤1) (k2 (⟨rfl,rfl,rfl,nB rfl,nB rfl⟩:2=2∧sub [jI x27.Time.From,jI x27.Time.To] 0 2=[jI x27.Time.From,jI x27.Time.To]∧1=1∧0+2≤List.length ([jI x27.Time.From,jI x27.Time.To]:List AV)∧1≤1) (k2 tT (k2 tT (k2 (G8 x27.Time r31 (yA6 γ)) (k2 (RA γ) (k2 ((nB rfl):0+2≤List.length ([jI x27.Time.From,jI x27.Time.To]:List AV)) (k2 ((by decide):0<1) (k2 ((by decide):1≤8796093022000) (k2 fF (k2 fF (k2 fF (k2 fF (k2 fF (k2 fF (k2 tT (k2 fF (k2 tT (k2 fF (k2 ((nB rfl):0+2≤List.length ([jI x27.Time.From,jI x27.Time.To]:List AV)) (k2 ((by decide):0<1) (k2 ((by decide):1≤8796093022000) (k2 fF (k2 (⟨rfl,rfl,rfl,nB rfl,nB rfl⟩:3=3∧sub [jI o_1.Time.From,jI o_1.Time.To] 0 2=[jI o_1.Time.From,jI o_1.Time.To]∧1=1∧0+2≤List.length ([jI o_1.Time.From,jI o_1.Time.To]:List AV)∧1≤1) (k2 (⟨rfl,rfl,rfl,nB rfl,nB rfl⟩:3=3∧sub [jI o_1.Time.From,jI o_1.Time.To] 0 2=[jI o_1.Time.From,jI o_1.Time.To]∧1=1∧0+2≤List.length ([jI o_1.Time.From,jI o_1.Time.To]:List AV)∧1≤1) (k2 tT (k2 tT (k2 (G8 o_1.Time r34 (HW γ)) (k2 (G0 γ) (k2 ((nB rfl):0+2≤List.length ([jI o_1.Time.From,jI o_1.Time.To]:List AV)) (k2 ((by decide):0<1) (k2 ((by decide):1≤8796093022000) (k2 fF (k2 fF (k2 fF (k2 fF (k2 fF (k2 fF (k2 tT (k2 fF (k2 tT (k2 fF (k2 ((nB rfl):0+2≤List.length ([jI o_1.Time.From,jI o_1.Time.To]:List AV)) (k2 ((by decide):0<1) (k2 ((by decide):1≤8796093022000) (k2 fF (k2 tT (k2 ((congrArg _ (Option.some.inj γ.1.1.2)):(jI (if x27.Time.From<o_1.Time.From then o_1.Time.From else x27.Time.From):AV)=jI y37) (k2 (dT γ.1.2) (k2 ((nB rfl):0+2≤List.length ([jI (if x27.Time.From<o_1.Time.From then o_1.Time.From else x27.Time.From),jI (if o_1.Time.To<x27.Time.To then o_1.Time.To else x27.Time.To)]:List AV)) (k2 ((by decide):0<1) (k2 ((by decide):1≤8796093022000) (k2 (dF γ.2) (k2 fF (Gb tT))))))))))))))))))))))))))))))))))))))))))))))))))))))))) <|
  .leaf (.inr (.inl ())) [0]))
  (.sp (x27.Time.To<o_1.Time.To)
  (.run (cs 4 (oa::oc::tc::(cs 3 (oa::(cs 2 (tc::(cs 8 ((.tr (.frz [.t 0,.t 11] [jI x27.Time.From,jI x27.Time.To] 1))::(cs 8 (bt::(cs 7 (bt::(cs 5 ((rN [.any] (.bool r31) [])::bt::(cs 3 ((oN (.ap 2))::(cs 4 (bf::(cs 3 (bf::(cs 11 (bf::(cs 5 (bf::(cs 2 (bf::(cs 2 (bf::(cs 18 (bt::(cs 11 (bf::(cs 5 (bt::(cs 20 (bf::(cs 3 ((oN (.ap 2))::(cs 4 (bf::(cs 3 ((.tr (.frz [.t 1,.t 14] [jI o_1.Time.From,jI o_1.Time.To] 1))::(cs 8 (bt::(cs 7 (bt::(cs 5 ((rN [.any] (.bool r34) [])::bt::(cs 3 ((oN (.ap 2))::(cs 4 (bf::(cs 3 (bf::(cs 11 (bf::(cs 5 (bf::(cs 2 (bf::(cs 2 (bf::(cs 18 (bt::(cs 11 (bf::(cs 5 (bt::(cs 20 (bf::(cs 3 ((oN (.ap 2))::(cs 4 (bf::(cs 17 (bt::(cs 10 (oa::(cs 10 (oa::(cs 5 ((.tr (.eqt (.t 51) (jI y37)))::(cs 2 (oa::bf::(cs 10 (oa::bt::(cs 13 (bf::(cs 5 [bf]))))))))))))))))))))))))))))))))))))))))))))))))))))))))))))))))))))))))))))))))))))))))) (fun γ=>k2 (Gu (yA8 γ)) (k2 (Gu (RB γ)) (k2 (⟨rfl,rfl,rfl,nB rfl,nB rfl⟩:2=2∧sub [jI x27.Time.From,jI x27.Time.To] 0 2=[jI x27.Time.From,jI x27.Time.To]∧1=1∧0+2≤List.length ([jI x27.Time.From,jI x27.Time.To]:List AV)∧1≤1) (k2 (⟨rfl,rfl,rfl,nB rfl,nB rfl⟩:2=2∧sub [jI x27.Time.From,jI x27.Time.To] 0 2=[jI x27.Time.From,jI x27.Time.To]∧1=1∧0+2≤List.length ([jI x27.Time.From,jI x27.Time.To]:List AV)∧1≤1) (k2 tT (k2 tT (k2 (G8 x27.Time r31 (yA6 γ)) (k2 (RA γ) (k2 ((nB rfl):0+2≤List.length ([jI x27.Time.From,jI x27.Time.To]:List AV)) (k2 ((by decide):0<1) (k2 ((by decide):1≤8796093022000) (k2 fF (k2 fF (k2 fF (k2 fF (k2 fF (k2 fF (k2 tT (k2 fF (k2 tT (k2 fF (k2 ((nB rfl):0+2≤List.length ([jI x27.Time.From,jI x27.Time.To]:List AV)) (k2 ((by decide):0<1) (k2 ((by decide):1≤8796093022000) (k2 fF (k2 (⟨rfl,rfl,rfl,nB rfl,nB rfl⟩:3=3∧sub [jI o_1.Time.From,jI o_1.Time.To] 0 2=[jI o_1.Time.From,jI o_1.Time.To]∧1=1∧0+2≤List.length ([jI o_1.Time.From,jI o_1.Time.To]:List AV)∧1≤1) (k2 (⟨rfl,rfl,rfl,nB rfl,nB rfl⟩:3=3∧sub [jI o_1.Time.From,jI o_1.Time.To] 0 2=[jI o_1.Time.From,jI o_1.Time.To]∧1=1∧0+2≤List.length ([jI o_1.Time.From,jI o_1.Time.To]:List AV)∧1≤1) (k2 tT (k2 tT (k2 (G8 o_1.Time r34 (HW γ)) (k2 (G0 γ) (k2 ((nB rfl):0+2≤List.length ([jI o_1.Time.From,jI o_1.Time.To]:List AV)) (k2 ((by decide):0<1) (k2 ((by decide):1≤8796093022000) (k2 fF (k2 fF (k2 fF (k2 fF (k2 fF (k2 fF (k2 tT (k2 fF (k2 tT (k2 fF (k2 ((nB rfl):0+2≤List.length ([jI o_1.Time.From,jI o_1.Time.To]:List AV)) (k2 ((by decide):0<1) (k2 ((by decide):1≤8796093022000) (k2 fF (k2 tT (k2 ((congrArg _ (Option.some.inj γ.1.1.2)):(jI (if x27.Time.From<o_1.Time.From then o_1.Time.From else x27.Time.From):AV)=jI y37) (k2 (dF γ.1.2) (k2 (dT γ.2) (k2 fF (Gb fF)))))))))))))))))))))))))))))))))))))))))))))))))))))) <|
  .gd (GS .i64 ((↑k9:Int)+1)) <| .run [ow,oc] (fun γ=>Gb γ.2) <|
  .leaf (.inl (k9+1)) [0])
  (.run (cs 4 (oa::oc::tc::(cs 3 (oa::(cs 2 (tc::(cs 8 ((.tr (.frz [.t 0,.t 11] [jI x27.Time.From,jI x27.Time.To] 1))::(cs 8 (bt::(cs 7 (bt::(cs 5 ((rN [.any] (.bool r31) [])::bt::(cs 3 ((oN (.ap 2))::(cs 4 (bf::(cs 3 (bf::(cs 11 (bf::(cs 5 (bf::(cs 2 (bf::(cs 2 (bf::(cs 18 (bt::(cs 11 (bf::(cs 5 (bt::(cs 20 (bf::(cs 3 ((oN (.ap 2))::(cs 4 (bf::(cs 3 ((.tr (.frz [.t 1,.t 14] [jI o_1.Time.From,jI o_1.Time.To] 1))::(cs 8 (bt::(cs 7 (bt::(cs 5 ((rN [.any] (.bool r34) [])::bt::(cs 3 ((oN (.ap 2))::(cs 4 (bf::(cs 3 (bf::(cs 11 (bf::(cs 5 (bf::(cs 2 (bf::(cs 2 (bf::(cs 18 (bt::(cs 11 (bf::(cs 5 (bt::(cs 20 (bf::(cs 3 ((oN (.ap 2))::(cs 4 (bf::(cs 17 (bt::(cs 10 (oa::(cs 10 (oa::(cs 5 ((.tr (.eqt (.t 51) (jI y37)))::(cs 2 (oa::bf::(cs 10 (oa::bf::(cs 13 (bf::(cs 5 [bf]))))))))))))))))))))))))))))))))))))))))))))))))))))))))))))))))))))))))))))))))))))))))) (fun γ=>k2 (Gu (yA8 γ)) (k2 (Gu (RB γ)) (k2 (⟨rfl,rfl,rfl,nB rfl,nB rfl⟩:2=2∧sub [jI x27.Time.From,jI x27.Time.To] 0 2=[jI x27.Time.From,jI x27.Time.To]∧1=1∧0+2≤List.length ([jI x27.Time.From,jI x27.Time.To]:List AV)∧1≤1) (k2 (⟨rfl,rfl,rfl,nB rfl,nB rfl⟩:2=2∧sub [jI x27.Time.From,jI x27.Time.To] 0 2=[jI x27.Time.From,jI x27.Time.To]∧1=1∧0+2≤List.length ([jI x27.Time.From,jI x27.Time.To]:List AV)∧1≤1) (k2 tT (k2 tT (k2 (G8 x27.Time r31 (yA6 γ)) (k2 (RA γ) (k2 ((nB rfl):0+2≤List.length ([jI x27.Time.From,jI x27.Time.To]:List AV)) (k2 ((by decide):0<1) (k2 ((by decide):1≤8796093022000) (k2 fF (k2 fF (k2 fF (k2 fF (k2 fF (k2 fF (k2 tT (k2 fF (k2 tT (k2 fF (k2 ((nB rfl):0+2≤List.length ([jI x27.Time.From,jI x27.Time.To]:List AV)) (k2 ((by decide):0<1) (k2 ((by decide):1≤8796093022000) (k2 fF (k2 (⟨rfl,rfl,rfl,nB rfl,nB rfl⟩:3=3∧sub [jI o_1.Time.From,jI o_1.Time.To] 0 2=[jI o_1.Time.From,jI o_1.Time.To]∧1=1∧0+2≤List.length ([jI o_1.Time.From,jI o_1.Time.To]:List AV)∧1≤1) (k2 (⟨rfl,rfl,rfl,nB rfl,nB rfl⟩:3=3∧sub [jI o_1.Time.From,jI o_1.Time.To] 0 2=[jI o_1.Time.From,jI o_1.Time.To]∧1=1∧0+2≤List.length ([jI o_1.Time.From,jI o_1.Time.To]:List AV)∧1≤1) (k2 tT (k2 tT (k2 (G8 o_1.Time r34 (HW γ)) (k2 (G0 γ) (k2 ((nB rfl):0+2≤List.length ([jI o_1.Time.From,jI o_1.Time.To]:List AV)) (k2 ((by decide):0<1) (k2 ((by decide):1≤8796093022000) (k2 fF (k2 fF (k2 fF (k2 fF (k2 fF (k2 fF (k2 tT (k2 fF (k2 tT (k2 fF (k2 ((nB rfl):0+2≤List.length ([jI o_1.Time.From,jI o_1.Time.To]:List AV)) (k2 ((by decide):0<1) (k2 ((by decide):1≤8796093022000) (k2 fF (k2 tT (k2 ((congrArg _ (Option.some.inj γ.1.1.2)):(jI (if x27.Time.From<o_1.Time.From then o_1.Time.From else x27.Time.From):AV)=jI y37) (k2 (dF γ.1.2) (k2 (dF γ.2) (k2 fF (Gb fF)))))))))))))))))))))))))))))))))))))))))))))))))))))) <|
  .gd (GS .i64 ((↑k9:Int)+1)) <| .run [ow,oc] (fun γ=>Gb γ.2) <|
  .leaf (.inl (k9+1)) [0])))
  (.run (cs 4 (oa::oc::tc::(cs 3 (oa::(cs 2 (tc::(cs 8 ((.tr (.frz [.t 0,.t 11] [jI x27.Time.From,jI x27.Time.To] 1))::(cs 8 (bt::(cs 7 (bt::(cs 5 ((rN [.any] (.bool r31) [])::bt::(cs 3 ((oN (.ap 2))::(cs 4 (bf::(cs 3 (bf::(cs 11 (bf::(cs 5 (bf::(cs 2 (bf::(cs 2 (bf::(cs 18 (bt::(cs 11 (bf::(cs 5 (bt::(cs 20 (bf::(cs 3 ((oN (.ap 2))::(cs 4 (bf::(cs 3 ((.tr (.frz [.t 1,.t 14] [jI o_1.Time.From,jI o_1.Time.To] 1))::(cs 8 (bt::(cs 7 (bt::(cs 5 ((rN [.any] (.bool r34) [])::bf::(cs 3 (bf::(cs 3 (bf::(cs 11 (bf::(cs 5 (bf::(cs 2 (bf::(cs 2 (bf::(cs 18 (bt::(cs 11 (bf::(cs 5 (bf::(cs 17 (bf::(cs 5 [bf]))))))))))))))))))))))))))))))))))))))))))))))))))))))))))))))))))))) (fun γ=>k2 (Gu (RA γ)) (k2 (Gu (HW γ)) (k2 (⟨rfl,rfl,rfl,nB rfl,nB rfl⟩:2=2∧sub [jI x27.Time.From,jI x27.Time.To] 0 2=[jI x27.Time.From,jI x27.Time.To]∧1=1∧0+2≤List.length ([jI x27.Time.From,jI x27.Time.To]:List AV)∧1≤1) (k2 (⟨rfl,rfl,rfl,nB rfl,nB rfl⟩:2=2∧sub [jI x27.Time.From,jI x27.Time.To] 0 2=[jI x27.Time.From,jI x27.Time.To]∧1=1∧0+2≤List.length ([jI x27.Time.From,jI x27.Time.To]:List AV)∧1≤1) (k2 tT (k2 tT (k2 (G8 x27.Time r31 (G0 γ)) (k2 γ.1.1.2 (k2 ((nB rfl):0+2≤List.length ([jI x27.Time.From,jI x27.Time.To]:List AV)) (k2 ((by decide):0<1) (k2 ((by decide):1≤8796093022000) (k2 fF (k2 fF (k2 fF (k2 fF (k2 fF (k2 fF (k2 tT (k2 fF (k2 tT (k2 fF (k2 ((nB rfl):0+2≤List.length ([jI x27.Time.From,jI x27.Time.To]:List AV)) (k2 ((by decide):0<1) (k2 ((by decide):1≤8796093022000) (k2 fF (k2 (⟨rfl,rfl,rfl,nB rfl,nB rfl⟩:3=3∧sub [jI o_1.Time.From,jI o_1.Time.To] 0 2=[jI o_1.Time.From,jI o_1.Time.To]∧1=1∧0+2≤List.length ([jI o_1.Time.From,jI o_1.Time.To]:List AV)∧1≤1) (k2 (⟨rfl,rfl,rfl,nB rfl,nB rfl⟩:3=3∧sub [jI o_1.Time.From,jI o_1.Time.To] 0 2=[jI o_1.Time.From,jI o_1.Time.To]∧1=1∧0+2≤List.length ([jI o_1.Time.From,jI o_1.Time.To]:List AV)∧1≤1) (k2 tT (k2 tT (k2 (G8 o_1.Time r34 γ.1.2) (k2 ((Ja γ.2):r34=false) (k2 fF (k2 fF (k2 fF (k2 fF (k2 fF (k2 fF (k2 tT (k2 fF (k2 fF (k2 fF (Gb fF)))))))))))))))))))))))))))))))))))))))))) <|
  .gd (GS .i64 ((↑k9:Int)+1)) <| .run [ow,oc] (fun γ=>Gb γ.2) <|
  .leaf (.inl (k9+1)) [0]))
  (.bd (JQ o_1.Time) fun r45=>.sp (r45=true)
  (.run (cs 4 (oa::oc::tc::(cs 3 (oa::(cs 2 (tc::(cs 8 ((.tr (.frz [.t 0,.t 11] [jI x27.Time.From,jI x27.Time.To] 1))::(cs 8 (bt::(cs 7 (bt::(cs 5 ((rN [.any] (.bool r31) [])::bf::(cs 3 (bf::(cs 3 (bf::(cs 11 (bf::(cs 5 (bf::(cs 2 (bf::(cs 2 (bf::(cs 18 (bt::(cs 11 (bf::(cs 5 (bf::(cs 3 ((.tr (.frz [.t 1,.t 14] [jI o_1.Time.From,jI o_1.Time.To] 1))::(cs 8 (bt::(cs 7 (bt::(cs 5 ((rN [.any] (.bool r45) [])::bt::(cs 3 ((oN (.ap 2))::(cs 4 (bf::(cs 3 (bf::(cs 11 (bf::(cs 5 (bf::(cs 2 (bf::(cs 2 (bf::(cs 18 (bt::(cs 11 (bf::(cs 5 (bt::(cs 20 (bf::(cs 3 ((oN (.ap 2))::(cs 4 (bf::(cs 17 (bf::(cs 5 [bf]))))))))))))))))))))))))))))))))))))))))))))))))))))))))))))))))))))) (fun γ=>k2 (Gu (RA γ)) (k2 (Gu (HW γ)) (k2 (⟨rfl,rfl,rfl,nB rfl,nB rfl⟩:2=2∧sub [jI x27.Time.From,jI x27.Time.To] 0 2=[jI x27.Time.From,jI x27.Time.To]∧1=1∧0+2≤List.length ([jI x27.Time.From,jI x27.Time.To]:List AV)∧1≤1) (k2 (⟨rfl,rfl,rfl,nB rfl,nB rfl⟩:2=2∧sub [jI x27.Time.From,jI x27.Time.To] 0 2=[jI x27.Time.From,jI x27.Time.To]∧1=1∧0+2≤List.length ([jI x27.Time.From,jI x27.Time.To]:List AV)∧1≤1) (k2 tT (k2 tT (k2 (G8 x27.Time r31 (G0 γ)) (k2 ((Ja γ.1.1.2):r31=false) (k2 fF (k2 fF (k2 fF (k2 fF (k2 fF (k2 fF (k2 tT (k2 fF (k2 fF (k2 (⟨rfl,rfl,rfl,nB rfl,nB rfl⟩:3=3∧sub [jI o_1.Time.From,jI o_1.Time.To] 0 2=[jI o_1.Time.From,jI o_1.Time.To]∧1=1∧0+2≤List.length ([jI o_1.Time.From,jI o_1.Time.To]:List AV)∧1≤1) (k2 (⟨rfl,rfl,rfl,nB rfl,nB rfl⟩:3=3∧sub [jI o_1.Time.From,jI o_1.Time.To] 0 2=[jI o_1.Time.From,jI o_1.Time.To]∧1=1∧0+2≤List.length ([jI o_1.Time.From,jI o_1.Time.To]:List AV)∧1≤1) (k2 tT (k2 tT (k2 (G8 o_1.Time r45 γ.1.2) (k2 γ.2 (k2 ((nB rfl):0+2≤List.length ([jI o_1.Time.From,jI o_1.Time.To]:List AV)) (k2 ((by decide):0<1) (k2 ((by decide):1≤8796093022000) (k2 fF (k2 fF (k2 fF (k2 fF (k2 fF (k2 fF (k2 tT (k2 fF (k2 tT (k2 fF (k2 ((nB rfl):0+2≤List.length ([jI o_1.Time.From,jI o_1.Time.To]:List AV)) (k2 ((by decide):0<1) (k2 ((by decide):1≤8796093022000) (k2 fF (k2 fF (Gb fF)))))))))))))))))))))))))))))))))))))))))) <|
  .gd (GS .i64 ((↑k9:Int)+1)) <| .run [ow,oc] (fun γ=>Gb γ.2) <|
  .leaf (.inl (k9+1)) [0])
  (.run (cs 4 (oa::oc::tc::(cs 3 (oa::(cs 2 (tc::(cs 8 ((.tr (.frz [.t 0,.t 11] [jI x27.Time.From,jI x27.Time.To] 1))::(cs 8 (bt::(cs 7 (bt::(cs 5 ((rN [.any] (.bool r31) [])::bf::(cs 3 (bf::(cs 3 (bf::(cs 11 (bf::(cs 5 (bf::(cs 2 (bf::(cs 2 (bf::(cs 18 (bt::(cs 11 (bf::(cs 5 (bf::(cs 3 ((.tr (.frz [.t 1,.t 14] [jI o_1.Time.From,jI o_1.Time.To] 1))::(cs 8 (bt::(cs 7 (bt::(cs 5 ((rN [.any] (.bool r45) [])::bf::(cs 3 (bf::(cs 3 (bf::(cs 11 (bf::(cs 5 (bf::(cs 2 (bf::(cs 2 (bf::(cs 18 (bt::(cs 11 (bf::(cs 5 (bf::(cs 17 (bf::(cs 5 [bf]))))))))))))))))))))))))))))))))))))))))))))))))))))))))))))) (fun γ=>k2 (Gu (RA γ)) (k2 (Gu (HW γ)) (k2 (⟨rfl,rfl,rfl,nB rfl,nB rfl⟩:2=2∧sub [jI x27.Time.From,jI x27.Time.To] 0 2=[jI x27.Time.From,jI x27.Time.To]∧1=1∧0+2≤List.length ([jI x27.Time.From,jI x27.Time.To]:List AV)∧1≤1) (k2 (⟨rfl,rfl,rfl,nB rfl,nB rfl⟩:2=2∧sub [jI x27.Time.From,jI x27.Time.To] 0 2=[jI x27.Time.From,jI x27.Time.To]∧1=1∧0+2≤List.length ([jI x27.Time.From,jI x27.Time.To]:List AV)∧1≤1) (k2 tT (k2 tT (k2 (G8 x27.Time r31 (G0 γ)) (k2 ((Ja γ.1.1.2):r31=false) (k2 fF (k2 fF (k2 fF (k2 fF (k2 fF (k2 fF (k2 tT (k2 fF (k2 fF (k2 (⟨rfl,rfl,rfl,nB rfl,nB rfl⟩:3=3∧sub [jI o_1.Time.From,jI o_1.Time.To] 0 2=[jI o_1.Time.From,jI o_1.Time.To]∧1=1∧0+2≤List.length ([jI o_1.Time.From,jI o_1.Time.To]:List AV)∧1≤1) (k2 (⟨rfl,rfl,rfl,nB rfl,nB rfl⟩:3=3∧sub [jI o_1.Time.From,jI o_1.Time.To] 0 2=[jI o_1.Time.From,jI o_1.Time.To]∧1=1∧0+2≤List.length ([jI o_1.Time.From,jI o_1.Time.To]:List AV)∧1≤1) (k2 tT (k2 tT (k2 (G8 o_1.Time r45 γ.1.2) (k2 ((Ja γ.2):r45=false) (k2 fF (k2 fF (k2 fF (k2 fF (k2 fF (k2 fF (k2 tT (k2 fF (k2 fF (k2 fF (Gb fF)))))))))))))))))))))))))))))))))) <|
  .gd (GS .i64 ((↑k9:Int)+1)) <| .run [ow,oc] (fun γ=>Gb γ.2) <|
  .leaf (.inl (k9+1)) [0])))
  (.run (cs 4 (oa::oc::tc::(cs 3 (oa::(cs 2 (oF::(cs 9 [bf]))))))) (fun γ=>k2 (Gu γ.1.2) (k2 (Gz γ.2) (Gb fF))) <|
  .gd (GS .i64 ((↑k9:Int)+1)) <| .run [ow,oc] (fun γ=>Gb γ.2) <|
  .leaf (.inl (k9+1)) [0]))
  (.run (cs 4 (oa::oc::oF::(cs 16 [bf]))) (fun γ=>k2 (Gz γ.2) (Gb fF)) <|
  .gd (GS .i64 ((↑k9:Int)+1)) <| .run [ow,oc] (fun γ=>Gb γ.2) <|
  .leaf (.inl (k9+1)) [0]))
  (.run [bf] (fun γ=>Gb (dF γ.2)) <|
  .leaf (.inr (.inr (()))) [0])
def H8 (l_0:(List Gn)) (o_1:Gn):Nat→Option (Nat⊕(Unit⊕Unit)):=fun s=>(KD l_0 o_1 s).den
def VC (l_0:(List Gn)) (o_1:Gn):Nat→PS:=fun s=>(37,[(3,.ptr 0 0),(7,.lst (fl Gn.enc l_0) l_0.length),(8,jI (↑l_0.length:Int)),(9,jI (↑s:Int))],[(bT (Gn.enc o_1) 201)])
def VE:(Unit⊕Unit)→Hm:=fun q=>match q with | Sum.inl o=>.ret | Sum.inr (o)=>(.exit 0)
def VD (l_0:(List Gn)) (o_1:Gn):(Unit⊕Unit)→List (Nat×AV):=fun q=>match q with | Sum.inl o=>[(4,.bool true)] | Sum.inr (o)=>[]
def VB (l_0:(List Gn)) (o_1:Gn):(Unit⊕Unit)→List Hb:=fun _=>[(bT (Gn.enc o_1) 201)]
theorem R8 (l_0:(List Gn)) (o_1:Gn) {s:Nat} {r:Unit⊕Unit} (h:lp (H8 l_0 o_1) s=some r):DT 1 (.loop (GK Tryz.prog 223 [1,0,1,0,0])) (VC l_0 o_1 s).st (VE r) (PS.st (37,VD l_0 o_1 r,VB l_0 o_1 r)):=
 GN.lp_ht 1 400 (VC l_0 o_1) VE (fun q=>(37,VD l_0 o_1 q,VB l_0 o_1 q)) (KD l_0 o_1) (by intro k9; kernel_rfl) h
def Ud (l_0:(List Gn)) (o_1:Gn):HT Bool True:=.run (cs 5 []) (fun _=>Hg) <|
  .bd (lp (H8 l_0 o_1) (0:Nat)) fun qq=>.cs qq (fun o1=>.run [.fcut 1 .ret [(4,.bool true)] [(bT (Gn.enc o_1) 201)] [0] [(3,.any),(7,.any),(8,.any),(9,jI (↑(0:Nat):Int))] [bS]] (fun γ=>k2 (rfl:(jI 0:AV)=jI (↑(0:Nat):Int)) (Gb (R8 l_0 o_1 (s:=(0:Nat)) (r:=Sum.inl o1) (eS γ.1.2 γ.2)))) <|
  .leaf true [])
  (fun o1=>.run [.fcut 1 (.exit 0) [] [(bT (Gn.enc o_1) 201)] [0] [(3,.any),(7,.any),(8,.any),(9,jI (↑(0:Nat):Int))] [bS],oc] (fun γ=>k2 (rfl:(jI 0:AV)=jI (↑(0:Nat):Int)) (Gb (R8 l_0 o_1 (s:=(0:Nat)) (r:=Sum.inr (o1)) (eS γ.1.2 γ.2)))) <|
  .leaf false [])
def K4 (l_0:(List Gn)) (o_1:Gn):Option Bool:=(Ud l_0 o_1).den
theorem XE (l_0:(List Gn)) (o_1:Gn) (r:Bool) (h:K4 l_0 o_1=some r):RT 223 [.lst (fl Gn.enc l_0) l_0.length,.agg (Gn.enc o_1)] (.bool r) []:=
 HA.of_ht 400 (Ud l_0 o_1) (fun (r:Bool)=>.bool r) (fun (r:Bool)=>[]) (by kernel_rfl) h
def M5 (a_0:Gc):Nat→HT (Nat⊕(Int⊕Unit)) True
 | k26=>.run [oa] (fun _=>Hg) <|
  .sp ((↑k26:Int)<(↑a_0.Owned.length:Int))
  (.run [bt] (fun γ=>Gb (dT γ.2)) <|
  .bd (a_0.Owned[k26]?) fun x19=>.run (oc::(oN (.i k26))::(oN (.v [.str x19.Tag,.str x19.Plate,jI x19.Time.From,jI x19.Time.To]))::(cs 3 [])) (fun γ=>k2 (ir γ.2) (k2 (GD (f:=Gn.enc) (z:=3) (fun _=>rfl) γ.2) (Gb (GX (f:=Gn.enc) (z:=4) (j:=k26) (fun _=>rfl) γ.2 rfl)))) <|
  .bd (US x19) fun r21=>.run (oc::(rN [.any] (jI r21) [])::(cs 2 [oa])) (fun γ=>Gb (Giu x19 r21 γ.2)) <|
  .sp (r21=(0:Int))
  (.run [bf] (fun γ=>Gb (Gx (Gu γ.2))) <|
  .gd (k26≤a_0.Owned.length) <| .bd (K4 (List.take k26 a_0.Owned) x19) fun r25=>.run (cs 3 [oN (.s 0 k26),.trp (.eqt (.t 39) (.lst (fl Gn.enc (List.take k26 a_0.Owned)) ((List.take k26 a_0.Owned).length))),oc,rN [.any,.any] (.bool r25) []]) (fun γ=>k2 (rfl:(↑k26:Int)=((k26:Nat):Int)) (k2 (⟨Nat.zero_le _,γ.1.2⟩:0≤k26∧k26≤a_0.Owned.length) (k2 ((Ya (RS (f:=Gn.enc) (z:=4) (fun _=>rfl) _ _) (by rw [List.length_take]; omega)):(.lst (List.take (k26*4) (fl Gn.enc a_0.Owned)) k26:AV)=.lst (fl Gn.enc (List.take k26 a_0.Owned)) ((List.take k26 a_0.Owned).length)) (Gb (XE (List.take k26 a_0.Owned) x19 r25 γ.2))))) <|
  .sp (r25=true)
  (.run [bt,oc] (fun γ=>Gb γ.2) <|
  .leaf (.inr (.inl 9)) [0])
  (.run [bf] (fun γ=>Gb ((Ja γ.2):r25=false)) <|
  .gd (GS .i64 ((↑k26:Int)+1)) <| .run [ow,oc] (fun γ=>Gb γ.2) <|
  .leaf (.inl (k26+1)) [0]))
  (.run (bt::(cs 2 [])) (fun γ=>Gb (Gy (Gz γ.2))) <|
  .leaf (.inr (.inl r21)) [0]))
  (.run [bf] (fun γ=>Gb (dF γ.2)) <|
  .leaf (.inr (.inr (()))) [0])
def Jd (a_0:Gc):Nat→Option (Nat⊕(Int⊕Unit)):=fun s=>(M5 a_0 s).den
def GaU (a_0:Gc):Nat→PS:=fun s=>(43,[(1,.ptr 0 0),(24,.lst (fl Gn.enc a_0.Owned) a_0.Owned.length),(25,jI (↑a_0.Owned.length:Int)),(26,jI (↑s:Int))],[(bT (Gc.enc a_0) 95)])
def GaW:(Int⊕Unit)→Hm:=fun q=>match q with | Sum.inl o=>.ret | Sum.inr (o)=>(.exit 0)
def GaV (a_0:Gc):(Int⊕Unit)→List (Nat×AV):=fun q=>match q with | Sum.inl o=>[(2,jI o)] | Sum.inr (o)=>[]
def GaT (a_0:Gc):(Int⊕Unit)→List Hb:=fun _=>[(bT (Gc.enc a_0) 95)]
theorem KS (a_0:Gc) {s:Nat} {r:Int⊕Unit} (h:lp (Jd a_0) s=some r):DT 1 (.loop (GK Tryz.prog 222 [1,1,1,1,0,1,0,0])) (GaU a_0 s).st (GaW r) (PS.st (43,GaV a_0 r,GaT a_0 r)):=
 GN.lp_ht 1 400 (GaU a_0) GaW (fun q=>(43,GaV a_0 q,GaT a_0 q)) (M5 a_0) (by intro k26; kernel_rfl) h
def Zt (a_0:Gc):HT Int True:=.run (cs 2 []) (fun _=>Hg) <|
  .bd (HS a_0.Name) fun r1=>.run (cs 2 [rN [.any] (.bool r1) [],oc]) (fun γ=>Gb (Hh a_0.Name r1 γ.2)) <|
  .sp (r1=true)
  (.run [bf] (fun γ=>Gb ((Gx γ.2):(!r1)=false)) <|
  .sp (a_0.Agency=[])
  (.run (cs 2 (oa::oc::oF::(cs 4 (bf::(cs 3 [oa]))))) (fun γ=>k2 (Gx (Gu γ.2)) (Gb fF)) <|
  .sp ((↑a_0.Owned.length:Int)>(64:Int))
  (.run [bt,oc] (fun γ=>Gb (dT γ.2)) <|
  .leaf 3 [])
  (.run (bf::(cs 4 [])) (fun γ=>Gb (dF γ.2)) <|
  .bd (lp (Jd a_0) (0:Nat)) fun qq=>.cs qq (fun o6=>.run [.fcut 1 .ret [(2,jI o6)] [(bT (Gc.enc a_0) 95)] [0] [(1,.any),(24,.any),(25,.any),(26,jI (↑(0:Nat):Int))] [bS]] (fun γ=>k2 (rfl:(jI 0:AV)=jI (↑(0:Nat):Int)) (Gb (KS a_0 (s:=(0:Nat)) (r:=Sum.inl o6) (eS γ.1.2 γ.2)))) <|
  .leaf o6 [])
  (fun o6=>.run [.fcut 1 (.exit 0) [] [(bT (Gc.enc a_0) 95)] [0] [(1,.any),(24,.any),(25,.any),(26,jI (↑(0:Nat):Int))] [bS],oc] (fun γ=>k2 (rfl:(jI 0:AV)=jI (↑(0:Nat):Int)) (Gb (KS a_0 (s:=(0:Nat)) (r:=Sum.inr (o6)) (eS γ.1.2 γ.2)))) <|
  .leaf 0 [])))
  (.bd (HS a_0.Agency) fun r29=>.run (cs 2 (oa::oc::tc::oc::(rN [.any] (.bool r29) [])::(cs 2 []))) (fun γ=>k2 (Gy (Gz γ.1.2)) (Gb (Hh a_0.Agency r29 γ.2))) <|
  .sp (r29=true)
  (.run (bf::(cs 3 [oa])) (fun γ=>Gb ((Gx γ.2):(!r29)=false)) <|
  .sp ((↑a_0.Owned.length:Int)>(64:Int))
  (.run [bt,oc] (fun γ=>Gb (dT γ.2)) <|
  .leaf 3 [])
  (.run (bf::(cs 4 [])) (fun γ=>Gb (dF γ.2)) <|
  .bd (lp (Jd a_0) (0:Nat)) fun qq=>.cs qq (fun o33=>.run [.fcut 1 .ret [(2,jI o33)] [(bT (Gc.enc a_0) 95)] [0] [(1,.any),(24,.any),(25,.any),(26,jI (↑(0:Nat):Int))] [bS]] (fun γ=>k2 (rfl:(jI 0:AV)=jI (↑(0:Nat):Int)) (Gb (KS a_0 (s:=(0:Nat)) (r:=Sum.inl o33) (eS γ.1.2 γ.2)))) <|
  .leaf o33 [])
  (fun o33=>.run [.fcut 1 (.exit 0) [] [(bT (Gc.enc a_0) 95)] [0] [(1,.any),(24,.any),(25,.any),(26,jI (↑(0:Nat):Int))] [bS],oc] (fun γ=>k2 (rfl:(jI 0:AV)=jI (↑(0:Nat):Int)) (Gb (KS a_0 (s:=(0:Nat)) (r:=Sum.inr (o33)) (eS γ.1.2 γ.2)))) <|
  .leaf 0 [])))
  (.run [bt,oc] (fun γ=>Gb ((Gy (Ja γ.2)):(!r29)=true)) <|
  .leaf 30 [])))
  (.run [bt,oc] (fun γ=>Gb ((Gy (Ja γ.2)):(!r1)=true)) <|
  .leaf 6 [])
def Yj (a_0:Gc):Option Int:=(Zt a_0).den
theorem GkH (a_0:Gc) (r:Int) (h:Yj a_0=some r):RT 222 [.agg (Gc.enc a_0)] (jI r) []:=
 HA.of_ht 400 (Zt a_0) (fun (r:Int)=>jI r) (fun (r:Int)=>[]) (by kernel_rfl) h
def KC (l_0:(List Gc)) (k15:Nat) (x53:Gc) (k29:Nat) (x81:Gc):Nat→HT (Nat⊕(Unit⊕Unit)) True
 | k41=>.run [oa] (fun _=>Hg) <|
  .sp ((↑k41:Int)<(↑x53.Owned.length:Int))
  (.run [bt] (fun γ=>Gb (dT γ.2)) <|
  .bd (x53.Owned[k41]?) fun x93=>.run ((oN (.i k41))::(oN (.v [.str x93.Tag,.str x93.Plate,jI x93.Time.From,jI x93.Time.To]))::(cs 2 [])) (fun γ=>k2 (ir γ.2) (k2 (GD (f:=Gn.enc) (z:=3) (fun _=>rfl) γ.2) (Gb (GX (f:=Gn.enc) (z:=4) (j:=k41) (fun _=>rfl) γ.2 rfl)))) <|
  .bd (K4 x81.Owned x93) fun r95=>.run (cs 3 [rN [.any,.any] (.bool r95) []]) (fun γ=>Gb (XE x81.Owned x93 r95 γ.2)) <|
  .sp (r95=true)
  (.run [bt,oc] (fun γ=>Gb γ.2) <|
  .leaf (.inr (.inl ())) [0,1])
  (.run [bf] (fun γ=>Gb ((Ja γ.2):r95=false)) <|
  .gd (GS .i64 ((↑k41:Int)+1)) <| .run [ow,oc] (fun γ=>Gb γ.2) <|
  .leaf (.inl (k41+1)) [0,1]))
  (.run [bf] (fun γ=>Gb (dF γ.2)) <|
  .leaf (.inr (.inr (()))) [0,1])
def H7 (l_0:(List Gc)) (k15:Nat) (x53:Gc) (k29:Nat) (x81:Gc):Nat→Option (Nat⊕(Unit⊕Unit)):=fun s=>(KC l_0 k15 x53 k29 x81 s).den
def Vz (l_0:(List Gc)) (k15:Nat) (x53:Gc) (k29:Nat) (x81:Gc):Nat→PS:=fun s=>(52,[(0,.lst (fl Gc.enc l_0) l_0.length),(4,.ptr 0 0),(7,.ptr 1 0),(13,.lst (fl Gc.enc l_0) l_0.length),(14,jI (↑l_0.length:Int)),(15,jI (↑k15:Int)),(27,.lst (fl Gc.enc (List.take k15 l_0)) ((List.take k15 l_0).length)),(28,jI (↑((List.take k15 l_0).length):Int)),(29,jI (↑k29:Int)),(39,.lst (fl Gn.enc x53.Owned) x53.Owned.length),(40,jI (↑x53.Owned.length:Int)),(41,jI (↑s:Int))],[(bT (Gc.enc x53) 95),(bT (Gc.enc x81) 95)])
def VA:(Unit⊕Unit)→Hm:=fun q=>match q with | Sum.inl o=>.ret | Sum.inr (o)=>(.exit 4)
def M4 (l_0:(List Gc)) (k15:Nat) (x53:Gc) (k29:Nat) (x81:Gc):(Unit⊕Unit)→List (Nat×AV):=fun q=>match q with | Sum.inl o=>[(2,jI 9)] | Sum.inr (o)=>[(0,.lst (fl Gc.enc l_0) l_0.length),(4,.ptr 0 0),(13,.lst (fl Gc.enc l_0) l_0.length),(14,jI (↑l_0.length:Int)),(15,jI (↑k15:Int)),(27,.lst (fl Gc.enc (List.take k15 l_0)) ((List.take k15 l_0).length)),(28,jI (↑((List.take k15 l_0).length):Int)),(29,jI (↑k29:Int))]
def KA (l_0:(List Gc)) (k15:Nat) (x53:Gc) (k29:Nat) (x81:Gc):(Unit⊕Unit)→List Hb:=fun _=>[(bT (Gc.enc x53) 95),(bT (Gc.enc x81) 95)]
theorem R7 (l_0:(List Gc)) (k15:Nat) (x53:Gc) (k29:Nat) (x81:Gc) {s:Nat} {r:Unit⊕Unit} (h:lp (H7 l_0 k15 x53 k29 x81) s=some r):DT 2 (.loop (GK Tryz.prog 144 [1,1,0,1,0,0,1,1,0,0,1,1,1,0,0,1,1,0,0,1,1,1,0,0])) (Vz l_0 k15 x53 k29 x81 s).st (VA r) (PS.st (52,M4 l_0 k15 x53 k29 x81 r,KA l_0 k15 x53 k29 x81 r)):=
 GN.lp_ht 2 400 (Vz l_0 k15 x53 k29 x81) VA (fun q=>(52,M4 l_0 k15 x53 k29 x81 q,KA l_0 k15 x53 k29 x81 q)) (KC l_0 k15 x53 k29 x81) (by intro k41; kernel_rfl) h
def Kz (l_0:(List Gc)) (k15:Nat) (x53:Gc):Nat→HT (Nat⊕(Unit⊕Unit)) True
 | k29=>.run [oa] (fun _=>Hg) <|
  .sp ((↑k29:Int)<(↑((List.take k15 l_0).length):Int))
  (.run [bt] (fun γ=>Gb (dT γ.2)) <|
  .bd ((List.take k15 l_0)[k29]?) fun x81=>.run ((oN (.i k29))::(oN (.v [.str x81.Name,.str x81.Agency,.bool x81.Prepay,.lst (fl Gn.enc x81.Owned) x81.Owned.length,jI x81.Refill.Below,jI x81.Refill.Cents,jI x81.Refill.Tries,jI x81.Refill.Wait,.bool x81.Exempt]))::(cs 6 [oa])) (fun γ=>k2 (ir γ.2) (k2 (GD (f:=Gc.enc) (z:=8) (fun _=>rfl) γ.2) (Gb (GX (f:=Gc.enc) (z:=9) (j:=k29) (fun _=>rfl) γ.2 rfl)))) <|
  .sp (x81.Name=x53.Name)
  (.run [bt,oc] (fun γ=>Gb (Gu γ.2)) <|
  .leaf (.inr (.inl ())) [0])
  (.run (bf::(cs 4 [])) (fun γ=>Gb (Gz γ.2)) <|
  .bd (lp (H7 l_0 k15 x53 k29 x81) (0:Nat)) fun qq=>.cs qq (fun o84=>.run [.fcut 2 .ret [(2,jI 9)] (KA l_0 k15 x53 k29 x81 (Sum.inl o84)) [0,1] [(0,.any),(4,.any),(7,.any),(13,.any),(14,.any),(15,.any),(27,.any),(28,.any),(29,.any),(39,.any),(40,.any),(41,jI (↑(0:Nat):Int))] [bS,bS]] (fun γ=>k2 (rfl:(jI 0:AV)=jI (↑(0:Nat):Int)) (Gb (R7 l_0 k15 x53 k29 x81 (s:=(0:Nat)) (r:=Sum.inl o84) (eS γ.1.2 γ.2)))) <|
  .leaf (.inr (.inl ())) [0])
  (fun o84=>.run [.fcut 2 (.exit 4) (M4 l_0 k15 x53 k29 x81 (Sum.inr (o84))) (KA l_0 k15 x53 k29 x81 (Sum.inr (o84))) [0,1] [(0,.any),(4,.any),(7,.any),(13,.any),(14,.any),(15,.any),(27,.any),(28,.any),(29,.any),(39,.any),(40,.any),(41,jI (↑(0:Nat):Int))] [bS,bS]] (fun γ=>k2 (rfl:(jI 0:AV)=jI (↑(0:Nat):Int)) (Gb (R7 l_0 k15 x53 k29 x81 (s:=(0:Nat)) (r:=Sum.inr (o84)) (eS γ.1.2 γ.2)))) <|
  .gd (GS .i64 ((↑k29:Int)+1)) <| .run [ow,oc] (fun γ=>Gb γ.2) <|
  .leaf (.inl (k29+1)) [0])))
  (.run [bf] (fun γ=>Gb (dF γ.2)) <|
  .leaf (.inr (.inr (()))) [0])
def H6 (l_0:(List Gc)) (k15:Nat) (x53:Gc):Nat→Option (Nat⊕(Unit⊕Unit)):=fun s=>(Kz l_0 k15 x53 s).den
def Vx (l_0:(List Gc)) (k15:Nat) (x53:Gc):Nat→PS:=fun s=>(52,[(0,.lst (fl Gc.enc l_0) l_0.length),(4,.ptr 0 0),(13,.lst (fl Gc.enc l_0) l_0.length),(14,jI (↑l_0.length:Int)),(15,jI (↑k15:Int)),(27,.lst (fl Gc.enc (List.take k15 l_0)) ((List.take k15 l_0).length)),(28,jI (↑((List.take k15 l_0).length):Int)),(29,jI (↑s:Int))],[(bT (Gc.enc x53) 95)])
def Vy:(Unit⊕Unit)→Hm:=fun q=>match q with | Sum.inl o=>.ret | Sum.inr (o)=>(.exit 2)
def M3 (l_0:(List Gc)) (k15:Nat) (x53:Gc):(Unit⊕Unit)→List (Nat×AV):=fun q=>match q with | Sum.inl o=>[(2,jI 9)] | Sum.inr (o)=>[(0,.lst (fl Gc.enc l_0) l_0.length),(13,.lst (fl Gc.enc l_0) l_0.length),(14,jI (↑l_0.length:Int)),(15,jI (↑k15:Int))]
def Vw (l_0:(List Gc)) (k15:Nat) (x53:Gc):(Unit⊕Unit)→List Hb:=fun _=>[(bT (Gc.enc x53) 95)]
theorem R6 (l_0:(List Gc)) (k15:Nat) (x53:Gc) {s:Nat} {r:Unit⊕Unit} (h:lp (H6 l_0 k15 x53) s=some r):DT 1 (.loop (GK Tryz.prog 144 [1,1,0,1,0,0,1,1,0,0,1,1,1,0,0])) (Vx l_0 k15 x53 s).st (Vy r) (PS.st (52,M3 l_0 k15 x53 r,Vw l_0 k15 x53 r)):=
 GN.lp_ht 1 400 (Vx l_0 k15 x53) Vy (fun q=>(52,M3 l_0 k15 x53 q,Vw l_0 k15 x53 q)) (Kz l_0 k15 x53) (by intro k29; kernel_rfl) h
def KR (l_0:(List Gc)):Nat→HT (Nat⊕(Int⊕Unit)) True
 | k15=>.run [oa] (fun _=>Hg) <|
  .sp ((↑k15:Int)<(↑l_0.length:Int))
  (.run [bt] (fun γ=>Gb (dT γ.2)) <|
  .bd (l_0[k15]?) fun x53=>.run (oc::(oN (.i k15))::(oN (.v [.str x53.Name,.str x53.Agency,.bool x53.Prepay,.lst (fl Gn.enc x53.Owned) x53.Owned.length,jI x53.Refill.Below,jI x53.Refill.Cents,jI x53.Refill.Tries,jI x53.Refill.Wait,.bool x53.Exempt]))::(cs 3 [])) (fun γ=>k2 (ir γ.2) (k2 (GD (f:=Gc.enc) (z:=8) (fun _=>rfl) γ.2) (Gb (GX (f:=Gc.enc) (z:=9) (j:=k15) (fun _=>rfl) γ.2 rfl)))) <|
  .bd (Yj x53) fun r55=>.run (oc::(rN [.any] (jI r55) [])::(cs 2 [oa])) (fun γ=>Gb (GkH x53 r55 γ.2)) <|
  .sp (r55=(0:Int))
  (.run [bf] (fun γ=>Gb (Gx (Gu γ.2))) <|
  .gd (k15≤l_0.length) <| .run (cs 2 ((oN (.s 0 k15))::(.tr (.eqt (.t 27) (.lst (fl Gc.enc (List.take k15 l_0)) ((List.take k15 l_0).length))))::(cs 2 []))) (fun γ=>k2 (rfl:(↑k15:Int)=((k15:Nat):Int)) (k2 (⟨Nat.zero_le _,γ.2⟩:0≤k15∧k15≤l_0.length) (Gb ((Ya (RS (f:=Gc.enc) (z:=9) (fun _=>rfl) _ _) (by rw [List.length_take]; omega)):(.lst (List.take (k15*9) (fl Gc.enc l_0)) k15:AV)=.lst (fl Gc.enc (List.take k15 l_0)) ((List.take k15 l_0).length))))) <|
  .bd (lp (H6 l_0 k15 x53) (0:Nat)) fun qq=>.cs qq (fun o59=>.run [.fcut 1 .ret [(2,jI 9)] [(bT (Gc.enc x53) 95)] [0] [(0,.any),(4,.any),(13,.any),(14,.any),(15,.any),(27,.any),(28,.any),(29,jI (↑(0:Nat):Int))] [bS]] (fun γ=>k2 (rfl:(jI 0:AV)=jI (↑(0:Nat):Int)) (Gb (R6 l_0 k15 x53 (s:=(0:Nat)) (r:=Sum.inl o59) (eS γ.1.2 γ.2)))) <|
  .leaf (.inr (.inl 9)) [])
  (fun o59=>.run [.fcut 1 (.exit 2) (M3 l_0 k15 x53 (Sum.inr (o59))) [(bT (Gc.enc x53) 95)] [0] [(0,.any),(4,.any),(13,.any),(14,.any),(15,.any),(27,.any),(28,.any),(29,jI (↑(0:Nat):Int))] [bS]] (fun γ=>k2 (rfl:(jI 0:AV)=jI (↑(0:Nat):Int)) (Gb (R6 l_0 k15 x53 (s:=(0:Nat)) (r:=Sum.inr (o59)) (eS γ.1.2 γ.2)))) <|
  .gd (GS .i64 ((↑k15:Int)+1)) <| .run [ow,oc] (fun γ=>Gb γ.2) <|
  .leaf (.inl (k15+1)) []))
  (.run (bt::(cs 2 [])) (fun γ=>Gb (Gy (Gz γ.2))) <|
  .leaf (.inr (.inl r55)) []))
  (.run [bf] (fun γ=>Gb (dF γ.2)) <|
  .leaf (.inr (.inr (()))) [])
def Je (l_0:(List Gc)):Nat→Option (Nat⊕(Int⊕Unit)):=fun s=>(KR l_0 s).den
def XB (l_0:(List Gc)):Nat→PS:=fun s=>(52,[(0,.lst (fl Gc.enc l_0) l_0.length),(13,.lst (fl Gc.enc l_0) l_0.length),(14,jI (↑l_0.length:Int)),(15,jI (↑s:Int))],[])
def XD:(Int⊕Unit)→Hm:=fun q=>match q with | Sum.inl o=>.ret | Sum.inr (o)=>(.exit 0)
def XC (l_0:(List Gc)):(Int⊕Unit)→List (Nat×AV):=fun q=>match q with | Sum.inl o=>[(2,jI o)] | Sum.inr (o)=>[]
def XA (l_0:(List Gc)):(Int⊕Unit)→List Hb:=fun _=>[]
theorem Uj (l_0:(List Gc)) {s:Nat} {r:Int⊕Unit} (h:lp (Je l_0) s=some r):DT 0 (.loop (GK Tryz.prog 144 [1,1,0,1,0,0])) (XB l_0 s).st (XD r) (PS.st (52,XC l_0 r,XA l_0 r)):=
 GN.lp_ht 0 400 (XB l_0) XD (fun q=>(52,XC l_0 q,XA l_0 q)) (KR l_0) (by intro k15; kernel_rfl) h
def U7 (l_0:(List Gc)):HT Int True:=.run (cs 3 [oa]) (fun _=>Hg) <|
  .sp ((↑l_0.length:Int)>(1024:Int))
  (.run [bt,oc] (fun γ=>Gb (dT γ.2)) <|
  .leaf 3 [])
  (.run (bf::(cs 3 [])) (fun γ=>Gb (dF γ.2)) <|
  .bd (lp (Je l_0) (0:Nat)) fun qq=>.cs qq (fun o2=>.run [.fcut 0 .ret [(2,jI o2)] [] [] [(0,.any),(13,.any),(14,.any),(15,jI (↑(0:Nat):Int))] []] (fun γ=>k2 (rfl:(jI 0:AV)=jI (↑(0:Nat):Int)) (Gb (Uj l_0 (s:=(0:Nat)) (r:=Sum.inl o2) (eS γ.1.2 γ.2)))) <|
  .leaf o2 [])
  (fun o2=>.run [.fcut 0 (.exit 0) [] [] [] [(0,.any),(13,.any),(14,.any),(15,jI (↑(0:Nat):Int))] [],oc] (fun γ=>k2 (rfl:(jI 0:AV)=jI (↑(0:Nat):Int)) (Gb (Uj l_0 (s:=(0:Nat)) (r:=Sum.inr (o2)) (eS γ.1.2 γ.2)))) <|
  .leaf 0 []))
def MF (l_0:(List Gc)):Option Int:=(U7 l_0).den
theorem Rd (l_0:(List Gc)) (r:Int) (h:MF l_0=some r):RT 144 [.lst (fl Gc.enc l_0) l_0.length] (jI r) []:=
 HA.of_ht 400 (U7 l_0) (fun (r:Int)=>jI r) (fun (r:Int)=>[]) (by kernel_rfl) h
def Gfm (o_0:Gn):HT Int True:=.run (cs 4 (oa::(cs 2 [oa,oc]))) (fun _=>Hg) <|
  .sp ((o_0.Tag==[])=(o_0.Plate==[]))
  (.run [bt,oc] (fun γ=>Gb (Gu γ.2)) <|
  .leaf 1 [])
  (.run [bf] (fun γ=>Gb (Gz γ.2)) <|
  .sp (o_0.Tag=[])
  (.run (cs 2 (oa::oc::oF::(cs 4 (bf::(cs 2 [oa]))))) (fun γ=>k2 (Gx (Gu γ.2)) (Gb fF)) <|
  .sp (o_0.Plate=[])
  (.run [bf] (fun γ=>Gb (Gx (Gu γ.2))) <|
  .bd (Qy o_0.Time) fun r4=>.run (cs 2 [rN [.any] (.bool r4) [],oc]) (fun γ=>Gb (HZ o_0.Time r4 γ.2)) <|
  .sp (r4=true)
  (.run [bf,oc] (fun γ=>Gb ((Gx γ.2):(!r4)=false)) <|
  .leaf 0 [])
  (.run [bt,oc] (fun γ=>Gb ((Gy (Ja γ.2)):(!r4)=true)) <|
  .leaf 12 []))
  (.run [bt] (fun γ=>Gb (Gy (Gz γ.2))) <|
  .bd (GaK o_0.Plate) fun r7=>.run (cs 2 ((rN [.any] (.tup [.str r7.1,jI r7.2]) [])::(cs 5 []))) (fun γ=>Gb (GdG o_0.Plate r7 γ.2)) <|
  .sp (r7.2=(0:Int))
  (.run (oc::oa::oc::oF::(cs 2 [oa,oc])) (fun γ=>Gb (Gx (Gu γ.2))) <|
  .sp (r7.1=o_0.Plate)
  (.run [bf] (fun γ=>Gb (Gx (Gu γ.2))) <|
  .bd (Qy o_0.Time) fun r11=>.run (cs 2 [rN [.any] (.bool r11) [],oc]) (fun γ=>Gb (HZ o_0.Time r11 γ.2)) <|
  .sp (r11=true)
  (.run [bf,oc] (fun γ=>Gb ((Gx γ.2):(!r11)=false)) <|
  .leaf 0 [])
  (.run [bt,oc] (fun γ=>Gb ((Gy (Ja γ.2)):(!r11)=true)) <|
  .leaf 12 []))
  (.run [bt,oc] (fun γ=>Gb (Gy (Gz γ.2))) <|
  .leaf 19 []))
  (.run (oc::oa::oc::tc::(cs 4 [bt,oc])) (fun γ=>k2 (Gy (Gz γ.2)) (Gb tT)) <|
  .leaf 19 [])))
  (.bd (GgP o_0.Tag) fun r14=>.run (cs 2 [oa,oc,tc,oc,rN [.any] (jI r14) [],oa,oc]) (fun γ=>k2 (Gy (Gz γ.1.2)) (Gb (Gla o_0.Tag r14 γ.2))) <|
  .sp (r14=(0:Int))
  (.run (bf::(cs 2 [oa])) (fun γ=>Gb (Gx (Gu γ.2))) <|
  .sp (o_0.Plate=[])
  (.run [bf] (fun γ=>Gb (Gx (Gu γ.2))) <|
  .bd (Qy o_0.Time) fun r18=>.run (cs 2 [rN [.any] (.bool r18) [],oc]) (fun γ=>Gb (HZ o_0.Time r18 γ.2)) <|
  .sp (r18=true)
  (.run [bf,oc] (fun γ=>Gb ((Gx γ.2):(!r18)=false)) <|
  .leaf 0 [])
  (.run [bt,oc] (fun γ=>Gb ((Gy (Ja γ.2)):(!r18)=true)) <|
  .leaf 12 []))
  (.run [bt] (fun γ=>Gb (Gy (Gz γ.2))) <|
  .bd (GaK o_0.Plate) fun r21=>.run (cs 2 ((rN [.any] (.tup [.str r21.1,jI r21.2]) [])::(cs 5 []))) (fun γ=>Gb (GdG o_0.Plate r21 γ.2)) <|
  .sp (r21.2=(0:Int))
  (.run (oc::oa::oc::oF::(cs 2 [oa,oc])) (fun γ=>Gb (Gx (Gu γ.2))) <|
  .sp (r21.1=o_0.Plate)
  (.run [bf] (fun γ=>Gb (Gx (Gu γ.2))) <|
  .bd (Qy o_0.Time) fun r25=>.run (cs 2 [rN [.any] (.bool r25) [],oc]) (fun γ=>Gb (HZ o_0.Time r25 γ.2)) <|
  .sp (r25=true)
  (.run [bf,oc] (fun γ=>Gb ((Gx γ.2):(!r25)=false)) <|
  .leaf 0 [])
  (.run [bt,oc] (fun γ=>Gb ((Gy (Ja γ.2)):(!r25)=true)) <|
  .leaf 12 []))
  (.run [bt,oc] (fun γ=>Gb (Gy (Gz γ.2))) <|
  .leaf 19 []))
  (.run (oc::oa::oc::tc::(cs 4 [bt,oc])) (fun γ=>k2 (Gy (Gz γ.2)) (Gb tT)) <|
  .leaf 19 [])))
  (.run [bt,oc] (fun γ=>Gb (Gy (Gz γ.2))) <|
  .leaf 18 [])))
def Gfl (o_0:Gn):Option Int:=(Gfm o_0).den
theorem GoG (o_0:Gn) (r:Int) (h:Gfl o_0=some r):RT 167 [.agg (Gn.enc o_0)] (jI r) []:=
 HA.of_ht 400 (Gfm o_0) (fun (r:Int)=>jI r) (fun (r:Int)=>[]) (by kernel_rfl) h
def GdO (a_0:Gn) (b_1:Gn):HT Bool True:=.run (cs 3 []) (fun _=>Hg) <|
  .sp (a_0.Tag=b_1.Tag)
  (.sp (a_0.Plate=b_1.Plate)
  (.bd (Qy a_0.Time) fun r3=>.sp (r3=true)
  (.bd (Qy b_1.Time) fun r6=>.sp (r6=true)
  (.sp (a_0.Time.From<b_1.Time.To)
  (.run (cs 4 (oa::oc::tc::(cs 3 (oa::(cs 2 (tc::oc::(rN [.any] (.bool r3) [])::(cs 2 (tc::oc::(rN [.any] (.bool r6) [])::(cs 2 (tc::(cs 5 (oa::(cs 2 (tc::(cs 5 (oa::(cs 2 []))))))))))))))))) (fun γ=>k2 (Gu (yA6 γ)) (k2 (Gu (RA γ)) (k2 (HZ a_0.Time r3 (HW γ)) (k2 (G0 γ) (k2 (HZ b_1.Time r6 γ.1.1.2) (k2 γ.1.2 (Gb (dT γ.2)))))))) <|
  .leaf (decide (b_1.Time.From<a_0.Time.To)) [])
  (.run (cs 4 (oa::oc::tc::(cs 3 (oa::(cs 2 (tc::oc::(rN [.any] (.bool r3) [])::(cs 2 (tc::oc::(rN [.any] (.bool r6) [])::(cs 2 (tc::(cs 5 (oa::(cs 2 (oF::(cs 8 []))))))))))))))) (fun γ=>k2 (Gu (yA6 γ)) (k2 (Gu (RA γ)) (k2 (HZ a_0.Time r3 (HW γ)) (k2 (G0 γ) (k2 (HZ b_1.Time r6 γ.1.1.2) (k2 γ.1.2 (Gb (dF γ.2)))))))) <|
  .leaf false []))
  (.run (cs 4 (oa::oc::tc::(cs 3 (oa::(cs 2 (tc::oc::(rN [.any] (.bool r3) [])::(cs 2 (tc::oc::(rN [.any] (.bool r6) [])::(cs 2 (oF::(cs 17 []))))))))))) (fun γ=>k2 (Gu (RA γ)) (k2 (Gu (HW γ)) (k2 (HZ a_0.Time r3 (G0 γ)) (k2 γ.1.1.2 (k2 (HZ b_1.Time r6 γ.1.2) (Gb ((Ja γ.2):r6=false))))))) <|
  .leaf false []))
  (.run (cs 4 (oa::oc::tc::(cs 3 (oa::(cs 2 (tc::oc::(rN [.any] (.bool r3) [])::(cs 2 (oF::(cs 22 []))))))))) (fun γ=>k2 (Gu (G0 γ)) (k2 (Gu γ.1.1.2) (k2 (HZ a_0.Time r3 γ.1.2) (Gb ((Ja γ.2):r3=false))))) <|
  .leaf false []))
  (.run (cs 4 (oa::oc::tc::(cs 3 (oa::(cs 2 (oF::(cs 27 []))))))) (fun γ=>k2 (Gu γ.1.2) (Gb (Gz γ.2))) <|
  .leaf false []))
  (.run (cs 4 (oa::oc::oF::(cs 34 []))) (fun γ=>Gb (Gz γ.2)) <|
  .leaf false [])
def GcO (a_0:Gn) (b_1:Gn):Option Bool:=(GdO a_0 b_1).den
theorem GnH (a_0:Gn) (b_1:Gn) (r:Bool) (h:GcO a_0 b_1=some r):RT 168 [.agg (Gn.enc a_0),.agg (Gn.enc b_1)] (.bool r) []:=
 HA.of_ht 400 (GdO a_0 b_1) (fun (r:Bool)=>.bool r) (fun (r:Bool)=>[]) (by kernel_rfl) h
def QR (l_0:(List Gn)) (o_1:Gn):Nat→HT (Nat⊕(Unit⊕Unit)) True
 | k5=>.run (cs 3 [oa]) (fun _=>Hg) <|
  .sp ((↑k5:Int)<(↑l_0.length:Int))
  (.run [bt] (fun γ=>Gb (dT γ.2)) <|
  .bd (l_0[k5]?) fun x10=>.bd (GcO x10 o_1) fun r12=>.run (cs 2 [oN (.i k5),oN (.v [.str x10.Tag,.str x10.Plate,jI x10.Time.From,jI x10.Time.To]),oc,rN [.any,.any] (.bool r12) []]) (fun γ=>k2 (ir γ.1.2) (k2 (GD (f:=Gn.enc) (z:=3) (fun _=>rfl) γ.1.2) (k2 (GX (f:=Gn.enc) (z:=4) (j:=k5) (fun _=>rfl) γ.1.2 rfl) (Gb (GnH x10 o_1 r12 γ.2))))) <|
  .sp (r12=true)
  (.run [bt,oc] (fun γ=>Gb γ.2) <|
  .leaf (.inr (.inl ())) [0])
  (.run [bf] (fun γ=>Gb ((Ja γ.2):r12=false)) <|
  .gd (GS .i64 ((↑k5:Int)+1)) <| .run [oc,ow,oc] (fun γ=>Gb γ.2) <|
  .leaf (.inl (k5+1)) [0]))
  (.run [bf] (fun γ=>Gb (dF γ.2)) <|
  .leaf (.inr (.inr (()))) [0])
def J7 (l_0:(List Gn)) (o_1:Gn):Nat→Option (Nat⊕(Unit⊕Unit)):=fun s=>(QR l_0 o_1 s).den
def GcQ (l_0:(List Gn)) (o_1:Gn):Nat→PS:=fun s=>(18,[(0,.lst (fl Gn.enc l_0) l_0.length),(3,.ptr 0 0),(5,jI (↑s:Int))],[(bT (Gn.enc o_1) 201)])
def GcS:(Unit⊕Unit)→Hm:=fun q=>match q with | Sum.inl o=>.ret | Sum.inr (o)=>(.exit 0)
def GcR (l_0:(List Gn)) (o_1:Gn):(Unit⊕Unit)→List (Nat×AV):=fun q=>match q with | Sum.inl o=>[(4,.bool true)] | Sum.inr (o)=>[]
def GcP (l_0:(List Gn)) (o_1:Gn):(Unit⊕Unit)→List Hb:=fun _=>[(bT (Gn.enc o_1) 201)]
theorem YZ (l_0:(List Gn)) (o_1:Gn) {s:Nat} {r:Unit⊕Unit} (h:lp (J7 l_0 o_1) s=some r):DT 1 (.loop (GK Tryz.prog 106 [1,0,1,0,0])) (GcQ l_0 o_1 s).st (GcS r) (PS.st (18,GcR l_0 o_1 r,GcP l_0 o_1 r)):=
 GN.lp_ht 1 400 (GcQ l_0 o_1) GcS (fun q=>(18,GcR l_0 o_1 q,GcP l_0 o_1 q)) (QR l_0 o_1) (by intro k5; kernel_rfl) h
def Ga8 (l_0:(List Gn)) (o_1:Gn):HT Bool True:=.run (cs 3 []) (fun _=>Hg) <|
  .bd (lp (J7 l_0 o_1) (0:Nat)) fun qq=>.cs qq (fun o1=>.run [.fcut 1 .ret [(4,.bool true)] [(bT (Gn.enc o_1) 201)] [0] [(0,.any),(3,.any),(5,jI (↑(0:Nat):Int))] [bS]] (fun γ=>k2 (rfl:(jI 0:AV)=jI (↑(0:Nat):Int)) (Gb (YZ l_0 o_1 (s:=(0:Nat)) (r:=Sum.inl o1) (eS γ.1.2 γ.2)))) <|
  .leaf true [])
  (fun o1=>.run [.fcut 1 (.exit 0) [] [(bT (Gn.enc o_1) 201)] [0] [(0,.any),(3,.any),(5,jI (↑(0:Nat):Int))] [bS],oc] (fun γ=>k2 (rfl:(jI 0:AV)=jI (↑(0:Nat):Int)) (Gb (YZ l_0 o_1 (s:=(0:Nat)) (r:=Sum.inr (o1)) (eS γ.1.2 γ.2)))) <|
  .leaf false [])
def Xd (l_0:(List Gn)) (o_1:Gn):Option Bool:=(Ga8 l_0 o_1).den
theorem GeK (l_0:(List Gn)) (o_1:Gn) (r:Bool) (h:Xd l_0 o_1=some r):RT 106 [.lst (fl Gn.enc l_0) l_0.length,.agg (Gn.enc o_1)] (.bool r) []:=
 HA.of_ht 400 (Ga8 l_0 o_1) (fun (r:Bool)=>.bool r) (fun (r:Bool)=>[]) (by kernel_rfl) h
def YA (a_0:Gc):Nat→HT (Nat⊕(Int⊕Unit)) True
 | k3=>.run (cs 4 [oa]) (fun _=>Hg) <|
  .sp ((↑k3:Int)<(↑a_0.Owned.length:Int))
  (.run [bt] (fun γ=>Gb (dT γ.2)) <|
  .bd (a_0.Owned[k3]?) fun x19=>.bd (Gfl x19) fun r21=>.run (cs 3 ((oN (.i k3))::(oN (.v [.str x19.Tag,.str x19.Plate,jI x19.Time.From,jI x19.Time.To]))::(rN [.any] (jI r21) [])::(cs 2 [oa]))) (fun γ=>k2 (ir γ.1.2) (k2 (GD (f:=Gn.enc) (z:=3) (fun _=>rfl) γ.1.2) (k2 (GX (f:=Gn.enc) (z:=4) (j:=k3) (fun _=>rfl) γ.1.2 rfl) (Gb (GoG x19 r21 γ.2))))) <|
  .sp (r21=(0:Int))
  (.run [bf] (fun γ=>Gb (Gx (Gu γ.2))) <|
  .gd (k3≤a_0.Owned.length) <| .bd (Xd (List.take k3 a_0.Owned) x19) fun r25=>.run (cs 3 ((oN (.s 0 k3))::(.trp (.eqt (.t 41) (.lst (fl Gn.enc (List.take k3 a_0.Owned)) ((List.take k3 a_0.Owned).length))))::(cs 3 [oN (.i k3),oN (.v [.str x19.Tag,.str x19.Plate,jI x19.Time.From,jI x19.Time.To]),rN [.any,.any] (.bool r25) []]))) (fun γ=>k2 (rfl:(↑k3:Int)=((k3:Nat):Int)) (k2 (⟨Nat.zero_le _,γ.1.2⟩:0≤k3∧k3≤a_0.Owned.length) (k2 ((Ya (RS (f:=Gn.enc) (z:=4) (fun _=>rfl) _ _) (by rw [List.length_take]; omega)):(.lst (List.take (k3*4) (fl Gn.enc a_0.Owned)) k3:AV)=.lst (fl Gn.enc (List.take k3 a_0.Owned)) ((List.take k3 a_0.Owned).length)) (k2 (ir (HW γ)) (k2 (GD (f:=Gn.enc) (z:=3) (fun _=>rfl) (HW γ)) (k2 (GX (f:=Gn.enc) (z:=4) (j:=k3) (fun _=>rfl) (HW γ) rfl) (Gb (GeK (List.take k3 a_0.Owned) x19 r25 γ.2)))))))) <|
  .sp (r25=true)
  (.run [bt,oc] (fun γ=>Gb γ.2) <|
  .leaf (.inr (.inl 9)) [0])
  (.run [bf] (fun γ=>Gb ((Ja γ.2):r25=false)) <|
  .gd (GS .i64 ((↑k3:Int)+1)) <| .run [oc,ow,oc] (fun γ=>Gb γ.2) <|
  .leaf (.inl (k3+1)) [0]))
  (.run (bt::(cs 2 [])) (fun γ=>Gb (Gy (Gz γ.2))) <|
  .leaf (.inr (.inl r21)) [0]))
  (.run [bf] (fun γ=>Gb (dF γ.2)) <|
  .leaf (.inr (.inr (()))) [0])
def KH (a_0:Gc):Nat→Option (Nat⊕(Int⊕Unit)):=fun s=>(YA a_0 s).den
def Gjo (a_0:Gc):Nat→PS:=fun s=>(48,[(1,.ptr 0 0),(3,jI (↑s:Int))],[(bT (Gc.enc a_0) 95)])
def Gjq:(Int⊕Unit)→Hm:=fun q=>match q with | Sum.inl o=>.ret | Sum.inr (o)=>(.exit 0)
def Gjp (a_0:Gc):(Int⊕Unit)→List (Nat×AV):=fun q=>match q with | Sum.inl o=>[(2,jI o)] | Sum.inr (o)=>[]
def Gjn (a_0:Gc):(Int⊕Unit)→List Hb:=fun _=>[(bT (Gc.enc a_0) 95)]
theorem RQ (a_0:Gc) {s:Nat} {r:Int⊕Unit} (h:lp (KH a_0) s=some r):DT 1 (.loop (GK Tryz.prog 105 [1,1,1,1,0,1,0,0])) (Gjo a_0 s).st (Gjq r) (PS.st (48,Gjp a_0 r,Gjn a_0 r)):=
 GN.lp_ht 1 400 (Gjo a_0) Gjq (fun q=>(48,Gjp a_0 q,Gjn a_0 q)) (YA a_0) (by intro k3; kernel_rfl) h
def Gko (a_0:Gc):HT Int True:=.run (cs 2 []) (fun _=>Hg) <|
  .bd (X7 a_0.Name) fun r1=>.run (cs 2 [rN [.any] (.bool r1) [],oc]) (fun γ=>Gb (Yx a_0.Name r1 γ.2)) <|
  .sp (r1=true)
  (.run [bf] (fun γ=>Gb ((Gx γ.2):(!r1)=false)) <|
  .sp (a_0.Agency=[])
  (.run (cs 2 (oa::oc::oF::(cs 4 (bf::(cs 3 [oa]))))) (fun γ=>k2 (Gx (Gu γ.2)) (Gb fF)) <|
  .sp ((↑a_0.Owned.length:Int)>(64:Int))
  (.run [bt,oc] (fun γ=>Gb (dT γ.2)) <|
  .leaf 3 [])
  (.run [bf,oc] (fun γ=>Gb (dF γ.2)) <|
  .bd (lp (KH a_0) (0:Nat)) fun qq=>.cs qq (fun o6=>.run [.fcut 1 .ret [(2,jI o6)] [(bT (Gc.enc a_0) 95)] [0] [(1,.any),(3,jI (↑(0:Nat):Int))] [bS]] (fun γ=>k2 (rfl:(jI 0:AV)=jI (↑(0:Nat):Int)) (Gb (RQ a_0 (s:=(0:Nat)) (r:=Sum.inl o6) (eS γ.1.2 γ.2)))) <|
  .leaf o6 [])
  (fun o6=>.run [.fcut 1 (.exit 0) [] [(bT (Gc.enc a_0) 95)] [0] [(1,.any),(3,jI (↑(0:Nat):Int))] [bS],oc] (fun γ=>k2 (rfl:(jI 0:AV)=jI (↑(0:Nat):Int)) (Gb (RQ a_0 (s:=(0:Nat)) (r:=Sum.inr (o6)) (eS γ.1.2 γ.2)))) <|
  .leaf 0 [])))
  (.bd (X7 a_0.Agency) fun r29=>.run (cs 2 (oa::oc::tc::oc::(rN [.any] (.bool r29) [])::(cs 2 []))) (fun γ=>k2 (Gy (Gz γ.1.2)) (Gb (Yx a_0.Agency r29 γ.2))) <|
  .sp (r29=true)
  (.run (bf::(cs 3 [oa])) (fun γ=>Gb ((Gx γ.2):(!r29)=false)) <|
  .sp ((↑a_0.Owned.length:Int)>(64:Int))
  (.run [bt,oc] (fun γ=>Gb (dT γ.2)) <|
  .leaf 3 [])
  (.run [bf,oc] (fun γ=>Gb (dF γ.2)) <|
  .bd (lp (KH a_0) (0:Nat)) fun qq=>.cs qq (fun o33=>.run [.fcut 1 .ret [(2,jI o33)] [(bT (Gc.enc a_0) 95)] [0] [(1,.any),(3,jI (↑(0:Nat):Int))] [bS]] (fun γ=>k2 (rfl:(jI 0:AV)=jI (↑(0:Nat):Int)) (Gb (RQ a_0 (s:=(0:Nat)) (r:=Sum.inl o33) (eS γ.1.2 γ.2)))) <|
  .leaf o33 [])
  (fun o33=>.run [.fcut 1 (.exit 0) [] [(bT (Gc.enc a_0) 95)] [0] [(1,.any),(3,jI (↑(0:Nat):Int))] [bS],oc] (fun γ=>k2 (rfl:(jI 0:AV)=jI (↑(0:Nat):Int)) (Gb (RQ a_0 (s:=(0:Nat)) (r:=Sum.inr (o33)) (eS γ.1.2 γ.2)))) <|
  .leaf 0 [])))
  (.run [bt,oc] (fun γ=>Gb ((Gy (Ja γ.2)):(!r29)=true)) <|
  .leaf 30 [])))
  (.run [bt,oc] (fun γ=>Gb ((Gy (Ja γ.2)):(!r1)=true)) <|
  .leaf 6 [])
def Glu (a_0:Gc):Option Int:=(Gko a_0).den
theorem GrG (a_0:Gc) (r:Int) (h:Glu a_0=some r):RT 105 [.agg (Gc.enc a_0)] (jI r) []:=
 HA.of_ht 400 (Gko a_0) (fun (r:Int)=>jI r) (fun (r:Int)=>[]) (by kernel_rfl) h
def Qa (l_0:(List Gc)) (k3:Nat) (k5:Nat):Nat→HT (Nat⊕(Unit⊕Unit)) True
 | k6=>.bd (l_0[k3]?) fun x126=>.run (cs 3 [oN (.i k3),oc,oN (.v [.lst (fl Gn.enc x126.Owned) x126.Owned.length]),oc,oa]) (fun γ=>k2 (ir γ.2) (k2 (GD (f:=Gc.enc) (z:=8) (fun _=>rfl) γ.2) (Gb (GL (f:=Gc.enc) (z:=9) (j:=k3) (a:=3) (n:=1) (fun _=>rfl) γ.2 (by decide) rfl)))) <|
  .sp ((↑k6:Int)<(↑x126.Owned.length:Int))
  (.run [bt] (fun γ=>Gb (dT γ.2)) <|
  .bd (l_0[k5]?) fun x129=>.bd (x126.Owned[k6]?) fun x131=>.bd (Xd x129.Owned x131) fun r133=>.run (cs 2 ((oN (.i k5))::oc::(oN (.v [.lst (fl Gn.enc x129.Owned) x129.Owned.length]))::(cs 2 [oN (.i k3),oc,oN (.v [.lst (fl Gn.enc x126.Owned) x126.Owned.length]),oc,oN (.i k6),oN (.v [.str x131.Tag,.str x131.Plate,jI x131.Time.From,jI x131.Time.To]),rN [.any,.any] (.bool r133) []]))) (fun γ=>k2 (ir γ.1.1.2) (k2 (GD (f:=Gc.enc) (z:=8) (fun _=>rfl) γ.1.1.2) (k2 (GL (f:=Gc.enc) (z:=9) (j:=k5) (a:=3) (n:=1) (fun _=>rfl) γ.1.1.2 (by decide) rfl) (k2 (ir (HW γ)) (k2 (GD (f:=Gc.enc) (z:=8) (fun _=>rfl) (HW γ)) (k2 (GL (f:=Gc.enc) (z:=9) (j:=k3) (a:=3) (n:=1) (fun _=>rfl) (HW γ) (by decide) rfl) (k2 (ir γ.1.2) (k2 (GD (f:=Gn.enc) (z:=3) (fun _=>rfl) γ.1.2) (k2 (GX (f:=Gn.enc) (z:=4) (j:=k6) (fun _=>rfl) γ.1.2 rfl) (Gb (GeK x129.Owned x131 r133 γ.2))))))))))) <|
  .sp (r133=true)
  (.run [bt,oc] (fun γ=>Gb γ.2) <|
  .leaf (.inr (.inl ())) [])
  (.run [bf] (fun γ=>Gb ((Ja γ.2):r133=false)) <|
  .gd (GS .i64 ((↑k6:Int)+1)) <| .run [oc,ow,oc] (fun γ=>Gb γ.2) <|
  .leaf (.inl (k6+1)) []))
  (.run [bf] (fun γ=>Gb (dF γ.2)) <|
  .leaf (.inr (.inr (()))) [])
def JG (l_0:(List Gc)) (k3:Nat) (k5:Nat):Nat→Option (Nat⊕(Unit⊕Unit)):=fun s=>(Qa l_0 k3 k5 s).den
def Ga6 (l_0:(List Gc)) (k3:Nat) (k5:Nat):Nat→PS:=fun s=>(64,[(0,.lst (fl Gc.enc l_0) l_0.length),(3,jI (↑k3:Int)),(5,jI (↑k5:Int)),(6,jI (↑s:Int))],[])
def Ga7:(Unit⊕Unit)→Hm:=fun q=>match q with | Sum.inl o=>.ret | Sum.inr (o)=>(.exit 4)
def Vb (l_0:(List Gc)) (k3:Nat) (k5:Nat):(Unit⊕Unit)→List (Nat×AV):=fun q=>match q with | Sum.inl o=>[(2,jI 9)] | Sum.inr (o)=>[(0,.lst (fl Gc.enc l_0) l_0.length),(3,jI (↑k3:Int)),(5,jI (↑k5:Int))]
def Ga5 (l_0:(List Gc)) (k3:Nat) (k5:Nat):(Unit⊕Unit)→List Hb:=fun _=>[]
theorem XJ (l_0:(List Gc)) (k3:Nat) (k5:Nat) {s:Nat} {r:Unit⊕Unit} (h:lp (JG l_0 k3 k5) s=some r):DT 0 (.loop (GK Tryz.prog 38 [1,1,0,1,0,0,1,0,0,1,1,1,0,0,1,0,0,1,1,0,0])) (Ga6 l_0 k3 k5 s).st (Ga7 r) (PS.st (64,Vb l_0 k3 k5 r,Ga5 l_0 k3 k5 r)):=
 GN.lp_ht 0 400 (Ga6 l_0 k3 k5) Ga7 (fun q=>(64,Vb l_0 k3 k5 q,Ga5 l_0 k3 k5 q)) (Qa l_0 k3 k5) (by intro k6; kernel_rfl) h
def QQ (l_0:(List Gc)) (k3:Nat):Nat→HT (Nat⊕(Unit⊕Unit)) True
 | k5=>.run (cs 2 [oa]) (fun _=>Hg) <|
  .sp ((↑k5:Int)<(↑k3:Int))
  (.run [bt] (fun γ=>Gb (dT γ.2)) <|
  .bd (l_0[k5]?) fun x109=>.bd (l_0[k3]?) fun x111=>.run (cs 2 ((oN (.i k5))::oc::(oN (.v [.str x109.Name]))::(cs 2 [oN (.i k3),oc,oN (.v [.str x111.Name]),oa]))) (fun γ=>k2 (ir γ.1.2) (k2 (GD (f:=Gc.enc) (z:=8) (fun _=>rfl) γ.1.2) (k2 (GL (f:=Gc.enc) (z:=9) (j:=k5) (a:=0) (n:=1) (fun _=>rfl) γ.1.2 (by decide) rfl) (k2 (ir γ.2) (k2 (GD (f:=Gc.enc) (z:=8) (fun _=>rfl) γ.2) (Gb (GL (f:=Gc.enc) (z:=9) (j:=k3) (a:=0) (n:=1) (fun _=>rfl) γ.2 (by decide) rfl))))))) <|
  .sp (x109.Name=x111.Name)
  (.run [bt,oc] (fun γ=>Gb (Gu γ.2)) <|
  .leaf (.inr (.inl ())) [])
  (.run [bf,oc] (fun γ=>Gb (Gz γ.2)) <|
  .bd (lp (JG l_0 k3 k5) (0:Nat)) fun qq=>.cs qq (fun o114=>.run [.fcut 0 .ret [(2,jI 9)] [] [] [(0,.any),(3,.any),(5,.any),(6,jI (↑(0:Nat):Int))] []] (fun γ=>k2 (rfl:(jI 0:AV)=jI (↑(0:Nat):Int)) (Gb (XJ l_0 k3 k5 (s:=(0:Nat)) (r:=Sum.inl o114) (eS γ.1.2 γ.2)))) <|
  .leaf (.inr (.inl ())) [])
  (fun o114=>.run [.fcut 0 (.exit 4) (Vb l_0 k3 k5 (Sum.inr (o114))) [] [] [(0,.any),(3,.any),(5,.any),(6,jI (↑(0:Nat):Int))] []] (fun γ=>k2 (rfl:(jI 0:AV)=jI (↑(0:Nat):Int)) (Gb (XJ l_0 k3 k5 (s:=(0:Nat)) (r:=Sum.inr (o114)) (eS γ.1.2 γ.2)))) <|
  .gd (GS .i64 ((↑k5:Int)+1)) <| .run [oc,ow,oc] (fun γ=>Gb γ.2) <|
  .leaf (.inl (k5+1)) [])))
  (.run [bf] (fun γ=>Gb (dF γ.2)) <|
  .leaf (.inr (.inr (()))) [])
def J6 (l_0:(List Gc)) (k3:Nat):Nat→Option (Nat⊕(Unit⊕Unit)):=fun s=>(QQ l_0 k3 s).den
def GcM (l_0:(List Gc)) (k3:Nat):Nat→PS:=fun s=>(64,[(0,.lst (fl Gc.enc l_0) l_0.length),(3,jI (↑k3:Int)),(5,jI (↑s:Int))],[])
def GcN:(Unit⊕Unit)→Hm:=fun q=>match q with | Sum.inl o=>.ret | Sum.inr (o)=>(.exit 2)
def Xc (l_0:(List Gc)) (k3:Nat):(Unit⊕Unit)→List (Nat×AV):=fun q=>match q with | Sum.inl o=>[(2,jI 9)] | Sum.inr (o)=>[(0,.lst (fl Gc.enc l_0) l_0.length),(3,jI (↑k3:Int))]
def GcL (l_0:(List Gc)) (k3:Nat):(Unit⊕Unit)→List Hb:=fun _=>[]
theorem YY (l_0:(List Gc)) (k3:Nat) {s:Nat} {r:Unit⊕Unit} (h:lp (J6 l_0 k3) s=some r):DT 0 (.loop (GK Tryz.prog 38 [1,1,0,1,0,0,1,0,0,1,1,1,0,0])) (GcM l_0 k3 s).st (GcN r) (PS.st (64,Xc l_0 k3 r,GcL l_0 k3 r)):=
 GN.lp_ht 0 400 (GcM l_0 k3) GcN (fun q=>(64,Xc l_0 k3 q,GcL l_0 k3 q)) (QQ l_0 k3) (by intro k5; kernel_rfl) h
def RP (l_0:(List Gc)):Nat→HT (Nat⊕(Int⊕Unit)) True
 | k3=>.run (cs 3 [oa]) (fun _=>Hg) <|
  .sp ((↑k3:Int)<(↑l_0.length:Int))
  (.run [bt] (fun γ=>Gb (dT γ.2)) <|
  .bd (l_0[k3]?) fun x72=>.bd (Glu x72) fun r74=>.run (cs 2 ((oN (.i k3))::(oN (.v [.str x72.Name,.str x72.Agency,.bool x72.Prepay,.lst (fl Gn.enc x72.Owned) x72.Owned.length,jI x72.Refill.Below,jI x72.Refill.Cents,jI x72.Refill.Tries,jI x72.Refill.Wait,.bool x72.Exempt]))::(rN [.any] (jI r74) [])::(cs 2 [oa]))) (fun γ=>k2 (ir γ.1.2) (k2 (GD (f:=Gc.enc) (z:=8) (fun _=>rfl) γ.1.2) (k2 (GX (f:=Gc.enc) (z:=9) (j:=k3) (fun _=>rfl) γ.1.2 rfl) (Gb (GrG x72 r74 γ.2))))) <|
  .sp (r74=(0:Int))
  (.run [bf,oc] (fun γ=>Gb (Gx (Gu γ.2))) <|
  .bd (lp (J6 l_0 k3) (0:Nat)) fun qq=>.cs qq (fun o77=>.run [.fcut 0 .ret [(2,jI 9)] [] [] [(0,.any),(3,.any),(5,jI (↑(0:Nat):Int))] []] (fun γ=>k2 (rfl:(jI 0:AV)=jI (↑(0:Nat):Int)) (Gb (YY l_0 k3 (s:=(0:Nat)) (r:=Sum.inl o77) (eS γ.1.2 γ.2)))) <|
  .leaf (.inr (.inl 9)) [])
  (fun o77=>.run [.fcut 0 (.exit 2) (Xc l_0 k3 (Sum.inr (o77))) [] [] [(0,.any),(3,.any),(5,jI (↑(0:Nat):Int))] []] (fun γ=>k2 (rfl:(jI 0:AV)=jI (↑(0:Nat):Int)) (Gb (YY l_0 k3 (s:=(0:Nat)) (r:=Sum.inr (o77)) (eS γ.1.2 γ.2)))) <|
  .gd (GS .i64 ((↑k3:Int)+1)) <| .run [oc,ow,oc] (fun γ=>Gb γ.2) <|
  .leaf (.inl (k3+1)) []))
  (.run (bt::(cs 2 [])) (fun γ=>Gb (Gy (Gz γ.2))) <|
  .leaf (.inr (.inl r74)) []))
  (.run [bf] (fun γ=>Gb (dF γ.2)) <|
  .leaf (.inr (.inr (()))) [])
def Kv (l_0:(List Gc)):Nat→Option (Nat⊕(Int⊕Unit)):=fun s=>(RP l_0 s).den
def GeH (l_0:(List Gc)):Nat→PS:=fun s=>(64,[(0,.lst (fl Gc.enc l_0) l_0.length),(3,jI (↑s:Int))],[])
def GeJ:(Int⊕Unit)→Hm:=fun q=>match q with | Sum.inl o=>.ret | Sum.inr (o)=>(.exit 0)
def GeI (l_0:(List Gc)):(Int⊕Unit)→List (Nat×AV):=fun q=>match q with | Sum.inl o=>[(2,jI o)] | Sum.inr (o)=>[]
def GeG (l_0:(List Gc)):(Int⊕Unit)→List Hb:=fun _=>[]
theorem Z3 (l_0:(List Gc)) {s:Nat} {r:Int⊕Unit} (h:lp (Kv l_0) s=some r):DT 0 (.loop (GK Tryz.prog 38 [1,1,0,1,0,0])) (GeH l_0 s).st (GeJ r) (PS.st (64,GeI l_0 r,GeG l_0 r)):=
 GN.lp_ht 0 400 (GeH l_0) GeJ (fun q=>(64,GeI l_0 q,GeG l_0 q)) (RP l_0) (by intro k3; kernel_rfl) h
def GdN (l_0:(List Gc)):HT Int True:=.run (cs 3 [oa]) (fun _=>Hg) <|
  .sp ((↑l_0.length:Int)>(1024:Int))
  (.run [bt,oc] (fun γ=>Gb (dT γ.2)) <|
  .leaf 3 [])
  (.run [bf,oc] (fun γ=>Gb (dF γ.2)) <|
  .bd (lp (Kv l_0) (0:Nat)) fun qq=>.cs qq (fun o2=>.run [.fcut 0 .ret [(2,jI o2)] [] [] [(0,.any),(3,jI (↑(0:Nat):Int))] []] (fun γ=>k2 (rfl:(jI 0:AV)=jI (↑(0:Nat):Int)) (Gb (Z3 l_0 (s:=(0:Nat)) (r:=Sum.inl o2) (eS γ.1.2 γ.2)))) <|
  .leaf o2 [])
  (fun o2=>.run [.fcut 0 (.exit 0) [] [] [] [(0,.any),(3,jI (↑(0:Nat):Int))] [],oc] (fun γ=>k2 (rfl:(jI 0:AV)=jI (↑(0:Nat):Int)) (Gb (Z3 l_0 (s:=(0:Nat)) (r:=Sum.inr (o2)) (eS γ.1.2 γ.2)))) <|
  .leaf 0 []))
def M2 (l_0:(List Gc)):Option Int:=(GdN l_0).den
theorem UY (l_0:(List Gc)) (r:Int) (h:M2 l_0=some r):RT 38 [.lst (fl Gc.enc l_0) l_0.length] (jI r) []:=
 HA.of_ht 400 (GdN l_0) (fun (r:Int)=>jI r) (fun (r:Int)=>[]) (by kernel_rfl) h
end
set_option maxHeartbeats 4000000
noncomputable section
def GwB (o:Gn):Int:=
 if (o.Tag=[]↔o.Plate=[]) then 1 else if o.Tag≠[]∧chk o.Tag≠0 then 18 else if o.Plate≠[]∧((plN o.Plate).2≠0∨(plN o.Plate).1≠o.Plate) then 19
 else if Ub o.Time=false then 12 else 0
theorem beqN (a b:List UInt8):((a==[])=(b==[]))↔(a=[]↔b=[]):=by cases a <;> cases b <;> simp
theorem GjY (o:Gn) (h:Ls o.Plate):US o=some (GwB o):=by
 have hn:=GfR o.Plate (by unfold Ls at h; omega)
 simp only [US,VF,dA,hn,Gsy,Uw,Hd,beqN,GwB]
 clear hn h
 generalize plN o.Plate=q
 generalize Ub o.Time=w
 generalize chk o.Tag=c
 cases w <;> by_cases h1:o.Tag=[] <;> by_cases h2:o.Plate=[] <;> simp only [h1,h2] <;> grind
theorem GmN (o:Gn) (h:Ls o.Plate):Gfl o=some (GwB o):=by
 have hn:=GfS o.Plate (by unfold Ls at h; omega)
 simp only [Gfl,Gfm,dA,hn,GqB,ZC,Hd,beqN,GwB]
 clear hn h
 generalize plN o.Plate=q
 generalize Ub o.Time=w
 generalize chk o.Tag=c
 cases w <;> by_cases h1:o.Tag=[] <;> by_cases h2:o.Plate=[] <;> simp only [h1,h2] <;> grind
def Vf (o x:Gn):Bool:=decide (x.Tag=o.Tag∧x.Plate=o.Plate∧Ub x.Time=true∧Ub o.Time=true∧x.Time.From<o.Time.To∧o.Time.From<x.Time.To)
theorem YO (l:List Gn) (hl:Sm l) (o:Gn):K4 l o=some (l.any (Vf o)):=by
 simp only [K4,Ud,dA]
 have key:lp (H8 l o) 0=some (HQ (if l.any (Vf o) then some () else none)):=by
  rw [← Hq l 0]
  refine GP (fun k x hx=>?_) ?_
  ·obtain ⟨hk,i1,i2,hkl,h1,h2⟩:=rd hl hx
   simp only [H8,KD,dA,hx,Hd,Uw,i1,if_true,hkl]
   clear i1 i2 hl
   unfold Vf
   by_cases e1:x.Tag=o.Tag
   ·by_cases e2:x.Plate=o.Plate
    ·rcases Hk (Ub x.Time) with e3 | e3 <;> rcases Hk (Ub o.Time) with e4 | e4 <;> simp only [e1,e2,e3,e4,if_true,if_false,Bool.false_eq_true,true_and,false_and,and_false,decide_false,K0]
     have v1:x.Time.From<x.Time.To:=(of_decide_eq_true e3).2.1
     have v2:o.Time.From<o.Time.To:=(of_decide_eq_true e4).2.1
     clear e3 e4
     by_cases c1:x.Time.From<o.Time.From <;> by_cases c2:o.Time.To<x.Time.To <;> simp only [c1,c2,if_true,if_false] <;> grind [K0]
    ·simp only [e1,e2,if_true,if_false,false_and,and_false,decide_false,Bool.false_eq_true,K0]
   ·simp only [e1,if_false,false_and,decide_false,Bool.false_eq_true,K0]
  ·simp only [H8,KD,d3,d6,d1]
   rw [if_neg (by omega)]
 rw [key]
 cases l.any (Vf o) <;> rfl
theorem GlU (x o:Gn):GcO x o=some (Vf o x):=by
 simp only [GcO,GdO,d1,d2,d3,d5,d6,ZC,Hd,Vf]
 grind
theorem GbH (l:List Gn) (hl:Sm l) (o:Gn):Xd l o=some (l.any (Vf o)):=by
 simp only [Xd,Ga8,dA]
 have key:lp (J7 l o) 0=some (HQ (if l.any (Vf o) then some () else none)):=by
  rw [← Hq l 0]
  refine GP (fun k x hx=>?_) ?_
  ·obtain ⟨hk,i1,i2,hkl,h1,h2⟩:=rd hl hx
   simp only [J7,QR,dA,hx,Hd,GlU,i1,if_true,hkl]
   cases Vf o x <;> rfl
  ·simp only [J7,QR,d3,d6,d1]
   rw [if_neg (by omega)]
 rw [key]
 cases l.any (Vf o) <;> rfl
def GtV (l:List Gn) (k:Nat) (x:Gn):Option Int:=if GwB x≠0 then some (GwB x) else if (l.take k).any (Vf x) then some 9 else none
def Gon (a:Gc):Int:=
 if HR a.Name=false then 6 else if a.Agency≠[]∧HR a.Agency=false then 30 else if a.Owned.length>64 then 3 else (GJ (GtV a.Owned) 0 a.Owned).getD 0
def GpF (a:Gc):Prop:=∀ o ∈ a.Owned,Ls o.Plate
theorem Gmd (a:Gc) (hs:Sm a.Owned) (ha:GpF a):lp (Jd a) 0=some (HQ (GJ (GtV a.Owned) 0 a.Owned)):=by
 refine GP (fun k x hx=>?_) ?_
 ·obtain ⟨hk,i1,i2,hkl,h1,h2⟩:=rd hs hx
  have hkl2:k≤a.Owned.length:=by omega
  have hst:Sm (a.Owned.take k):=by unfold Sm at hs ⊢; rw [List.length_take]; omega
  simp only [Jd,M5,dA,hx,Hd,GjY x (ha x (List.mem_of_getElem? hx)),YO _ hst,i1,if_true,hkl,hkl2,GtV]
  clear i1 i2 hs hst ha
  rcases Hk ((a.Owned.take k).any (Vf x)) with hh | hh <;> simp only [hh,if_true,if_false,Bool.false_eq_true] <;> clear hh <;> grind [K0]
 ·simp only [Jd,M5,d3,d6,d1]
  rw [if_neg (by omega)]
theorem Gmc (a:Gc) (ha:GpF a):Yj a=some (Gon a):=by
 simp only [Yj,Zt,dA,JX,Hd,Gon]
 rcases Hk (HR a.Name) with hn | hn <;> simp only [hn,if_true,if_false,Bool.true_eq_false,Bool.false_eq_true]
 by_cases hl:a.Owned.length>64
 ·rcases Hk (HR a.Agency) with hn | hn <;> simp only [hn] <;> grind
 have key:=Gmd a (by show _≤_; omega) ha
 simp only [key,Hd]
 clear key ha
 rcases Hk (HR a.Agency) with hn | hn <;> cases GJ (GtV a.Owned) 0 a.Owned <;> simp only [hn,HQ,eN,eM,Option.getD_some,Option.getD_none] <;> grind
theorem Gpo (a:Gc) (hs:Sm a.Owned) (ha:GpF a):lp (KH a) 0=some (HQ (GJ (GtV a.Owned) 0 a.Owned)):=by
 refine GP (fun k x hx=>?_) ?_
 ·obtain ⟨hk,i1,i2,hkl,h1,h2⟩:=rd hs hx
  have hkl2:k≤a.Owned.length:=by omega
  have hst:Sm (a.Owned.take k):=by unfold Sm at hs ⊢; rw [List.length_take]; omega
  simp only [KH,YA,dA,hx,Hd,GmN x (ha x (List.mem_of_getElem? hx)),GbH _ hst,i1,if_true,hkl,hkl2,GtV]
  clear i1 i2 hs hst ha
  rcases Hk ((a.Owned.take k).any (Vf x)) with hh | hh <;> simp only [hh,if_true,if_false,Bool.false_eq_true] <;> clear hh <;> grind [K0]
 ·simp only [KH,YA,d3,d6,d1]
  rw [if_neg (by omega)]
theorem Gpn (a:Gc) (ha:GpF a):Glu a=some (Gon a):=by
 simp only [Glu,Gko,dA,U0,Hd,Gon]
 rcases Hk (HR a.Name) with hn | hn <;> simp only [hn,if_true,if_false,Bool.true_eq_false,Bool.false_eq_true]
 by_cases hl:a.Owned.length>64
 ·rcases Hk (HR a.Agency) with hn | hn <;> simp only [hn] <;> grind
 have key:=Gpo a (by show _≤_; omega) ha
 simp only [key,Hd]
 clear key ha
 rcases Hk (HR a.Agency) with hn | hn <;> cases GJ (GtV a.Owned) 0 a.Owned <;> simp only [hn,HQ,eN,eM,Option.getD_some,Option.getD_none] <;> grind
def GtU (x y:Gc):Bool:=decide (y.Name=x.Name)||x.Owned.any fun o=>y.Owned.any (Vf o)
def Gq2 (l:List Gc) (k:Nat) (x:Gc):Option Int:=if Gon x≠0 then some (Gon x) else if (l.take k).any (GtU x) then some 9 else none
def Gom (l:List Gc):Int:=if l.length>1024 then 3 else (GJ (Gq2 l) 0 l).getD 0
theorem Ge9 {a:Gc} (h:Gon a=0):a.Owned.length≤64:=by
 unfold Gon at h
 grind
theorem Gqa {l:List Gc} {k:Nat} {x:Gc} (h:Gq2 l k x=none):Gon x=0:=by unfold Gq2 at h; grind
theorem Git (l:List Gc) (ha:∀ a ∈ l,GpF a):MF l=some (Gom l):=by
 simp only [MF,U7,dA,Gom]
 by_cases hl:l.length>1024
 ·rw [if_pos (by omega),if_pos hl]
 rw [if_neg (by omega),if_neg hl]
 have hs:Sm l:=by show _≤_; omega
 have key:lp (Je l) 0=some (HQ (GJ (Gq2 l) 0 l)):=by
  refine GoU (fun k x hx hb=>?_) ?_
  ·obtain ⟨hk,i1,i2,hkl,h1,h2⟩:=rd hs hx
   have hkl2:k≤l.length:=by omega
   simp only [Je,KR,dA,hx,Hd,Gmc x (ha x (List.mem_of_getElem? hx)),i1,if_true,hkl,hkl2,Gq2]
   by_cases h0:Gon x=0
   rotate_left
   ·clear i1 i2 hs hb ha; simp only [h0]; grind [K0]
   have hxo:Sm x.Owned:=by have:=Ge9 h0; show _≤_; omega
   have hq:lp (H6 l k x) 0=some (HQ (if (l.take k).any (GtU x) then some () else none)):=by
    rw [← Hq (l.take k) 0]
    have hst:Sm (l.take k):=by show _≤_; rw [List.length_take]; omega
    refine GP (fun j y hy=>?_) ?_
    ·obtain ⟨hj,i3,_,hjl,_,_⟩:=rd hst hy
     have hyo:Sm y.Owned:=by
      rw [List.length_take] at hj
      rw [List.getElem?_take,if_pos (by omega)] at hy
      have:=Ge9 (Gqa (hb j y (by omega) hy)); show _≤_; omega
     have hw:lp (H7 l k x j y) 0=some (HQ (if x.Owned.any (fun o=>y.Owned.any (Vf o)) then some () else none)):=by
      rw [← Hq x.Owned 0]
      refine GP (fun n o ho=>?_) ?_
      ·obtain ⟨hn,i4,_,hnl,_,_⟩:=rd hxo ho
       simp only [H7,KC,dA,ho,Hd,YO _ hyo,i4,if_true,hnl]
       cases y.Owned.any (Vf o) <;> rfl
      ·simp only [H7,KC,d3,d6,d1]
       rw [if_neg (by omega)]
     simp only [H6,Kz,dA,hy,hw,Hd,i3,if_true,hjl,GtU]
     clear i1 i2 i3 hs hst hw hb ha hyo hxo
     by_cases e:y.Name=x.Name <;> rcases Hk (x.Owned.any fun o=>y.Owned.any (Vf o)) with hh | hh <;> simp only [e,hh,HQ,eN,eM,if_true,if_false,Bool.false_eq_true,decide_true,decide_false,Bool.or_true,Bool.or_false,Bool.true_or,Bool.false_or,K0]
    ·simp only [H6,Kz,d3,d6,d1]
     rw [if_neg (by omega)]
   simp only [hq,h0,Hd]
   clear i1 i2 hs hq hb ha hxo
   rcases Hk ((l.take k).any (GtU x)) with hh | hh <;> simp only [hh,HQ,eN,eM,if_true,if_false,Bool.false_eq_true] <;> clear hh <;> grind [K0]
  ·simp only [Je,KR,d3,d6,d1]
   rw [if_neg (by omega)]
 rw [key]
 cases GJ (Gq2 l) 0 l <;> rfl
theorem GlT (l:List Gc) (ha:∀ a ∈ l,GpF a):M2 l=some (Gom l):=by
 simp only [M2,GdN,dA,Gom]
 by_cases hl:l.length>1024
 ·rw [if_pos (by omega),if_pos hl]
 rw [if_neg (by omega),if_neg hl]
 have hs:Sm l:=by show _≤_; omega
 have key:lp (Kv l) 0=some (HQ (GJ (Gq2 l) 0 l)):=by
  refine GoU (fun k x hx hb=>?_) ?_
  ·obtain ⟨hk,i1,i2,hkl,h1,h2⟩:=rd hs hx
   simp only [Kv,RP,dA,hx,Hd,Gpn x (ha x (List.mem_of_getElem? hx)),i1,if_true,hkl,Gq2]
   by_cases h0:Gon x=0
   rotate_left
   ·clear i1 i2 hs hb ha; simp only [h0]; grind [K0]
   have hxo:Sm x.Owned:=by have:=Ge9 h0; show _≤_; omega
   have hq:lp (J6 l k) 0=some (HQ (if (l.take k).any (GtU x) then some () else none)):=by
    rw [← Hq (l.take k) 0]
    refine JW (l:=l) (n:=k) (by omega) (fun j y hj hy=>?_) ?_
    ·obtain ⟨_,i3,_,_,_,_⟩:=rd hs hy
     have hjl:(j:Int)<(k:Int):=by omega
     have hyo:Sm y.Owned:=by have:=Ge9 (Gqa (hb j y (by omega) hy)); show _≤_; omega
     have hw:lp (JG l k j) 0=some (HQ (if x.Owned.any (fun o=>y.Owned.any (Vf o)) then some () else none)):=by
      rw [← Hq x.Owned 0]
      refine GP (fun n o ho=>?_) ?_
      ·obtain ⟨hn,i4,_,hnl,_,_⟩:=rd hxo ho
       simp only [JG,Qa,dA,hx,hy,ho,Hd,GbH _ hyo,i4,if_true,hnl]
       cases y.Owned.any (Vf o) <;> rfl
      ·simp only [JG,Qa,d3,d5,d6,d1,hx,Hd]
       rw [if_neg (by omega)]
     simp only [J6,QQ,dA,hx,hy,hw,Hd,i3,if_true,hjl,GtU]
     clear i1 i2 i3 hs hw hb ha hyo hxo
     by_cases e:y.Name=x.Name <;> rcases Hk (x.Owned.any fun o=>y.Owned.any (Vf o)) with hh | hh <;> simp only [e,hh,HQ,eN,eM,if_true,if_false,Bool.false_eq_true,decide_true,decide_false,Bool.or_true,Bool.or_false,Bool.true_or,Bool.false_or,K0]
    ·simp only [J6,QQ,d3,d6,d1]
     rw [if_neg (by omega)]
   simp only [hq,h0,Hd]
   clear i1 i2 hs hq hb ha hxo
   rcases Hk ((l.take k).any (GtU x)) with hh | hh <;> simp only [hh,HQ,eN,eM,if_true,if_false,Bool.false_eq_true] <;> clear hh <;> grind [K0]
  ·simp only [Kv,RP,d3,d6,d1]
   rw [if_neg (by omega)]
 rw [key]
 cases GJ (Gq2 l) 0 l <;> rfl
end
end Go.Proofs.YtdifanfcaemokaaGreatDoor.Av
