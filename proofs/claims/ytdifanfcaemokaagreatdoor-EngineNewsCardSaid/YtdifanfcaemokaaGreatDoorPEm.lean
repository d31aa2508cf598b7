import Derived.Test.YtdifanfcaemokaaGreatDoorPEz
open Prod (fst)
open Int (tdiv tmod)
set_option maxHeartbeats 4000000
set_option maxRecDepth 100000
set_option linter.unusedVariables false
set_option linter.unusedSimpArgs false
namespace Go.Proofs.YtdifanfcaemokaaGreatDoor.Av
noncomputable section
open Go Go.Proofs
def Mk (s_0:(List UInt8)):(Nat×(List UInt8))→HT ((Nat×(List UInt8))⊕(Unit⊕(List UInt8))) True
 | (k9,b0)=>.run [oa] (fun _=>Hg) <|
  .sp ((↑k9:Int)<(↑s_0.length:Int))
  (.run (bt::(cs 2 [])) (fun γ=>Gb (dT γ.2)) <|
  .bd (s_0[k9]?) fun x66=>.run (cs 2 [oN (.i k9),.tr (.eqt (.t 14) (.int .u8 (x66.toNat:Int))),oc]) (fun γ=>k2 (ir γ.2) (Gb ((HB γ.2):(.int .u8 ((List.getD s_0 k9 0).toNat:Int):AV)=.int .u8 (x66.toNat:Int)))) <|
  .sp ((x66.toNat:Int)≥(97:Int))
  (.run [oc,oa,oc,tc,oa,oc] (fun γ=>Gb (dT γ.2)) <|
  .sp ((x66.toNat:Int)≤(122:Int))
  (.run [bt] (fun γ=>Gb (dT γ.2)) <|
  .gd (GS .u8 ((x66.toNat:Int) - 32)) <| .run [oc,ow,oc] (fun γ=>Gb γ.2) <|
  .sp (((x66.toNat:Int) - 32)=(32:Int))
  (.run (oc::oa::oc::tc::(cs 2 [bt])) (fun γ=>k2 (Gu γ.2) (Gb tT)) <|
  .gd (GS .i64 ((↑k9:Int)+1)) <| .run [ow,oc] (fun γ=>Gb γ.2) <|
  .leaf (.inl ((k9+1),b0)) [0])
  (.run [oc,oa,oc,oF,oa,oc] (fun γ=>Gb (Gz γ.2)) <|
  .sp (((x66.toNat:Int) - 32)=(45:Int))
  (.run [bt] (fun γ=>Gb (Gu γ.2)) <|
  .gd (GS .i64 ((↑k9:Int)+1)) <| .run [ow,oc] (fun γ=>Gb γ.2) <|
  .leaf (.inl ((k9+1),b0)) [0])
  (.run [bf] (fun γ=>Gb (Gz γ.2)) <|
  .sp (((x66.toNat:Int) - 32)<(65:Int))
  (.sp (((x66.toNat:Int) - 32)<(48:Int))
  (.run (oc::oa::oc::tc::(cs 4 (oa::oc::tc::(cs 8 (bt::(cs 2 [])))))) (fun γ=>k2 (dT γ.1.2) (k2 (dT γ.2) (Gb tT))) <|
  .leaf (.inr (.inl ())) [])
  (.sp (((x66.toNat:Int) - 32)>(57:Int))
  (.run (oc::oa::oc::tc::(cs 4 (oa::oc::oF::oa::(cs 3 (tc::(cs 3 (bt::(cs 2 [])))))))) (fun γ=>k2 (dT γ.1.1.2) (k2 (dF γ.1.2) (k2 (dT γ.2) (Gb tT)))) <|
  .leaf (.inr (.inl ())) [])
  (.run (oc::oa::oc::tc::(cs 4 (oa::oc::oF::oa::(cs 3 [oF,oc,oa,oc])))) (fun γ=>k2 (dT γ.1.1.2) (k2 (dF γ.1.2) (Gb (dF γ.2)))) <|
  .sp ((↑b0.length:Int)=(10:Int))
  (.run (bt::(cs 2 [])) (fun γ=>Gb (Gu γ.2)) <|
  .leaf (.inr (.inl ())) [])
  (.run [bf] (fun γ=>Gb (Gz γ.2)) <|
  .gd (b0.length+1≤140737488355232) <| .run (cs 3 [oN (.ap 4),.tr (.eqc 2 (JN (b0++[(UInt8.ofNat (Int.toNat ((x66.toNat:Int) - 32)))]))),.tr (.eqt (.t 51) (.vec 2 ((b0++[(UInt8.ofNat (Int.toNat ((x66.toNat:Int) - 32)))]).length) 1)),oc]) (fun γ=>k2 ((nB rfl):0+1≤List.length ([.int .u8 ((x66.toNat:Int) - 32)]:List AV)) (k2 (Hz:List.length ((JN b0):List AV)=b0.length) (k2 (rfl:List.all ([.int .u8 ((x66.toNat:Int) - 32)]:List AV) AV.one=true) (k2 γ.2 (k2 ((JO (congrArg (fun q=>[q]) (GqG (RB γ)))):(JN b0)++[.int .u8 ((x66.toNat:Int) - 32)]=(JN (b0++[(UInt8.ofNat (Int.toNat ((x66.toNat:Int) - 32)))]))) (Gb ((by simp <;> omega):(.vec 2 (b0.length+1) 1:AV)=.vec 2 ((b0++[(UInt8.ofNat (Int.toNat ((x66.toNat:Int) - 32)))]).length) 1))))))) <|
  .gd (GS .i64 ((↑k9:Int)+1)) <| .run [ow,oc] (fun γ=>Gb γ.2) <|
  .leaf (.inl ((k9+1),(b0++[(UInt8.ofNat (Int.toNat ((x66.toNat:Int) - 32)))]))) [2]))))
  (.sp (((x66.toNat:Int) - 32)>(90:Int))
  (.sp (((x66.toNat:Int) - 32)<(48:Int))
  (.run (oc::oa::oc::oF::oa::(cs 2 (tc::oa::oc::tc::(cs 8 (bt::(cs 2 [])))))) (fun γ=>k2 (dF γ.1.1.2) (k2 (dT γ.1.2) (k2 (dT γ.2) (Gb tT)))) <|
  .leaf (.inr (.inl ())) [])
  (.sp (((x66.toNat:Int) - 32)>(57:Int))
  (.run (oc::oa::oc::oF::oa::(cs 2 (tc::oa::oc::oF::oa::(cs 3 (tc::(cs 3 (bt::(cs 2 [])))))))) (fun γ=>k2 (dF (G0 γ)) (k2 (dT γ.1.1.2) (k2 (dF γ.1.2) (k2 (dT γ.2) (Gb tT))))) <|
  .leaf (.inr (.inl ())) [])
  (.run (oc::oa::oc::oF::oa::(cs 2 (tc::oa::oc::oF::oa::(cs 3 [oF,oc,oa,oc])))) (fun γ=>k2 (dF (G0 γ)) (k2 (dT γ.1.1.2) (k2 (dF γ.1.2) (Gb (dF γ.2))))) <|
  .sp ((↑b0.length:Int)=(10:Int))
  (.run (bt::(cs 2 [])) (fun γ=>Gb (Gu γ.2)) <|
  .leaf (.inr (.inl ())) [])
  (.run [bf] (fun γ=>Gb (Gz γ.2)) <|
  .gd (b0.length+1≤140737488355232) <| .run (cs 3 [oN (.ap 4),.tr (.eqc 2 (JN (b0++[(UInt8.ofNat (Int.toNat ((x66.toNat:Int) - 32)))]))),.tr (.eqt (.t 51) (.vec 2 ((b0++[(UInt8.ofNat (Int.toNat ((x66.toNat:Int) - 32)))]).length) 1)),oc]) (fun γ=>k2 ((nB rfl):0+1≤List.length ([.int .u8 ((x66.toNat:Int) - 32)]:List AV)) (k2 (Hz:List.length ((JN b0):List AV)=b0.length) (k2 (rfl:List.all ([.int .u8 ((x66.toNat:Int) - 32)]:List AV) AV.one=true) (k2 γ.2 (k2 ((JO (congrArg (fun q=>[q]) (GqG (yA8 γ)))):(JN b0)++[.int .u8 ((x66.toNat:Int) - 32)]=(JN (b0++[(UInt8.ofNat (Int.toNat ((x66.toNat:Int) - 32)))]))) (Gb ((by simp <;> omega):(.vec 2 (b0.length+1) 1:AV)=.vec 2 ((b0++[(UInt8.ofNat (Int.toNat ((x66.toNat:Int) - 32)))]).length) 1))))))) <|
  .gd (GS .i64 ((↑k9:Int)+1)) <| .run [ow,oc] (fun γ=>Gb γ.2) <|
  .leaf (.inl ((k9+1),(b0++[(UInt8.ofNat (Int.toNat ((x66.toNat:Int) - 32)))]))) [2]))))
  (.run (oc::oa::oc::oF::oa::(cs 2 (oF::(cs 9 [oa,oc])))) (fun γ=>k2 (dF γ.1.2) (Gb (dF γ.2))) <|
  .sp ((↑b0.length:Int)=(10:Int))
  (.run (bt::(cs 2 [])) (fun γ=>Gb (Gu γ.2)) <|
  .leaf (.inr (.inl ())) [])
  (.run [bf] (fun γ=>Gb (Gz γ.2)) <|
  .gd (b0.length+1≤140737488355232) <| .run (cs 3 [oN (.ap 4),.tr (.eqc 2 (JN (b0++[(UInt8.ofNat (Int.toNat ((x66.toNat:Int) - 32)))]))),.tr (.eqt (.t 51) (.vec 2 ((b0++[(UInt8.ofNat (Int.toNat ((x66.toNat:Int) - 32)))]).length) 1)),oc]) (fun γ=>k2 ((nB rfl):0+1≤List.length ([.int .u8 ((x66.toNat:Int) - 32)]:List AV)) (k2 (Hz:List.length ((JN b0):List AV)=b0.length) (k2 (rfl:List.all ([.int .u8 ((x66.toNat:Int) - 32)]:List AV) AV.one=true) (k2 γ.2 (k2 ((JO (congrArg (fun q=>[q]) (GqG (yA6 γ)))):(JN b0)++[.int .u8 ((x66.toNat:Int) - 32)]=(JN (b0++[(UInt8.ofNat (Int.toNat ((x66.toNat:Int) - 32)))]))) (Gb ((by simp <;> omega):(.vec 2 (b0.length+1) 1:AV)=.vec 2 ((b0++[(UInt8.ofNat (Int.toNat ((x66.toNat:Int) - 32)))]).length) 1))))))) <|
  .gd (GS .i64 ((↑k9:Int)+1)) <| .run [ow,oc] (fun γ=>Gb γ.2) <|
  .leaf (.inl ((k9+1),(b0++[(UInt8.ofNat (Int.toNat ((x66.toNat:Int) - 32)))]))) [2]))))))
  (.run [bf] (fun γ=>Gb (dF γ.2)) <|
  .sp ((x66.toNat:Int)=(32:Int))
  (.run (oc::oa::oc::tc::(cs 2 [bt])) (fun γ=>k2 (Gu γ.2) (Gb tT)) <|
  .gd (GS .i64 ((↑k9:Int)+1)) <| .run [ow,oc] (fun γ=>Gb γ.2) <|
  .leaf (.inl ((k9+1),b0)) [0])
  (.run [oc,oa,oc,oF,oa,oc] (fun γ=>Gb (Gz γ.2)) <|
  .sp ((x66.toNat:Int)=(45:Int))
  (.run [bt] (fun γ=>Gb (Gu γ.2)) <|
  .gd (GS .i64 ((↑k9:Int)+1)) <| .run [ow,oc] (fun γ=>Gb γ.2) <|
  .leaf (.inl ((k9+1),b0)) [0])
  (.run [bf] (fun γ=>Gb (Gz γ.2)) <|
  .sp ((x66.toNat:Int)<(65:Int))
  (.sp ((x66.toNat:Int)<(48:Int))
  (.run (oc::oa::oc::tc::(cs 4 (oa::oc::tc::(cs 8 (bt::(cs 2 [])))))) (fun γ=>k2 (dT γ.1.2) (k2 (dT γ.2) (Gb tT))) <|
  .leaf (.inr (.inl ())) [])
  (.sp ((x66.toNat:Int)>(57:Int))
  (.run (oc::oa::oc::tc::(cs 4 (oa::oc::oF::oa::(cs 3 (tc::(cs 3 (bt::(cs 2 [])))))))) (fun γ=>k2 (dT γ.1.1.2) (k2 (dF γ.1.2) (k2 (dT γ.2) (Gb tT)))) <|
  .leaf (.inr (.inl ())) [])
  (.run (oc::oa::oc::tc::(cs 4 (oa::oc::oF::oa::(cs 3 [oF,oc,oa,oc])))) (fun γ=>k2 (dT γ.1.1.2) (k2 (dF γ.1.2) (Gb (dF γ.2)))) <|
  .sp ((↑b0.length:Int)=(10:Int))
  (.run (bt::(cs 2 [])) (fun γ=>Gb (Gu γ.2)) <|
  .leaf (.inr (.inl ())) [])
  (.run [bf] (fun γ=>Gb (Gz γ.2)) <|
  .gd (b0.length+1≤140737488355232) <| .run (cs 3 [oN (.ap 4),.tr (.eqc 2 (JN (b0++[x66]))),.tr (.eqt (.t 51) (.vec 2 ((b0++[x66]).length) 1)),oc]) (fun γ=>k2 ((nB rfl):0+1≤List.length ([.int .u8 (x66.toNat:Int)]:List AV)) (k2 (Hz:List.length ((JN b0):List AV)=b0.length) (k2 (rfl:List.all ([.int .u8 (x66.toNat:Int)]:List AV) AV.one=true) (k2 γ.2 (k2 ((JO rfl):(JN b0)++[.int .u8 (x66.toNat:Int)]=(JN (b0++[x66]))) (Gb ((by simp <;> omega):(.vec 2 (b0.length+1) 1:AV)=.vec 2 ((b0++[x66]).length) 1))))))) <|
  .gd (GS .i64 ((↑k9:Int)+1)) <| .run [ow,oc] (fun γ=>Gb γ.2) <|
  .leaf (.inl ((k9+1),(b0++[x66]))) [2]))))
  (.sp ((x66.toNat:Int)>(90:Int))
  (.sp ((x66.toNat:Int)<(48:Int))
  (.run (oc::oa::oc::oF::oa::(cs 2 (tc::oa::oc::tc::(cs 8 (bt::(cs 2 [])))))) (fun γ=>k2 (dF γ.1.1.2) (k2 (dT γ.1.2) (k2 (dT γ.2) (Gb tT)))) <|
  .leaf (.inr (.inl ())) [])
  (.sp ((x66.toNat:Int)>(57:Int))
  (.run (oc::oa::oc::oF::oa::(cs 2 (tc::oa::oc::oF::oa::(cs 3 (tc::(cs 3 (bt::(cs 2 [])))))))) (fun γ=>k2 (dF (G0 γ)) (k2 (dT γ.1.1.2) (k2 (dF γ.1.2) (k2 (dT γ.2) (Gb tT))))) <|
  .leaf (.inr (.inl ())) [])
  (.run (oc::oa::oc::oF::oa::(cs 2 (tc::oa::oc::oF::oa::(cs 3 [oF,oc,oa,oc])))) (fun γ=>k2 (dF (G0 γ)) (k2 (dT γ.1.1.2) (k2 (dF γ.1.2) (Gb (dF γ.2))))) <|
  .sp ((↑b0.length:Int)=(10:Int))
  (.run (bt::(cs 2 [])) (fun γ=>Gb (Gu γ.2)) <|
  .leaf (.inr (.inl ())) [])
  (.run [bf] (fun γ=>Gb (Gz γ.2)) <|
  .gd (b0.length+1≤140737488355232) <| .run (cs 3 [oN (.ap 4),.tr (.eqc 2 (JN (b0++[x66]))),.tr (.eqt (.t 51) (.vec 2 ((b0++[x66]).length) 1)),oc]) (fun γ=>k2 ((nB rfl):0+1≤List.length ([.int .u8 (x66.toNat:Int)]:List AV)) (k2 (Hz:List.length ((JN b0):List AV)=b0.length) (k2 (rfl:List.all ([.int .u8 (x66.toNat:Int)]:List AV) AV.one=true) (k2 γ.2 (k2 ((JO rfl):(JN b0)++[.int .u8 (x66.toNat:Int)]=(JN (b0++[x66]))) (Gb ((by simp <;> omega):(.vec 2 (b0.length+1) 1:AV)=.vec 2 ((b0++[x66]).length) 1))))))) <|
  .gd (GS .i64 ((↑k9:Int)+1)) <| .run [ow,oc] (fun γ=>Gb γ.2) <|
  .leaf (.inl ((k9+1),(b0++[x66]))) [2]))))
  (.run (oc::oa::oc::oF::oa::(cs 2 (oF::(cs 9 [oa,oc])))) (fun γ=>k2 (dF γ.1.2) (Gb (dF γ.2))) <|
  .sp ((↑b0.length:Int)=(10:Int))
  (.run (bt::(cs 2 [])) (fun γ=>Gb (Gu γ.2)) <|
  .leaf (.inr (.inl ())) [])
  (.run [bf] (fun γ=>Gb (Gz γ.2)) <|
  .gd (b0.length+1≤140737488355232) <| .run (cs 3 [oN (.ap 4),.tr (.eqc 2 (JN (b0++[x66]))),.tr (.eqt (.t 51) (.vec 2 ((b0++[x66]).length) 1)),oc]) (fun γ=>k2 ((nB rfl):0+1≤List.length ([.int .u8 (x66.toNat:Int)]:List AV)) (k2 (Hz:List.length ((JN b0):List AV)=b0.length) (k2 (rfl:List.all ([.int .u8 (x66.toNat:Int)]:List AV) AV.one=true) (k2 γ.2 (k2 ((JO rfl):(JN b0)++[.int .u8 (x66.toNat:Int)]=(JN (b0++[x66]))) (Gb ((by simp <;> omega):(.vec 2 (b0.length+1) 1:AV)=.vec 2 ((b0++[x66]).length) 1))))))) <|
  .gd (GS .i64 ((↑k9:Int)+1)) <| .run [ow,oc] (fun γ=>Gb γ.2) <|
  .leaf (.inl ((k9+1),(b0++[x66]))) [2])))))))
  (.run (oc::oa::oc::oF::(cs 2 [bf])) (fun γ=>k2 (dF γ.2) (Gb fF)) <|
  .sp ((x66.toNat:Int)=(32:Int))
  (.run (oc::oa::oc::tc::(cs 2 [bt])) (fun γ=>k2 (Gu γ.2) (Gb tT)) <|
  .gd (GS .i64 ((↑k9:Int)+1)) <| .run [ow,oc] (fun γ=>Gb γ.2) <|
  .leaf (.inl ((k9+1),b0)) [0])
  (.run [oc,oa,oc,oF,oa,oc] (fun γ=>Gb (Gz γ.2)) <|
  .sp ((x66.toNat:Int)=(45:Int))
  (.run [bt] (fun γ=>Gb (Gu γ.2)) <|
  .gd (GS .i64 ((↑k9:Int)+1)) <| .run [ow,oc] (fun γ=>Gb γ.2) <|
  .leaf (.inl ((k9+1),b0)) [0])
  (.run [bf] (fun γ=>Gb (Gz γ.2)) <|
  .sp ((x66.toNat:Int)<(65:Int))
  (.sp ((x66.toNat:Int)<(48:Int))
  (.run (oc::oa::oc::tc::(cs 4 (oa::oc::tc::(cs 8 (bt::(cs 2 [])))))) (fun γ=>k2 (dT γ.1.2) (k2 (dT γ.2) (Gb tT))) <|
  .leaf (.inr (.inl ())) [])
  (.sp ((x66.toNat:Int)>(57:Int))
  (.run (oc::oa::oc::tc::(cs 4 (oa::oc::oF::oa::(cs 3 (tc::(cs 3 (bt::(cs 2 [])))))))) (fun γ=>k2 (dT γ.1.1.2) (k2 (dF γ.1.2) (k2 (dT γ.2) (Gb tT)))) <|
  .leaf (.inr (.inl ())) [])
  (.run (oc::oa::oc::tc::(cs 4 (oa::oc::oF::oa::(cs 3 [oF,oc,oa,oc])))) (fun γ=>k2 (dT γ.1.1.2) (k2 (dF γ.1.2) (Gb (dF γ.2)))) <|
  .sp ((↑b0.length:Int)=(10:Int))
  (.run (bt::(cs 2 [])) (fun γ=>Gb (Gu γ.2)) <|
  .leaf (.inr (.inl ())) [])
  (.run [bf] (fun γ=>Gb (Gz γ.2)) <|
  .gd (b0.length+1≤140737488355232) <| .run (cs 3 [oN (.ap 4),.tr (.eqc 2 (JN (b0++[x66]))),.tr (.eqt (.t 51) (.vec 2 ((b0++[x66]).length) 1)),oc]) (fun γ=>k2 ((nB rfl):0+1≤List.length ([.int .u8 (x66.toNat:Int)]:List AV)) (k2 (Hz:List.length ((JN b0):List AV)=b0.length) (k2 (rfl:List.all ([.int .u8 (x66.toNat:Int)]:List AV) AV.one=true) (k2 γ.2 (k2 ((JO rfl):(JN b0)++[.int .u8 (x66.toNat:Int)]=(JN (b0++[x66]))) (Gb ((by simp <;> omega):(.vec 2 (b0.length+1) 1:AV)=.vec 2 ((b0++[x66]).length) 1))))))) <|
  .gd (GS .i64 ((↑k9:Int)+1)) <| .run [ow,oc] (fun γ=>Gb γ.2) <|
  .leaf (.inl ((k9+1),(b0++[x66]))) [2]))))
  (.sp ((x66.toNat:Int)>(90:Int))
  (.sp ((x66.toNat:Int)<(48:Int))
  (.run (oc::oa::oc::oF::oa::(cs 2 (tc::oa::oc::tc::(cs 8 (bt::(cs 2 [])))))) (fun γ=>k2 (dF γ.1.1.2) (k2 (dT γ.1.2) (k2 (dT γ.2) (Gb tT)))) <|
  .leaf (.inr (.inl ())) [])
  (.sp ((x66.toNat:Int)>(57:Int))
  (.run (oc::oa::oc::oF::oa::(cs 2 (tc::oa::oc::oF::oa::(cs 3 (tc::(cs 3 (bt::(cs 2 [])))))))) (fun γ=>k2 (dF (G0 γ)) (k2 (dT γ.1.1.2) (k2 (dF γ.1.2) (k2 (dT γ.2) (Gb tT))))) <|
  .leaf (.inr (.inl ())) [])
  (.run (oc::oa::oc::oF::oa::(cs 2 (tc::oa::oc::oF::oa::(cs 3 [oF,oc,oa,oc])))) (fun γ=>k2 (dF (G0 γ)) (k2 (dT γ.1.1.2) (k2 (dF γ.1.2) (Gb (dF γ.2))))) <|
  .sp ((↑b0.length:Int)=(10:Int))
  (.run (bt::(cs 2 [])) (fun γ=>Gb (Gu γ.2)) <|
  .leaf (.inr (.inl ())) [])
  (.run [bf] (fun γ=>Gb (Gz γ.2)) <|
  .gd (b0.length+1≤140737488355232) <| .run (cs 3 [oN (.ap 4),.tr (.eqc 2 (JN (b0++[x66]))),.tr (.eqt (.t 51) (.vec 2 ((b0++[x66]).length) 1)),oc]) (fun γ=>k2 ((nB rfl):0+1≤List.length ([.int .u8 (x66.toNat:Int)]:List AV)) (k2 (Hz:List.length ((JN b0):List AV)=b0.length) (k2 (rfl:List.all ([.int .u8 (x66.toNat:Int)]:List AV) AV.one=true) (k2 γ.2 (k2 ((JO rfl):(JN b0)++[.int .u8 (x66.toNat:Int)]=(JN (b0++[x66]))) (Gb ((by simp <;> omega):(.vec 2 (b0.length+1) 1:AV)=.vec 2 ((b0++[x66]).length) 1))))))) <|
  .gd (GS .i64 ((↑k9:Int)+1)) <| .run [ow,oc] (fun γ=>Gb γ.2) <|
  .leaf (.inl ((k9+1),(b0++[x66]))) [2]))))
  (.run (oc::oa::oc::oF::oa::(cs 2 (oF::(cs 9 [oa,oc])))) (fun γ=>k2 (dF γ.1.2) (Gb (dF γ.2))) <|
  .sp ((↑b0.length:Int)=(10:Int))
  (.run (bt::(cs 2 [])) (fun γ=>Gb (Gu γ.2)) <|
  .leaf (.inr (.inl ())) [])
  (.run [bf] (fun γ=>Gb (Gz γ.2)) <|
  .gd (b0.length+1≤140737488355232) <| .run (cs 3 [oN (.ap 4),.tr (.eqc 2 (JN (b0++[x66]))),.tr (.eqt (.t 51) (.vec 2 ((b0++[x66]).length) 1)),oc]) (fun γ=>k2 ((nB rfl):0+1≤List.length ([.int .u8 (x66.toNat:Int)]:List AV)) (k2 (Hz:List.length ((JN b0):List AV)=b0.length) (k2 (rfl:List.all ([.int .u8 (x66.toNat:Int)]:List AV) AV.one=true) (k2 γ.2 (k2 ((JO rfl):(JN b0)++[.int .u8 (x66.toNat:Int)]=(JN (b0++[x66]))) (Gb ((by simp <;> omega):(.vec 2 (b0.length+1) 1:AV)=.vec 2 ((b0++[x66]).length) 1))))))) <|
  .gd (GS .i64 ((↑k9:Int)+1)) <| .run [ow,oc] (fun γ=>Gb γ.2) <|
  .leaf (.inl ((k9+1),(b0++[x66]))) [2])))))))
  (.run [bf] (fun γ=>Gb (dF γ.2)) <|
  .leaf (.inr (.inr (b0))) [0])
def HV (s_0:(List UInt8)):(Nat×(List UInt8))→Option ((Nat×(List UInt8))⊕(Unit⊕(List UInt8))):=fun s=>(Mk s_0 s).den
def Gc8 (s_0:(List UInt8)):(Nat×(List UInt8))→PS:=fun s=>(58,[(0,.str s_0),(4,.vec 0 s.2.length 1),(8,jI (↑s_0.length:Int)),(9,jI (↑s.1:Int))],[(bV (JN s.2) 5)])
def Gda:(Unit⊕(List UInt8))→Hm:=fun q=>match q with | Sum.inl o=>.ret | Sum.inr (o)=>(.exit 0)
def Gc9 (s_0:(List UInt8)):(Unit⊕(List UInt8))→List (Nat×AV):=fun q=>match q with | Sum.inl o=>[(2,.str []),(3,jI 19)] | Sum.inr (o)=>[(4,.vec 0 o.length 1)]
def Gc7 (s_0:(List UInt8)):(Unit⊕(List UInt8))→List Hb:=fun q=>match q with | Sum.inl o=>[] | Sum.inr (o)=>[(bV (JN o) 5)]
theorem Y8 (s_0:(List UInt8)) {s:(Nat×(List UInt8))} {r:Unit⊕(List UInt8)} (h:lp (HV s_0) s=some r):DT 0 (.loop (GK Tryz.prog 247 [1,1,0,1,0,0])) (Gc8 s_0 s).st (Gda r) (PS.st (58,Gc9 s_0 r,Gc7 s_0 r)):=
 GN.lp_ht 0 400 (Gc8 s_0) Gda (fun q=>(58,Gc9 s_0 q,Gc7 s_0 q)) (Mk s_0) (by rintro ⟨k9,b0⟩; kernel_rfl) h
def GbD (s_0:(List UInt8)):HT ((List UInt8)×Int) True:=.run (cs 6 []) (fun _=>Hg) <|
  .bd (lp (HV s_0) ((0:Nat),([]:(List UInt8)))) fun qq=>.cs qq (fun o1=>.run [.tr (.vec (.t 4) 1 5),.fcut 0 .ret [(2,.str []),(3,jI 19)] [] [0] [(0,.any),(4,.vec 0 (([]:(List UInt8)).length) 1),(8,.any),(9,jI (↑(0:Nat):Int))] [(bV (JN ([]:(List UInt8))) 5)]] (fun γ=>k2 ((by first | rfl | simp only [List.length_replicate,List.length_set]):(.vec 0 0 1:AV)=.vec 0 (([]:(List UInt8)).length) 1) (k2 (rfl:(jI 0:AV)=jI (↑(0:Nat):Int)) (k2 (rfl:((bV [] 5):Hb)=KO [0] (bV (JN ([]:(List UInt8))) 5)) (Gb (Y8 s_0 (s:=((0:Nat),([]:(List UInt8)))) (r:=Sum.inl o1) (eS γ.1.2 γ.2)))))) <|
  .leaf (([]:List UInt8),19) [])
  (fun o1=>.run ((.tr (.vec (.t 4) 1 5))::(.fcut 0 (.exit 0) [(4,.vec 0 o1.length 1)] [(bV (JN o1) 5)] [0] [(0,.any),(4,.vec 0 (([]:(List UInt8)).length) 1),(8,.any),(9,jI (↑(0:Nat):Int))] [(bV (JN ([]:(List UInt8))) 5)])::(cs 2 [oa])) (fun γ=>k2 ((by first | rfl | simp only [List.length_replicate,List.length_set]):(.vec 0 0 1:AV)=.vec 0 (([]:(List UInt8)).length) 1) (k2 (rfl:(jI 0:AV)=jI (↑(0:Nat):Int)) (k2 (rfl:((bV [] 5):Hb)=KO [0] (bV (JN ([]:(List UInt8))) 5)) (Gb (Y8 s_0 (s:=((0:Nat),([]:(List UInt8)))) (r:=Sum.inr (o1)) (eS γ.1.2 γ.2)))))) <|
  .sp ((↑o1.length:Int)<(2:Int))
  (.run (bt::(cs 2 [])) (fun γ=>Gb (dT γ.2)) <|
  .leaf (([]:List UInt8),19) [])
  (.run (bf::oc::(oN (.by o1))::(cs 2 [])) (fun γ=>k2 (dF γ.2) (k2 (Hz:List.length ((JN o1):List AV)=o1.length) (Gb (rfl:(JN o1)=JN o1)))) <|
  .leaf (o1,0) []))
def R0 (s_0:(List UInt8)):Option ((List UInt8)×Int):=(GbD s_0).den
theorem Yd (s_0:(List UInt8)) (r:((List UInt8)×Int)) (h:R0 s_0=some r):RT 247 [.str s_0] (.tup [.str r.1,jI r.2]) []:=
 HA.of_ht 400 (GbD s_0) (fun (r:((List UInt8)×Int))=>.tup [.str r.1,jI r.2]) (fun (r:((List UInt8)×Int))=>[]) (by kernel_rfl) h
def Rn (s_0:(List UInt8)):(Nat×(List UInt8))→HT ((Nat×(List UInt8))⊕(Unit⊕(List UInt8))) True
 | (k5,b0)=>.run (cs 3 [oa]) (fun _=>Hg) <|
  .sp ((↑k5:Int)<(↑s_0.length:Int))
  (.run [bt] (fun γ=>Gb (dT γ.2)) <|
  .bd (s_0[k5]?) fun x49=>.run (cs 2 [oN (.i k5),.tr (.eqt (.t 15) (.int .u8 (x49.toNat:Int))),oc]) (fun γ=>k2 (ir γ.2) (Gb ((HB γ.2):(.int .u8 ((List.getD s_0 k5 0).toNat:Int):AV)=.int .u8 (x49.toNat:Int)))) <|
  .sp ((x49.toNat:Int)=(32:Int))
  (.run (oc::oa::oc::tc::(cs 2 [bt])) (fun γ=>k2 (Gu γ.2) (Gb tT)) <|
  .gd (GS .i64 ((↑k5:Int)+1)) <| .run [oc,ow,oc] (fun γ=>Gb γ.2) <|
  .leaf (.inl ((k5+1),b0)) [0])
  (.run [oc,oa,oc,oF,oa,oc] (fun γ=>Gb (Gz γ.2)) <|
  .sp ((x49.toNat:Int)=(45:Int))
  (.run [bt] (fun γ=>Gb (Gu γ.2)) <|
  .gd (GS .i64 ((↑k5:Int)+1)) <| .run [oc,ow,oc] (fun γ=>Gb γ.2) <|
  .leaf (.inl ((k5+1),b0)) [0])
  (.run [bf] (fun γ=>Gb (Gz γ.2)) <|
  .sp ((x49.toNat:Int)≥(97:Int))
  (.run [oc,oa,oc,tc,oa,oc] (fun γ=>Gb (dT γ.2)) <|
  .sp ((x49.toNat:Int)≤(122:Int))
  (.run [bt] (fun γ=>Gb (dT γ.2)) <|
  .gd (GS .u8 ((x49.toNat:Int) - 32)) <| .run [oc,ow,oc] (fun γ=>Gb γ.2) <|
  .sp (((x49.toNat:Int) - 32)≥(65:Int))
  (.sp (((x49.toNat:Int) - 32)≤(90:Int))
  (.run (oc::oa::oc::tc::oa::(cs 2 (tc::(cs 7 [bf])))) (fun γ=>k2 (dT γ.1.2) (k2 (dT γ.2) (Gb fF))) <|
  .gd (b0.length+1≤140737488355232) <| .run (cs 3 [oN (.ap 4),.tr (.eqc 2 (JN (b0++[(UInt8.ofNat (Int.toNat ((x49.toNat:Int) - 32)))]))),.tr (.eqt (.t 48) (.vec 2 ((b0++[(UInt8.ofNat (Int.toNat ((x49.toNat:Int) - 32)))]).length) 1)),oc]) (fun γ=>k2 ((nB rfl):0+1≤List.length ([.int .u8 ((x49.toNat:Int) - 32)]:List AV)) (k2 (Hz:List.length ((JN b0):List AV)=b0.length) (k2 (rfl:List.all ([.int .u8 ((x49.toNat:Int) - 32)]:List AV) AV.one=true) (k2 γ.2 (k2 ((JO (congrArg (fun q=>[q]) (GqG (G0 γ)))):(JN b0)++[.int .u8 ((x49.toNat:Int) - 32)]=(JN (b0++[(UInt8.ofNat (Int.toNat ((x49.toNat:Int) - 32)))]))) (Gb ((by simp <;> omega):(.vec 2 (b0.length+1) 1:AV)=.vec 2 ((b0++[(UInt8.ofNat (Int.toNat ((x49.toNat:Int) - 32)))]).length) 1))))))) <|
  .gd (GS .i64 ((↑k5:Int)+1)) <| .run [oc,ow,oc] (fun γ=>Gb γ.2) <|
  .leaf (.inl ((k5+1),(b0++[(UInt8.ofNat (Int.toNat ((x49.toNat:Int) - 32)))]))) [2])
  (.sp (((x49.toNat:Int) - 32)≥(48:Int))
  (.run (oc::oa::oc::tc::oa::(cs 2 (oF::oa::oc::tc::oa::(cs 3 [])))) (fun γ=>k2 (dT γ.1.1.2) (k2 (dF γ.1.2) (Gb (dT γ.2)))) <|
  .sp (((x49.toNat:Int) - 32)≤(57:Int))
  (.run [bf] (fun γ=>Gb (Gx (dT γ.2))) <|
  .gd (b0.length+1≤140737488355232) <| .run (cs 3 [oN (.ap 4),.tr (.eqc 2 (JN (b0++[(UInt8.ofNat (Int.toNat ((x49.toNat:Int) - 32)))]))),.tr (.eqt (.t 48) (.vec 2 ((b0++[(UInt8.ofNat (Int.toNat ((x49.toNat:Int) - 32)))]).length) 1)),oc]) (fun γ=>k2 ((nB rfl):0+1≤List.length ([.int .u8 ((x49.toNat:Int) - 32)]:List AV)) (k2 (Hz:List.length ((JN b0):List AV)=b0.length) (k2 (rfl:List.all ([.int .u8 ((x49.toNat:Int) - 32)]:List AV) AV.one=true) (k2 γ.2 (k2 ((JO (congrArg (fun q=>[q]) (GqG (RA γ)))):(JN b0)++[.int .u8 ((x49.toNat:Int) - 32)]=(JN (b0++[(UInt8.ofNat (Int.toNat ((x49.toNat:Int) - 32)))]))) (Gb ((by simp <;> omega):(.vec 2 (b0.length+1) 1:AV)=.vec 2 ((b0++[(UInt8.ofNat (Int.toNat ((x49.toNat:Int) - 32)))]).length) 1))))))) <|
  .gd (GS .i64 ((↑k5:Int)+1)) <| .run [oc,ow,oc] (fun γ=>Gb γ.2) <|
  .leaf (.inl ((k5+1),(b0++[(UInt8.ofNat (Int.toNat ((x49.toNat:Int) - 32)))]))) [2])
  (.run (bt::(cs 2 [])) (fun γ=>Gb (Gy (dF γ.2))) <|
  .leaf (.inr (.inl ())) []))
  (.run (oc::oa::oc::tc::oa::(cs 2 (oF::oa::oc::oF::(cs 4 (bt::(cs 2 [])))))) (fun γ=>k2 (dT γ.1.1.2) (k2 (dF γ.1.2) (k2 (dF γ.2) (Gb tT)))) <|
  .leaf (.inr (.inl ())) [])))
  (.sp (((x49.toNat:Int) - 32)≥(48:Int))
  (.run (oc::oa::oc::oF::(cs 4 (oa::oc::tc::oa::(cs 3 [])))) (fun γ=>k2 (dF γ.1.2) (Gb (dT γ.2))) <|
  .sp (((x49.toNat:Int) - 32)≤(57:Int))
  (.run [bf] (fun γ=>Gb (Gx (dT γ.2))) <|
  .gd (b0.length+1≤140737488355232) <| .run (cs 3 [oN (.ap 4),.tr (.eqc 2 (JN (b0++[(UInt8.ofNat (Int.toNat ((x49.toNat:Int) - 32)))]))),.tr (.eqt (.t 48) (.vec 2 ((b0++[(UInt8.ofNat (Int.toNat ((x49.toNat:Int) - 32)))]).length) 1)),oc]) (fun γ=>k2 ((nB rfl):0+1≤List.length ([.int .u8 ((x49.toNat:Int) - 32)]:List AV)) (k2 (Hz:List.length ((JN b0):List AV)=b0.length) (k2 (rfl:List.all ([.int .u8 ((x49.toNat:Int) - 32)]:List AV) AV.one=true) (k2 γ.2 (k2 ((JO (congrArg (fun q=>[q]) (GqG (HW γ)))):(JN b0)++[.int .u8 ((x49.toNat:Int) - 32)]=(JN (b0++[(UInt8.ofNat (Int.toNat ((x49.toNat:Int) - 32)))]))) (Gb ((by simp <;> omega):(.vec 2 (b0.length+1) 1:AV)=.vec 2 ((b0++[(UInt8.ofNat (Int.toNat ((x49.toNat:Int) - 32)))]).length) 1))))))) <|
  .gd (GS .i64 ((↑k5:Int)+1)) <| .run [oc,ow,oc] (fun γ=>Gb γ.2) <|
  .leaf (.inl ((k5+1),(b0++[(UInt8.ofNat (Int.toNat ((x49.toNat:Int) - 32)))]))) [2])
  (.run (bt::(cs 2 [])) (fun γ=>Gb (Gy (dF γ.2))) <|
  .leaf (.inr (.inl ())) []))
  (.run (oc::oa::oc::oF::(cs 4 (oa::oc::oF::(cs 4 (bt::(cs 2 [])))))) (fun γ=>k2 (dF γ.1.2) (k2 (dF γ.2) (Gb tT))) <|
  .leaf (.inr (.inl ())) [])))
  (.run [bf] (fun γ=>Gb (dF γ.2)) <|
  .sp ((x49.toNat:Int)≥(65:Int))
  (.sp ((x49.toNat:Int)≤(90:Int))
  (.run (oc::oa::oc::tc::oa::(cs 2 (tc::(cs 7 [bf])))) (fun γ=>k2 (dT γ.1.2) (k2 (dT γ.2) (Gb fF))) <|
  .gd (b0.length+1≤140737488355232) <| .run (cs 3 [oN (.ap 4),.tr (.eqc 2 (JN (b0++[x49]))),.tr (.eqt (.t 48) (.vec 2 ((b0++[x49]).length) 1)),oc]) (fun γ=>k2 ((nB rfl):0+1≤List.length ([.int .u8 (x49.toNat:Int)]:List AV)) (k2 (Hz:List.length ((JN b0):List AV)=b0.length) (k2 (rfl:List.all ([.int .u8 (x49.toNat:Int)]:List AV) AV.one=true) (k2 γ.2 (k2 ((JO rfl):(JN b0)++[.int .u8 (x49.toNat:Int)]=(JN (b0++[x49]))) (Gb ((by simp <;> omega):(.vec 2 (b0.length+1) 1:AV)=.vec 2 ((b0++[x49]).length) 1))))))) <|
  .gd (GS .i64 ((↑k5:Int)+1)) <| .run [oc,ow,oc] (fun γ=>Gb γ.2) <|
  .leaf (.inl ((k5+1),(b0++[x49]))) [2])
  (.sp ((x49.toNat:Int)≥(48:Int))
  (.run (oc::oa::oc::tc::oa::(cs 2 (oF::oa::oc::tc::oa::(cs 3 [])))) (fun γ=>k2 (dT γ.1.1.2) (k2 (dF γ.1.2) (Gb (dT γ.2)))) <|
  .sp ((x49.toNat:Int)≤(57:Int))
  (.run [bf] (fun γ=>Gb (Gx (dT γ.2))) <|
  .gd (b0.length+1≤140737488355232) <| .run (cs 3 [oN (.ap 4),.tr (.eqc 2 (JN (b0++[x49]))),.tr (.eqt (.t 48) (.vec 2 ((b0++[x49]).length) 1)),oc]) (fun γ=>k2 ((nB rfl):0+1≤List.length ([.int .u8 (x49.toNat:Int)]:List AV)) (k2 (Hz:List.length ((JN b0):List AV)=b0.length) (k2 (rfl:List.all ([.int .u8 (x49.toNat:Int)]:List AV) AV.one=true) (k2 γ.2 (k2 ((JO rfl):(JN b0)++[.int .u8 (x49.toNat:Int)]=(JN (b0++[x49]))) (Gb ((by simp <;> omega):(.vec 2 (b0.length+1) 1:AV)=.vec 2 ((b0++[x49]).length) 1))))))) <|
  .gd (GS .i64 ((↑k5:Int)+1)) <| .run [oc,ow,oc] (fun γ=>Gb γ.2) <|
  .leaf (.inl ((k5+1),(b0++[x49]))) [2])
  (.run (bt::(cs 2 [])) (fun γ=>Gb (Gy (dF γ.2))) <|
  .leaf (.inr (.inl ())) []))
  (.run (oc::oa::oc::tc::oa::(cs 2 (oF::oa::oc::oF::(cs 4 (bt::(cs 2 [])))))) (fun γ=>k2 (dT γ.1.1.2) (k2 (dF γ.1.2) (k2 (dF γ.2) (Gb tT)))) <|
  .leaf (.inr (.inl ())) [])))
  (.sp ((x49.toNat:Int)≥(48:Int))
  (.run (oc::oa::oc::oF::(cs 4 (oa::oc::tc::oa::(cs 3 [])))) (fun γ=>k2 (dF γ.1.2) (Gb (dT γ.2))) <|
  .sp ((x49.toNat:Int)≤(57:Int))
  (.run [bf] (fun γ=>Gb (Gx (dT γ.2))) <|
  .gd (b0.length+1≤140737488355232) <| .run (cs 3 [oN (.ap 4),.tr (.eqc 2 (JN (b0++[x49]))),.tr (.eqt (.t 48) (.vec 2 ((b0++[x49]).length) 1)),oc]) (fun γ=>k2 ((nB rfl):0+1≤List.length ([.int .u8 (x49.toNat:Int)]:List AV)) (k2 (Hz:List.length ((JN b0):List AV)=b0.length) (k2 (rfl:List.all ([.int .u8 (x49.toNat:Int)]:List AV) AV.one=true) (k2 γ.2 (k2 ((JO rfl):(JN b0)++[.int .u8 (x49.toNat:Int)]=(JN (b0++[x49]))) (Gb ((by simp <;> omega):(.vec 2 (b0.length+1) 1:AV)=.vec 2 ((b0++[x49]).length) 1))))))) <|
  .gd (GS .i64 ((↑k5:Int)+1)) <| .run [oc,ow,oc] (fun γ=>Gb γ.2) <|
  .leaf (.inl ((k5+1),(b0++[x49]))) [2])
  (.run (bt::(cs 2 [])) (fun γ=>Gb (Gy (dF γ.2))) <|
  .leaf (.inr (.inl ())) []))
  (.run (oc::oa::oc::oF::(cs 4 (oa::oc::oF::(cs 4 (bt::(cs 2 [])))))) (fun γ=>k2 (dF γ.1.2) (k2 (dF γ.2) (Gb tT))) <|
  .leaf (.inr (.inl ())) []))))
  (.run (oc::oa::oc::oF::(cs 2 [bf])) (fun γ=>k2 (dF γ.2) (Gb fF)) <|
  .sp ((x49.toNat:Int)≥(65:Int))
  (.sp ((x49.toNat:Int)≤(90:Int))
  (.run (oc::oa::oc::tc::oa::(cs 2 (tc::(cs 7 [bf])))) (fun γ=>k2 (dT γ.1.2) (k2 (dT γ.2) (Gb fF))) <|
  .gd (b0.length+1≤140737488355232) <| .run (cs 3 [oN (.ap 4),.tr (.eqc 2 (JN (b0++[x49]))),.tr (.eqt (.t 48) (.vec 2 ((b0++[x49]).length) 1)),oc]) (fun γ=>k2 ((nB rfl):0+1≤List.length ([.int .u8 (x49.toNat:Int)]:List AV)) (k2 (Hz:List.length ((JN b0):List AV)=b0.length) (k2 (rfl:List.all ([.int .u8 (x49.toNat:Int)]:List AV) AV.one=true) (k2 γ.2 (k2 ((JO rfl):(JN b0)++[.int .u8 (x49.toNat:Int)]=(JN (b0++[x49]))) (Gb ((by simp <;> omega):(.vec 2 (b0.length+1) 1:AV)=.vec 2 ((b0++[x49]).length) 1))))))) <|
  .gd (GS .i64 ((↑k5:Int)+1)) <| .run [oc,ow,oc] (fun γ=>Gb γ.2) <|
  .leaf (.inl ((k5+1),(b0++[x49]))) [2])
  (.sp ((x49.toNat:Int)≥(48:Int))
  (.run (oc::oa::oc::tc::oa::(cs 2 (oF::oa::oc::tc::oa::(cs 3 [])))) (fun γ=>k2 (dT γ.1.1.2) (k2 (dF γ.1.2) (Gb (dT γ.2)))) <|
  .sp ((x49.toNat:Int)≤(57:Int))
  (.run [bf] (fun γ=>Gb (Gx (dT γ.2))) <|
  .gd (b0.length+1≤140737488355232) <| .run (cs 3 [oN (.ap 4),.tr (.eqc 2 (JN (b0++[x49]))),.tr (.eqt (.t 48) (.vec 2 ((b0++[x49]).length) 1)),oc]) (fun γ=>k2 ((nB rfl):0+1≤List.length ([.int .u8 (x49.toNat:Int)]:List AV)) (k2 (Hz:List.length ((JN b0):List AV)=b0.length) (k2 (rfl:List.all ([.int .u8 (x49.toNat:Int)]:List AV) AV.one=true) (k2 γ.2 (k2 ((JO rfl):(JN b0)++[.int .u8 (x49.toNat:Int)]=(JN (b0++[x49]))) (Gb ((by simp <;> omega):(.vec 2 (b0.length+1) 1:AV)=.vec 2 ((b0++[x49]).length) 1))))))) <|
  .gd (GS .i64 ((↑k5:Int)+1)) <| .run [oc,ow,oc] (fun γ=>Gb γ.2) <|
  .leaf (.inl ((k5+1),(b0++[x49]))) [2])
  (.run (bt::(cs 2 [])) (fun γ=>Gb (Gy (dF γ.2))) <|
  .leaf (.inr (.inl ())) []))
  (.run (oc::oa::oc::tc::oa::(cs 2 (oF::oa::oc::oF::(cs 4 (bt::(cs 2 [])))))) (fun γ=>k2 (dT γ.1.1.2) (k2 (dF γ.1.2) (k2 (dF γ.2) (Gb tT)))) <|
  .leaf (.inr (.inl ())) [])))
  (.sp ((x49.toNat:Int)≥(48:Int))
  (.run (oc::oa::oc::oF::(cs 4 (oa::oc::tc::oa::(cs 3 [])))) (fun γ=>k2 (dF γ.1.2) (Gb (dT γ.2))) <|
  .sp ((x49.toNat:Int)≤(57:Int))
  (.run [bf] (fun γ=>Gb (Gx (dT γ.2))) <|
  .gd (b0.length+1≤140737488355232) <| .run (cs 3 [oN (.ap 4),.tr (.eqc 2 (JN (b0++[x49]))),.tr (.eqt (.t 48) (.vec 2 ((b0++[x49]).length) 1)),oc]) (fun γ=>k2 ((nB rfl):0+1≤List.length ([.int .u8 (x49.toNat:Int)]:List AV)) (k2 (Hz:List.length ((JN b0):List AV)=b0.length) (k2 (rfl:List.all ([.int .u8 (x49.toNat:Int)]:List AV) AV.one=true) (k2 γ.2 (k2 ((JO rfl):(JN b0)++[.int .u8 (x49.toNat:Int)]=(JN (b0++[x49]))) (Gb ((by simp <;> omega):(.vec 2 (b0.length+1) 1:AV)=.vec 2 ((b0++[x49]).length) 1))))))) <|
  .gd (GS .i64 ((↑k5:Int)+1)) <| .run [oc,ow,oc] (fun γ=>Gb γ.2) <|
  .leaf (.inl ((k5+1),(b0++[x49]))) [2])
  (.run (bt::(cs 2 [])) (fun γ=>Gb (Gy (dF γ.2))) <|
  .leaf (.inr (.inl ())) []))
  (.run (oc::oa::oc::oF::(cs 4 (oa::oc::oF::(cs 4 (bt::(cs 2 [])))))) (fun γ=>k2 (dF γ.1.2) (k2 (dF γ.2) (Gb tT))) <|
  .leaf (.inr (.inl ())) []))))))
  (.run [bf] (fun γ=>Gb (dF γ.2)) <|
  .leaf (.inr (.inr (b0))) [0])
def Js (s_0:(List UInt8)):(Nat×(List UInt8))→Option ((Nat×(List UInt8))⊕(Unit⊕(List UInt8))):=fun s=>(Rn s_0 s).den
def GgL (s_0:(List UInt8)):(Nat×(List UInt8))→PS:=fun s=>(59,[(0,.str s_0),(4,.vec 0 s.2.length 1),(5,jI (↑s.1:Int))],[(bV (JN s.2) 5)])
def GgN:(Unit⊕(List UInt8))→Hm:=fun q=>match q with | Sum.inl o=>.ret | Sum.inr (o)=>(.exit 0)
def GgM (s_0:(List UInt8)):(Unit⊕(List UInt8))→List (Nat×AV):=fun q=>match q with | Sum.inl o=>[(2,.str []),(3,jI 19)] | Sum.inr (o)=>[(4,.vec 0 o.length 1)]
def GgK (s_0:(List UInt8)):(Unit⊕(List UInt8))→List Hb:=fun q=>match q with | Sum.inl o=>[] | Sum.inr (o)=>[(bV (JN o) 5)]
theorem Gcu (s_0:(List UInt8)) {s:(Nat×(List UInt8))} {r:Unit⊕(List UInt8)} (h:lp (Js s_0) s=some r):DT 0 (.loop (GK Tryz.prog 90 [1,1,0,1,0,0])) (GgL s_0 s).st (GgN r) (PS.st (59,GgM s_0 r,GgK s_0 r)):=
 GN.lp_ht 0 400 (GgL s_0) GgN (fun q=>(59,GgM s_0 q,GgK s_0 q)) (Rn s_0) (by rintro ⟨k5,b0⟩; kernel_rfl) h
def GgO (s_0:(List UInt8)):HT ((List UInt8)×Int) True:=.run (cs 4 []) (fun _=>Hg) <|
  .bd (lp (Js s_0) ((0:Nat),([]:(List UInt8)))) fun qq=>.cs qq (fun o1=>.run [.tr (.vec (.t 4) 1 5),.fcut 0 .ret [(2,.str []),(3,jI 19)] [] [0] [(0,.any),(4,.vec 0 (([]:(List UInt8)).length) 1),(5,jI (↑(0:Nat):Int))] [(bV (JN ([]:(List UInt8))) 5)]] (fun γ=>k2 ((by first | rfl | simp only [List.length_replicate,List.length_set]):(.vec 0 0 1:AV)=.vec 0 (([]:(List UInt8)).length) 1) (k2 (rfl:(jI 0:AV)=jI (↑(0:Nat):Int)) (k2 (rfl:((bV [] 5):Hb)=KO [0] (bV (JN ([]:(List UInt8))) 5)) (Gb (Gcu s_0 (s:=((0:Nat),([]:(List UInt8)))) (r:=Sum.inl o1) (eS γ.1.2 γ.2)))))) <|
  .leaf (([]:List UInt8),19) [])
  (fun o1=>.run [.tr (.vec (.t 4) 1 5),.fcut 0 (.exit 0) [(4,.vec 0 o1.length 1)] [(bV (JN o1) 5)] [0] [(0,.any),(4,.vec 0 (([]:(List UInt8)).length) 1),(5,jI (↑(0:Nat):Int))] [(bV (JN ([]:(List UInt8))) 5)]] (fun γ=>k2 ((by first | rfl | simp only [List.length_replicate,List.length_set]):(.vec 0 0 1:AV)=.vec 0 (([]:(List UInt8)).length) 1) (k2 (rfl:(jI 0:AV)=jI (↑(0:Nat):Int)) (k2 (rfl:((bV [] 5):Hb)=KO [0] (bV (JN ([]:(List UInt8))) 5)) (Gb (Gcu s_0 (s:=((0:Nat),([]:(List UInt8)))) (r:=Sum.inr (o1)) (eS γ.1.2 γ.2)))))) <|
  .sp ((↑o1.length:Int)<(2:Int))
  (.run (cs 2 (oa::oc::tc::(cs 3 (bt::(cs 2 []))))) (fun γ=>k2 (dT γ.2) (Gb tT)) <|
  .leaf (([]:List UInt8),19) [])
  (.run (cs 2 [oa,oc,oF,oc,oa,oc]) (fun γ=>Gb (dF γ.2)) <|
  .sp ((↑o1.length:Int)>(10:Int))
  (.run (bt::(cs 2 [])) (fun γ=>Gb (dT γ.2)) <|
  .leaf (([]:List UInt8),19) [])
  (.run (bf::oc::(oN (.by o1))::(cs 2 [])) (fun γ=>k2 (dF γ.2) (k2 (Hz:List.length ((JN o1):List AV)=o1.length) (Gb (rfl:(JN o1)=JN o1)))) <|
  .leaf (o1,0) [])))
def GaK (s_0:(List UInt8)):Option ((List UInt8)×Int):=(GgO s_0).den
theorem GdG (s_0:(List UInt8)) (r:((List UInt8)×Int)) (h:GaK s_0=some r):RT 90 [.str s_0] (.tup [.str r.1,jI r.2]) []:=
 HA.of_ht 400 (GgO s_0) (fun (r:((List UInt8)×Int))=>.tup [.str r.1,jI r.2]) (fun (r:((List UInt8)×Int))=>[]) (by kernel_rfl) h
end
set_option maxHeartbeats 4000000
noncomputable section
def Gf8 (x:UInt8):Prop:=97≤x.toNat∧x.toNat≤122
instance (x:UInt8):Decidable (Gf8 x):=by unfold Gf8; infer_instance
def GdT (x:UInt8):Prop:=x.toNat=32∨x.toNat=45
instance (x:UInt8):Decidable (GdT x):=by unfold GdT; infer_instance
def Gl4 (x:UInt8):Prop:=Gf8 x∨(65≤x.toNat∧x.toNat≤90)∨(48≤x.toNat∧x.toNat≤57)
instance (x:UInt8):Decidable (Gl4 x):=by unfold Gl4; infer_instance
def upB (x:UInt8):UInt8:=if Gf8 x then UInt8.ofNat (Int.toNat ((x.toNat:Int) - 32)) else x
def res (s:List UInt8):List UInt8:=(s.filter fun x=>!decide (GdT x)).map upB
theorem GlY {s:List UInt8} {k:Nat} {x:UInt8} (hx:s[k]?=some x):res (s.take (k+1))=if GdT x then res (s.take k) else res (s.take k)++[upB x]:=by
 unfold res
 rw [List.take_add_one,hx]
 by_cases h:GdT x <;> simp [h]
theorem Gym (s:List UInt8) (k:Nat):(res (s.take k)).length≤k:=by
 unfold res
 rw [List.length_map]
 exact Nat.le_trans (List.length_filter_le _ _) (by rw [List.length_take]; omega)
def plP (s:List UInt8) (k:Nat) (x:UInt8):Option Unit:=if GdT x then none else if ¬ Gl4 x then some () else if (res (s.take k)).length=10 then some () else none
def plR (k:Nat) (x:UInt8):Option Unit:=if GdT x then none else if ¬ Gl4 x then some () else none
def plN (s:List UInt8):List UInt8×Int:=if GJ plR 0 s=none∧2≤(res s).length∧(res s).length≤10 then (res s,0) else ([],19)
theorem Gfb {α ρ:Type} {g:Nat→α→Option ρ}:∀ {l:List α} {k:Nat},(∀ i x,l[i]?=some x→g (k+i) x=none)→GJ g k l=none
 | [],k,_=>rfl
 | y::l,k,h=>by
  unfold GJ
  rw [show g k y=none from h 0 y rfl]
  exact Gfb fun i x hx=>by rw [show k+1+i=k+(i+1) by omega]; exact h (i+1) x (by simpa using hx)
theorem GfR (s:List UInt8) (hl:s.length≤140737488355000):R0 s=some (plN s):=by
 simp only [R0,GbD,dA]
 have key:(∀ r,GJ (plP s) 0 s=some r→∃ q,lp (HV s) (0,[])=some (.inl q)∧id q=r)∧(GJ (plP s) 0 s=none→∃ q,lp (HV s) (0,[])=some (.inr q)∧q=res s):=by
  refine GhN (l:=s) (mk:=fun k b=>(k,b)) (fun k b=>b=res (s.take k)) (fun k x b hx hb=>?_) (fun b hb=>?_) rfl
  ·have hk:=Hl hx
   have i1:GS .i64 ((k:Int)+1):=Mh (by omega) (by omega)
   have hkl:(k:Int)<(s.length:Int):=by omega
   have hbl:=Gym s k
   rw [← hb] at hbl
   have a1:b.length+1≤140737488355232:=by omega
   have hsn:=GlY hx
   rw [← hb] at hsn
   simp only [plP,← hb]
   have hxb:=x.toNat_lt
   clear hl
   by_cases h97:Gf8 x
   ·have hu:upB x=UInt8.ofNat (Int.toNat ((x.toNat:Int) - 32)):=if_pos h97
    have hns:¬ GdT x:=by unfold GdT; unfold Gf8 at h97; omega
    have hv:Gl4 x:=.inl h97
    have i8:GS .u8 ((x.toNat:Int) - 32):=⟨by unfold Gf8 at h97; show (0:Int)≤_; omega,by unfold Gf8 at h97; show _≤(255:Int); omega⟩
    simp only [HV,Mk,dA,hx,Hd,i1,i8,a1,if_true,hkl]
    clear i1 i8 a1 hbl
    rw [if_neg hns] at hsn
    rw [hu] at hsn
    unfold Gf8 at h97
    simp only [if_neg hns,if_neg (show ¬ ¬ Gl4 x from fun h=>h hv)]
    clear hns hv hu hb
    by_cases h10:b.length=10
    ·exact .inl ⟨(),(),by rw [if_pos h10],by clear hsn; grind,by trivial⟩
    ·exact .inr ⟨by rw [if_neg h10],_,by clear hsn; grind,hsn.symm⟩
   ·have hu:upB x=x:=if_neg h97
    simp only [HV,Mk,dA,hx,Hd,i1,a1,if_true,hkl]
    clear i1 a1 hbl
    rw [hu] at hsn
    by_cases hs:GdT x
    ·rw [if_pos hs] at hsn
     rw [if_pos hs]
     refine .inr ⟨rfl,b,?_,hsn.symm⟩
     unfold GdT at hs
     rw [if_neg (by omega)]
     rcases hs with h | h
     ·rw [if_pos (by omega)]
     ·rw [if_neg (by omega),if_pos (by omega)]
    rw [if_neg hs] at hsn
    rw [if_neg hs]
    by_cases hv:Gl4 x
    rotate_left
    ·rw [if_pos hv]
     refine .inl ⟨(),(),rfl,?_,by trivial⟩
     unfold Gl4 Gf8 at hv; unfold GdT at hs
     clear hsn h97 hb
     grind
    rw [if_neg (fun h=>h hv)]
    unfold Gl4 at hv; unfold Gf8 at h97 hv; unfold GdT at hs
    by_cases h10:b.length=10
    ·refine .inl ⟨(),(),by rw [if_pos h10],?_,by trivial⟩
     clear hsn hb
     grind
    ·refine .inr ⟨by rw [if_neg h10],_,?_,hsn.symm⟩
     clear hsn hb
     grind
  ·rw [List.take_length] at hb
   refine ⟨b,?_,hb⟩
   simp only [HV,Mk,d3,d6,d1]
   rw [if_neg (by omega)]
 have hpr:GJ (plP s) 0 s=none↔GJ plR 0 s=none∧(res s).length≤10:=by
  constructor
  ·intro h
   have hn:=fun i x hx=>MI h i x hx
   refine ⟨Gfb fun i x hx=>?_,?_⟩
   ·have:=hn i x hx
    rw [Nat.zero_add] at this
    unfold plP at this
    unfold plR
    clear h hn key hl
    grind
   ·have:∀ k,k≤s.length→(res (s.take k)).length≤10:=by
     intro k
     induction k with
     | zero=>intro _; simp [res]
     | succ k ih=>
      intro hk
      have hx:s[k]?=some s[k]:=List.getElem?_eq_getElem (by omega)
      have h1:=hn k _ hx
      rw [Nat.zero_add] at h1
      have h2:=ih (by omega)
      rw [GlY hx]
      by_cases hs:GdT s[k]
      ·rw [if_pos hs]; exact h2
      ·rw [if_neg hs,List.length_append,List.length_singleton]
       unfold plP at h1
       rw [if_neg hs] at h1
       split at h1
       ·cases h1
       ·split at h1
        ·cases h1
        ·omega
    have:=this s.length (Nat.le_refl _)
    rwa [List.take_length] at this
  ·rintro ⟨h,hl10⟩
   refine Gfb fun i x hx=>?_
   have h1:=MI h i x hx
   rw [Nat.zero_add] at h1 ⊢
   unfold plR at h1
   unfold plP
   by_cases hs:GdT x
   ·rw [if_pos hs]
   ·rw [if_neg hs] at h1 ⊢
    have h2:(res (s.take (i+1))).length=(res (s.take i)).length+1:=by rw [GlY hx,if_neg hs,List.length_append,List.length_singleton]
    have h3:(res (s.take (i+1))).length≤(res s).length:=by
     unfold res
     rw [List.length_map,List.length_map]
     exact List.Sublist.length_le ((List.take_sublist _ _).filter _)
    have h4:¬ (res (s.take i)).length=10:=by omega
    rw [if_neg h4]
    exact h1
 unfold plN
 cases he:GJ (plP s) 0 s with
 | some r=>
  obtain ⟨q,h1,_⟩:=key.1 r he
  rw [h1]
  simp only [Hd,eN]
  rw [if_neg (fun h=>by have:=hpr.2 ⟨h.1,h.2.2⟩; rw [he] at this; cases this)]
 | none=>
  obtain ⟨q,h1,rfl⟩:=key.2 he
  obtain ⟨h2,h3⟩:=hpr.1 he
  rw [h1]
  simp only [Hd,eM]
  by_cases h4:(res s).length<2
  ·rw [if_pos (by omega),if_neg (by omega)]
  ·rw [if_neg (by omega),if_pos ⟨h2,by omega,h3⟩]
theorem GfS (s:List UInt8) (hl:s.length≤140737488355000):GaK s=some (plN s):=by
 simp only [GaK,GgO,dA]
 have key:(∀ r,GJ plR 0 s=some r→∃ q,lp (Js s) (0,[])=some (.inl q)∧id q=r)∧(GJ plR 0 s=none→∃ q,lp (Js s) (0,[])=some (.inr q)∧q=res s):=by
  refine GhN (l:=s) (mk:=fun k b=>(k,b)) (fun k b=>b=res (s.take k)) (fun k x b hx hb=>?_) (fun b hb=>?_) rfl
  ·have hk:=Hl hx
   have i1:GS .i64 ((k:Int)+1):=Mh (by omega) (by omega)
   have hkl:(k:Int)<(s.length:Int):=by omega
   have hbl:=Gym s k
   rw [← hb] at hbl
   have a1:b.length+1≤140737488355232:=by omega
   have hsn:=GlY hx
   rw [← hb] at hsn
   simp only [plR]
   have hxb:=x.toNat_lt
   clear hl
   by_cases h97:Gf8 x
   ·have hu:upB x=UInt8.ofNat (Int.toNat ((x.toNat:Int) - 32)):=if_pos h97
    have hns:¬ GdT x:=by unfold GdT; unfold Gf8 at h97; omega
    have hv:Gl4 x:=.inl h97
    have i8:GS .u8 ((x.toNat:Int) - 32):=⟨by unfold Gf8 at h97; show (0:Int)≤_; omega,by unfold Gf8 at h97; show _≤(255:Int); omega⟩
    simp only [Js,Rn,dA,hx,Hd,i1,i8,a1,if_true,hkl]
    clear i1 i8 a1 hbl
    rw [if_neg hns] at hsn
    rw [hu] at hsn
    unfold Gf8 at h97
    simp only [if_neg hns,if_neg (show ¬ ¬ Gl4 x from fun h=>h hv)]
    clear hns hv hu hb
    exact .inr ⟨trivial,_,by clear hsn; grind,hsn.symm⟩
   ·have hu:upB x=x:=if_neg h97
    simp only [Js,Rn,dA,hx,Hd,i1,a1,if_true,hkl]
    clear i1 a1 hbl
    rw [hu] at hsn
    by_cases hs:GdT x
    ·rw [if_pos hs] at hsn
     rw [if_pos hs]
     refine .inr ⟨rfl,b,?_,hsn.symm⟩
     unfold GdT at hs
     rcases hs with h | h
     ·rw [if_pos (by omega)]
     ·rw [if_neg (by omega),if_pos (by omega)]
    rw [if_neg hs] at hsn
    rw [if_neg hs]
    by_cases hv:Gl4 x
    rotate_left
    ·rw [if_pos hv]
     refine .inl ⟨(),(),rfl,?_,by trivial⟩
     unfold Gl4 Gf8 at hv; unfold GdT at hs
     clear hsn h97 hb
     grind
    rw [if_neg (fun h=>h hv)]
    unfold Gl4 at hv; unfold Gf8 at h97 hv; unfold GdT at hs
    refine .inr ⟨rfl,_,?_,hsn.symm⟩
    clear hsn hb
    grind
  ·rw [List.take_length] at hb
   refine ⟨b,?_,hb⟩
   simp only [Js,Rn,d3,d6,d1]
   rw [if_neg (by omega)]
 unfold plN
 cases he:GJ plR 0 s with
 | some r=>
  obtain ⟨q,h1,_⟩:=key.1 r he
  rw [h1]
  simp only [Hd,eN]
  rw [if_neg (fun h=>by cases h.1)]
 | none=>
  obtain ⟨q,h1,rfl⟩:=key.2 he
  rw [h1]
  simp only [Hd,eM]
  by_cases h4:(res s).length<2
  ·rw [if_pos (by omega),if_neg (by omega)]
  ·by_cases h5:(res s).length>10
   ·rw [if_neg (by omega),if_pos (by omega),if_neg (by omega)]
   ·rw [if_neg (by omega),if_neg (by omega),if_pos ⟨by trivial,by omega,by omega⟩]
end
set_option maxHeartbeats 4000000
set_option maxRecDepth 100000
noncomputable section
open Go Go.Proofs
def MB (l_0:(List (List UInt8))) (k12:Nat) (x24:(List UInt8)):Nat→HT (Nat⊕(Unit⊕Unit)) True
 | k9=>.run [oa] (fun _=>Hg) <|
  .sp ((↑k9:Int)<(↑((List.take k12 l_0).length):Int))
  (.run [bt] (fun γ=>Gb (dT γ.2)) <|
  .bd ((List.take k12 l_0)[k9]?) fun x38=>.run ((oN (.i k9))::(oN (.v [.str x38]))::(cs 3 [oa])) (fun γ=>k2 (ir γ.2) (k2 (GD (f:=JB) (z:=0) (fun _=>rfl) γ.2) (Gb (Gtk γ.2)))) <|
  .sp (x24=x38)
  (.run [bt,oc] (fun γ=>Gb (Gu γ.2)) <|
  .leaf (.inr (.inl ())) [])
  (.run [bf] (fun γ=>Gb (Gz γ.2)) <|
  .gd (GS .i64 ((↑k9:Int)+1)) <| .run [ow,oc] (fun γ=>Gb γ.2) <|
  .leaf (.inl (k9+1)) []))
  (.run [bf] (fun γ=>Gb (dF γ.2)) <|
  .leaf (.inr (.inr (()))) [])
def Jw (l_0:(List (List UInt8))) (k12:Nat) (x24:(List UInt8)):Nat→Option (Nat⊕(Unit⊕Unit)):=fun s=>(MB l_0 k12 x24 s).den
def Z7 (l_0:(List (List UInt8))) (k12:Nat) (x24:(List UInt8)):Nat→PS:=fun s=>(17,[(1,.str x24),(7,.lst (fl JB (List.take k12 l_0)) ((List.take k12 l_0).length)),(8,jI (↑((List.take k12 l_0).length):Int)),(9,jI (↑s:Int))],[])
def Z9:(Unit⊕Unit)→Hm:=fun q=>match q with | Sum.inl o=>.ret | Sum.inr (o)=>(.exit 0)
def Z8 (l_0:(List (List UInt8))) (k12:Nat) (x24:(List UInt8)):(Unit⊕Unit)→List (Nat×AV):=fun q=>match q with | Sum.inl o=>[(4,.bool true)] | Sum.inr (o)=>[]
def Z6 (l_0:(List (List UInt8))) (k12:Nat) (x24:(List UInt8)):(Unit⊕Unit)→List Hb:=fun _=>[]
theorem Xk (l_0:(List (List UInt8))) (k12:Nat) (x24:(List UInt8)) {s:Nat} {r:Unit⊕Unit} (h:lp (Jw l_0 k12 x24) s=some r):DT 0 (.loop (GK Tryz.prog 290 [1,0,1,0,0])) (Z7 l_0 k12 x24 s).st (Z9 r) (PS.st (17,Z8 l_0 k12 x24 r,Z6 l_0 k12 x24 r)):=
 GN.lp_ht 0 400 (Z7 l_0 k12 x24) Z9 (fun q=>(17,Z8 l_0 k12 x24 q,Z6 l_0 k12 x24 q)) (MB l_0 k12 x24) (by intro k9; kernel_rfl) h
def Qf (l_0:(List (List UInt8))):Nat→HT (Nat⊕(Int⊕Unit)) True
 | k12=>.run [oa] (fun _=>Hg) <|
  .sp ((↑k12:Int)<(↑l_0.length:Int))
  (.run [bt] (fun γ=>Gb (dT γ.2)) <|
  .bd (l_0[k12]?) fun x24=>.run (oc::(oN (.i k12))::(oN (.v [.str x24]))::(cs 2 [])) (fun γ=>k2 (ir γ.2) (k2 (GD (f:=JB) (z:=0) (fun _=>rfl) γ.2) (Gb (Gtk γ.2)))) <|
  .bd (R0 x24) fun r26=>.run (oc::(rN [.any] (.tup [.str r26.1,jI r26.2]) [])::(cs 5 [])) (fun γ=>Gb (Yd x24 r26 γ.2)) <|
  .sp (r26.2=(0:Int))
  (.run [oc,oa,oc,oF,oc,oa,oc] (fun γ=>Gb (Gx (Gu γ.2))) <|
  .sp (r26.1=x24)
  (.run [bf] (fun γ=>Gb (Gx (Gu γ.2))) <|
  .gd (k12≤l_0.length) <| .bd (lp (Jw l_0 k12 x24) (0:Nat)) fun qq=>.cs qq (fun o31=>.run (cs 2 ((oN (.s 0 k12))::(.tr (.eqt (.t 31) (.lst (fl JB (List.take k12 l_0)) ((List.take k12 l_0).length))))::(cs 6 [.fcut 0 .ret [(4,.bool true)] [] [] [(1,.any),(7,.any),(8,.any),(9,jI (↑(0:Nat):Int))] [],bt,oc]))) (fun γ=>k2 (rfl:(↑k12:Int)=((k12:Nat):Int)) (k2 (⟨Nat.zero_le _,γ.1.1.2⟩:0≤k12∧k12≤l_0.length) (k2 ((Ya (GoJ (f:=JB) (fun _=>rfl) _ _) (by rw [List.length_take]; omega)):(.lst (List.take k12 (fl JB l_0)) k12:AV)=.lst (fl JB (List.take k12 l_0)) ((List.take k12 l_0).length)) (k2 (rfl:(jI 0:AV)=jI (↑(0:Nat):Int)) (k2 (Xk l_0 k12 x24 (s:=(0:Nat)) (r:=Sum.inl o31) (eS γ.1.2 γ.2)) (Gb tT)))))) <|
  .leaf (.inr (.inl 9)) [])
  (fun o31=>.run (cs 2 ((oN (.s 0 k12))::(.tr (.eqt (.t 31) (.lst (fl JB (List.take k12 l_0)) ((List.take k12 l_0).length))))::(cs 6 [.fcut 0 (.exit 0) [] [] [] [(1,.any),(7,.any),(8,.any),(9,jI (↑(0:Nat):Int))] [],oc,bf]))) (fun γ=>k2 (rfl:(↑k12:Int)=((k12:Nat):Int)) (k2 (⟨Nat.zero_le _,γ.1.1.2⟩:0≤k12∧k12≤l_0.length) (k2 ((Ya (GoJ (f:=JB) (fun _=>rfl) _ _) (by rw [List.length_take]; omega)):(.lst (List.take k12 (fl JB l_0)) k12:AV)=.lst (fl JB (List.take k12 l_0)) ((List.take k12 l_0).length)) (k2 (rfl:(jI 0:AV)=jI (↑(0:Nat):Int)) (k2 (Xk l_0 k12 x24 (s:=(0:Nat)) (r:=Sum.inr (o31)) (eS γ.1.2 γ.2)) (Gb fF)))))) <|
  .gd (GS .i64 ((↑k12:Int)+1)) <| .run [ow,oc] (fun γ=>Gb γ.2) <|
  .leaf (.inl (k12+1)) []))
  (.run [bt,oc] (fun γ=>Gb (Gy (Gz γ.2))) <|
  .leaf (.inr (.inl 19)) []))
  (.run (oc::oa::oc::tc::(cs 3 [bt,oc])) (fun γ=>k2 (Gy (Gz γ.2)) (Gb tT)) <|
  .leaf (.inr (.inl 19)) []))
  (.run [bf] (fun γ=>Gb (dF γ.2)) <|
  .leaf (.inr (.inr (()))) [])
def JK (l_0:(List (List UInt8))):Nat→Option (Nat⊕(Int⊕Unit)):=fun s=>(Qf l_0 s).den
def GbA (l_0:(List (List UInt8))):Nat→PS:=fun s=>(35,[(0,.lst (fl JB l_0) l_0.length),(10,.lst (fl JB l_0) l_0.length),(11,jI (↑l_0.length:Int)),(12,jI (↑s:Int))],[])
def GbC:(Int⊕Unit)→Hm:=fun q=>match q with | Sum.inl o=>.ret | Sum.inr (o)=>(.exit 0)
def GbB (l_0:(List (List UInt8))):(Int⊕Unit)→List (Nat×AV):=fun q=>match q with | Sum.inl o=>[(2,jI o)] | Sum.inr (o)=>[]
def Gbz (l_0:(List (List UInt8))):(Int⊕Unit)→List Hb:=fun _=>[]
theorem XQ (l_0:(List (List UInt8))) {s:Nat} {r:Int⊕Unit} (h:lp (JK l_0) s=some r):DT 0 (.loop (GK Tryz.prog 219 [1,1,0,1,0,0])) (GbA l_0 s).st (GbC r) (PS.st (35,GbB l_0 r,Gbz l_0 r)):=
 GN.lp_ht 0 400 (GbA l_0) GbC (fun q=>(35,GbB l_0 q,Gbz l_0 q)) (Qf l_0) (by intro k12; kernel_rfl) h
def Zz (l_0:(List (List UInt8))):HT Int True:=.run (cs 3 [oa]) (fun _=>Hg) <|
  .sp ((↑l_0.length:Int)>(1024:Int))
  (.run [bt,oc] (fun γ=>Gb (dT γ.2)) <|
  .leaf 3 [])
  (.run (bf::(cs 3 [])) (fun γ=>Gb (dF γ.2)) <|
  .bd (lp (JK l_0) (0:Nat)) fun qq=>.cs qq (fun o2=>.run [.fcut 0 .ret [(2,jI o2)] [] [] [(0,.any),(10,.any),(11,.any),(12,jI (↑(0:Nat):Int))] []] (fun γ=>k2 (rfl:(jI 0:AV)=jI (↑(0:Nat):Int)) (Gb (XQ l_0 (s:=(0:Nat)) (r:=Sum.inl o2) (eS γ.1.2 γ.2)))) <|
  .leaf o2 [])
  (fun o2=>.run [.fcut 0 (.exit 0) [] [] [] [(0,.any),(10,.any),(11,.any),(12,jI (↑(0:Nat):Int))] [],oc] (fun γ=>k2 (rfl:(jI 0:AV)=jI (↑(0:Nat):Int)) (Gb (XQ l_0 (s:=(0:Nat)) (r:=Sum.inr (o2)) (eS γ.1.2 γ.2)))) <|
  .leaf 0 []))
def YH (l_0:(List (List UInt8))):Option Int:=(Zz l_0).den
theorem GlM (l_0:(List (List UInt8))) (r:Int) (h:YH l_0=some r):RT 219 [.lst (fl JB l_0) l_0.length] (jI r) []:=
 HA.of_ht 400 (Zz l_0) (fun (r:Int)=>jI r) (fun (r:Int)=>[]) (by kernel_rfl) h
def ZA (w_0:Gl):HT Bool True:=.run (cs 2 []) (fun _=>Hg) <|
  .sp (w_0.Days≥(1:Int))
  (.sp (w_0.Days≤(127:Int))
  (.sp (w_0.From≥(0:Int))
  (.sp (w_0.From<w_0.To)
  (.run (cs 2 (oa::oc::tc::oc::oa::(cs 2 (tc::oc::oa::(cs 2 (tc::(cs 3 (oa::(cs 2 (tc::oc::oa::(cs 2 []))))))))))) (fun γ=>k2 (dT (G0 γ)) (k2 (dT γ.1.1.2) (k2 (dT γ.1.2) (Gb (dT γ.2))))) <|
  .leaf (decide (w_0.To≤(1440:Int))) [])
  (.run (cs 2 (oa::oc::tc::oc::oa::(cs 2 (tc::oc::oa::(cs 2 (tc::(cs 3 (oa::(cs 2 (oF::(cs 4 []))))))))))) (fun γ=>k2 (dT (G0 γ)) (k2 (dT γ.1.1.2) (k2 (dT γ.1.2) (Gb (dF γ.2))))) <|
  .leaf false []))
  (.run (cs 2 (oa::oc::tc::oc::oa::(cs 2 (tc::oc::oa::(cs 2 (oF::(cs 11 []))))))) (fun γ=>k2 (dT γ.1.1.2) (k2 (dT γ.1.2) (Gb (dF γ.2)))) <|
  .leaf false []))
  (.run (cs 2 (oa::oc::tc::oc::oa::(cs 2 (oF::(cs 16 []))))) (fun γ=>k2 (dT γ.1.2) (Gb (dF γ.2))) <|
  .leaf false []))
  (.run (cs 2 (oa::oc::oF::(cs 21 []))) (fun γ=>Gb (dF γ.2)) <|
  .leaf false [])
def YI (w_0:Gl):Option Bool:=(ZA w_0).den
theorem GlN (w_0:Gl) (r:Bool) (h:YI w_0=some r):RT 221 [.agg (Gl.enc w_0)] (.bool r) []:=
 HA.of_ht 400 (ZA w_0) (fun (r:Bool)=>.bool r) (fun (r:Bool)=>[]) (by kernel_rfl) h
def Qe (p_0:Gw):Nat→HT (Nat⊕(Unit⊕Unit)) True
 | k40=>.run [oa] (fun _=>Hg) <|
  .sp ((↑k40:Int)<(↑p_0.Hours.length:Int))
  (.run [bt] (fun γ=>Gb (dT γ.2)) <|
  .bd (p_0.Hours[k40]?) fun x23=>.run ((oN (.i k40))::(oN (.v [jI x23.Days,jI x23.From,jI x23.To]))::(cs 2 [])) (fun γ=>k2 (ir γ.2) (k2 (GD (f:=Gl.enc) (z:=2) (fun _=>rfl) γ.2) (Gb (GX (f:=Gl.enc) (z:=3) (j:=k40) (fun _=>rfl) γ.2 rfl)))) <|
  .bd (YI x23) fun r25=>.run [oc,rN [.any] (.bool r25) [],oc] (fun γ=>Gb (GlN x23 r25 γ.2)) <|
  .sp (r25=true)
  (.run [bf] (fun γ=>Gb ((Gx γ.2):(!r25)=false)) <|
  .gd (GS .i64 ((↑k40:Int)+1)) <| .run [ow,oc] (fun γ=>Gb γ.2) <|
  .leaf (.inl (k40+1)) [0])
  (.run [bt,oc] (fun γ=>Gb ((Gy (Ja γ.2)):(!r25)=true)) <|
  .leaf (.inr (.inl ())) [0]))
  (.run [bf] (fun γ=>Gb (dF γ.2)) <|
  .leaf (.inr (.inr (()))) [0])
def JJ (p_0:Gw):Nat→Option (Nat⊕(Unit⊕Unit)):=fun s=>(Qe p_0 s).den
def Gbv (p_0:Gw):Nat→PS:=fun s=>(56,[(2,.ptr 0 0),(38,.lst (fl Gl.enc p_0.Hours) p_0.Hours.length),(39,jI (↑p_0.Hours.length:Int)),(40,jI (↑s:Int))],[(bT (Gw.enc p_0) 90)])
def Gbx:(Unit⊕Unit)→Hm:=fun q=>match q with | Sum.inl o=>.ret | Sum.inr (o)=>(.exit 0)
def Gbw (p_0:Gw):(Unit⊕Unit)→List (Nat×AV):=fun q=>match q with | Sum.inl o=>[(4,jI 12)] | Sum.inr (o)=>[(2,.ptr 0 0)]
def Gbu (p_0:Gw):(Unit⊕Unit)→List Hb:=fun _=>[(bT (Gw.enc p_0) 90)]
theorem XP (p_0:Gw) {s:Nat} {r:Unit⊕Unit} (h:lp (JJ p_0) s=some r):DT 1 (.loop (GK Tryz.prog 142 [1,1,1,1,1,1,0,1,0,0])) (Gbv p_0 s).st (Gbx r) (PS.st (56,Gbw p_0 r,Gbu p_0 r)):=
 GN.lp_ht 1 400 (Gbv p_0) Gbx (fun q=>(56,Gbw p_0 q,Gbu p_0 q)) (Qe p_0) (by intro k40; kernel_rfl) h
def Gby (p_0:Gw) (l_1:(List Gg)):HT Int True:=.run (cs 2 []) (fun _=>Hg) <|
  .bd (HS p_0.Name) fun r1=>.run (cs 2 [rN [.any] (.bool r1) [],oc]) (fun γ=>Gb (Hh p_0.Name r1 γ.2)) <|
  .sp (r1=true)
  (.run [bf] (fun γ=>Gb ((Gx γ.2):(!r1)=false)) <|
  .bd (Ge6 l_1 p_0.Zone) fun r4=>.run (cs 3 ((rN [.any,.any] (.tup [.agg (Gg.enc r4.1),.bool r4.2]) [])::(cs 8 []))) (fun γ=>Gb (GjV l_1 p_0.Zone r4 γ.2)) <|
  .sp (r4.2=true)
  (.run [bf] (fun γ=>Gb ((Gx γ.2):(!r4.2)=false)) <|
  .bd (YH p_0.Plates) fun r7=>.run (cs 2 ((rN [.any] (jI r7) [])::(cs 2 [oa]))) (fun γ=>Gb (GlM p_0.Plates r7 γ.2)) <|
  .sp (r7=(0:Int))
  (.run [bf] (fun γ=>Gb (Gx (Gu γ.2))) <|
  .bd (JQ p_0.Valid) fun r10=>.run (cs 2 [rN [.any] (.bool r10) [],oc]) (fun γ=>Gb (G8 p_0.Valid r10 γ.2)) <|
  .sp (r10=true)
  (.run (bf::(cs 3 [oa])) (fun γ=>Gb ((Gx γ.2):(!r10)=false)) <|
  .sp ((↑p_0.Hours.length:Int)>(32:Int))
  (.run [bt,oc] (fun γ=>Gb (dT γ.2)) <|
  .leaf 3 [])
  (.run (bf::(cs 4 [])) (fun γ=>Gb (dF γ.2)) <|
  .bd (lp (JJ p_0) (0:Nat)) fun qq=>.cs qq (fun o14=>.run [.fcut 1 .ret [(4,jI 12)] [(bT (Gw.enc p_0) 90)] [0] [(2,.any),(38,.any),(39,.any),(40,jI (↑(0:Nat):Int))] [bS]] (fun γ=>k2 (rfl:(jI 0:AV)=jI (↑(0:Nat):Int)) (Gb (XP p_0 (s:=(0:Nat)) (r:=Sum.inl o14) (eS γ.1.2 γ.2)))) <|
  .leaf 12 [])
  (fun o14=>.run [.fcut 1 (.exit 0) [(2,.ptr 0 0)] [(bT (Gw.enc p_0) 90)] [0] [(2,.any),(38,.any),(39,.any),(40,jI (↑(0:Nat):Int))] [bS]] (fun γ=>k2 (rfl:(jI 0:AV)=jI (↑(0:Nat):Int)) (Gb (XP p_0 (s:=(0:Nat)) (r:=Sum.inr (o14)) (eS γ.1.2 γ.2)))) <|
  .sp (p_0.Most<(1:Int))
  (.run (cs 2 (oa::oc::tc::(cs 3 [bt,oc]))) (fun γ=>k2 (dT γ.2) (Gb tT)) <|
  .leaf 1 [])
  (.run (cs 2 [oa,oc,oF,oc,oa,oc]) (fun γ=>Gb (dF γ.2)) <|
  .sp (p_0.Most>(2147483648:Int))
  (.run [bt,oc] (fun γ=>Gb (dT γ.2)) <|
  .leaf 1 [])
  (.run [bf,oc] (fun γ=>Gb (dF γ.2)) <|
  .leaf 0 [])))))
  (.run [bt,oc] (fun γ=>Gb ((Gy (Ja γ.2)):(!r10)=true)) <|
  .leaf 12 []))
  (.run (bt::(cs 2 [])) (fun γ=>Gb (Gy (Gz γ.2))) <|
  .leaf r7 []))
  (.run [bt,oc] (fun γ=>Gb ((Gy (Ja γ.2)):(!r4.2)=true)) <|
  .leaf 23 []))
  (.run [bt,oc] (fun γ=>Gb ((Gy (Ja γ.2)):(!r1)=true)) <|
  .leaf 6 [])
def Gax (p_0:Gw) (l_1:(List Gg)):Option Int:=(Gby p_0 l_1).den
theorem GmH (p_0:Gw) (l_1:(List Gg)) (r:Int) (h:Gax p_0 l_1=some r):RT 142 [.agg (Gw.enc p_0),.lst (fl Gg.enc l_1) l_1.length] (jI r) []:=
 HA.of_ht 400 (Gby p_0 l_1) (fun (r:Int)=>jI r) (fun (r:Int)=>[]) (by kernel_rfl) h
def Yz (l_0:(List (List UInt8))) (s_1:(List UInt8)):Nat→HT (Nat⊕(Unit⊕Unit)) True
 | k5=>.run (cs 3 [oa]) (fun _=>Hg) <|
  .sp ((↑k5:Int)<(↑l_0.length:Int))
  (.run [bt] (fun γ=>Gb (dT γ.2)) <|
  .bd (l_0[k5]?) fun x8=>.run (cs 2 [oN (.i k5),oN (.v [.str x8]),oc,oa]) (fun γ=>k2 (ir γ.2) (k2 (GD (f:=JB) (z:=0) (fun _=>rfl) γ.2) (Gb (Gtk γ.2)))) <|
  .sp (x8=s_1)
  (.run [bt,oc] (fun γ=>Gb (Gu γ.2)) <|
  .leaf (.inr (.inl ())) [])
  (.run [bf] (fun γ=>Gb (Gz γ.2)) <|
  .gd (GS .i64 ((↑k5:Int)+1)) <| .run [oc,ow,oc] (fun γ=>Gb γ.2) <|
  .leaf (.inl (k5+1)) []))
  (.run [bf] (fun γ=>Gb (dF γ.2)) <|
  .leaf (.inr (.inr (()))) [])
def MW (l_0:(List (List UInt8))) (s_1:(List UInt8)):Nat→Option (Nat⊕(Unit⊕Unit)):=fun s=>(Yz l_0 s_1 s).den
def Gjk (l_0:(List (List UInt8))) (s_1:(List UInt8)):Nat→PS:=fun s=>(18,[(0,.lst (fl JB l_0) l_0.length),(1,.str s_1),(5,jI (↑s:Int))],[])
def Gjm:(Unit⊕Unit)→Hm:=fun q=>match q with | Sum.inl o=>.ret | Sum.inr (o)=>(.exit 0)
def Gjl (l_0:(List (List UInt8))) (s_1:(List UInt8)):(Unit⊕Unit)→List (Nat×AV):=fun q=>match q with | Sum.inl o=>[(4,.bool true)] | Sum.inr (o)=>[]
def Gjj (l_0:(List (List UInt8))) (s_1:(List UInt8)):(Unit⊕Unit)→List Hb:=fun _=>[]
theorem GeF (l_0:(List (List UInt8))) (s_1:(List UInt8)) {s:Nat} {r:Unit⊕Unit} (h:lp (MW l_0 s_1) s=some r):DT 0 (.loop (GK Tryz.prog 91 [1,0,1,0,0])) (Gjk l_0 s_1 s).st (Gjm r) (PS.st (18,Gjl l_0 s_1 r,Gjj l_0 s_1 r)):=
 GN.lp_ht 0 400 (Gjk l_0 s_1) Gjm (fun q=>(18,Gjl l_0 s_1 q,Gjj l_0 s_1 q)) (Yz l_0 s_1) (by intro k5; kernel_rfl) h
def Gkn (l_0:(List (List UInt8))) (s_1:(List UInt8)):HT Bool True:=.run (cs 2 []) (fun _=>Hg) <|
  .bd (lp (MW l_0 s_1) (0:Nat)) fun qq=>.cs qq (fun o1=>.run [.fcut 0 .ret [(4,.bool true)] [] [] [(0,.any),(1,.any),(5,jI (↑(0:Nat):Int))] []] (fun γ=>k2 (rfl:(jI 0:AV)=jI (↑(0:Nat):Int)) (Gb (GeF l_0 s_1 (s:=(0:Nat)) (r:=Sum.inl o1) (eS γ.1.2 γ.2)))) <|
  .leaf true [])
  (fun o1=>.run [.fcut 0 (.exit 0) [] [] [] [(0,.any),(1,.any),(5,jI (↑(0:Nat):Int))] [],oc] (fun γ=>k2 (rfl:(jI 0:AV)=jI (↑(0:Nat):Int)) (Gb (GeF l_0 s_1 (s:=(0:Nat)) (r:=Sum.inr (o1)) (eS γ.1.2 γ.2)))) <|
  .leaf false [])
def Glt (l_0:(List (List UInt8))) (s_1:(List UInt8)):Option Bool:=(Gkn l_0 s_1).den
theorem GrF (l_0:(List (List UInt8))) (s_1:(List UInt8)) (r:Bool) (h:Glt l_0 s_1=some r):RT 91 [.lst (fl JB l_0) l_0.length,.str s_1] (.bool r) []:=
 HA.of_ht 400 (Gkn l_0 s_1) (fun (r:Bool)=>.bool r) (fun (r:Bool)=>[]) (by kernel_rfl) h
def Yy (p_0:Gw):Nat→HT (Nat⊕(Int⊕Unit)) True
 | k7=>.run (cs 4 [oa]) (fun _=>Hg) <|
  .sp ((↑k7:Int)<(↑p_0.Plates.length:Int))
  (.run [bt] (fun γ=>Gb (dT γ.2)) <|
  .bd (p_0.Plates[k7]?) fun x22=>.bd (GaK x22) fun r24=>.run (cs 3 ((oN (.i k7))::(oN (.v [.str x22]))::(rN [.any] (.tup [.str r24.1,jI r24.2]) [])::(cs 5 []))) (fun γ=>k2 (ir γ.1.2) (k2 (GD (f:=JB) (z:=0) (fun _=>rfl) γ.1.2) (k2 (Gtk γ.1.2) (Gb (GdG x22 r24 γ.2))))) <|
  .sp (r24.2=(0:Int))
  (.run (oc::oa::oc::oF::(cs 3 [oN (.i k7),oN (.v [.str x22]),oa,oc])) (fun γ=>k2 (Gx (Gu γ.2)) (k2 (ir γ.1.1.2) (k2 (GD (f:=JB) (z:=0) (fun _=>rfl) γ.1.1.2) (Gb (Gtk γ.1.1.2))))) <|
  .sp (r24.1=x22)
  (.run [bf] (fun γ=>Gb (Gx (Gu γ.2))) <|
  .gd (k7≤p_0.Plates.length) <| .bd (Glt (List.take k7 p_0.Plates) r24.1) fun r29=>.run (cs 3 [oN (.s 0 k7),.tr (.eqt (.t 58) (.lst (fl JB (List.take k7 p_0.Plates)) ((List.take k7 p_0.Plates).length))),oc,rN [.any,.any] (.bool r29) []]) (fun γ=>k2 (rfl:(↑k7:Int)=((k7:Nat):Int)) (k2 (⟨Nat.zero_le _,γ.1.2⟩:0≤k7∧k7≤p_0.Plates.length) (k2 ((Ya (GoJ (f:=JB) (fun _=>rfl) _ _) (by rw [List.length_take]; omega)):(.lst (List.take k7 (fl JB p_0.Plates)) k7:AV)=.lst (fl JB (List.take k7 p_0.Plates)) ((List.take k7 p_0.Plates).length)) (Gb (GrF (List.take k7 p_0.Plates) r24.1 r29 γ.2))))) <|
  .sp (r29=true)
  (.run [bt,oc] (fun γ=>Gb γ.2) <|
  .leaf (.inr (.inl 9)) [0])
  (.run [bf] (fun γ=>Gb ((Ja γ.2):r29=false)) <|
  .gd (GS .i64 ((↑k7:Int)+1)) <| .run [oc,ow,oc] (fun γ=>Gb γ.2) <|
  .leaf (.inl (k7+1)) [0]))
  (.run [bt,oc] (fun γ=>Gb (Gy (Gz γ.2))) <|
  .leaf (.inr (.inl 19)) [0]))
  (.run (oc::oa::oc::tc::(cs 7 [bt,oc])) (fun γ=>k2 (Gy (Gz γ.2)) (Gb tT)) <|
  .leaf (.inr (.inl 19)) [0]))
  (.run [bf] (fun γ=>Gb (dF γ.2)) <|
  .leaf (.inr (.inr (()))) [0])
def MV (p_0:Gw):Nat→Option (Nat⊕(Int⊕Unit)):=fun s=>(Yy p_0 s).den
def Gjg (p_0:Gw):Nat→PS:=fun s=>(91,[(2,.ptr 0 0),(7,jI (↑s:Int))],[(bT (Gw.enc p_0) 90)])
def Gji:(Int⊕Unit)→Hm:=fun q=>match q with | Sum.inl o=>.ret | Sum.inr (o)=>(.exit 0)
def Gjh (p_0:Gw):(Int⊕Unit)→List (Nat×AV):=fun q=>match q with | Sum.inl o=>[(4,jI o)] | Sum.inr (o)=>[(2,.ptr 0 0)]
def Gjf (p_0:Gw):(Int⊕Unit)→List Hb:=fun _=>[(bT (Gw.enc p_0) 90)]
theorem GeE (p_0:Gw) {s:Nat} {r:Int⊕Unit} (h:lp (MV p_0) s=some r):DT 1 (.loop (GK Tryz.prog 28 [1,1,1,1,1,0,1,0,0])) (Gjg p_0 s).st (Gji r) (PS.st (91,Gjh p_0 r,Gjf p_0 r)):=
 GN.lp_ht 1 400 (Gjg p_0) Gji (fun q=>(91,Gjh p_0 q,Gjf p_0 q)) (Yy p_0) (by intro k7; kernel_rfl) h
def Xb (p_0:Gw):Nat→HT (Nat⊕(Unit⊕Unit)) True
 | k10=>.run (cs 4 [oa]) (fun _=>Hg) <|
  .sp ((↑k10:Int)<(↑p_0.Hours.length:Int))
  (.run [bt] (fun γ=>Gb (dT γ.2)) <|
  .bd (p_0.Hours[k10]?) fun x46=>.bd (YX x46) fun r48=>.run (cs 3 [oN (.i k10),oN (.v [jI x46.Days,jI x46.From,jI x46.To]),rN [.any] (.bool r48) [],oc]) (fun γ=>k2 (ir γ.1.2) (k2 (GD (f:=Gl.enc) (z:=2) (fun _=>rfl) γ.1.2) (k2 (GX (f:=Gl.enc) (z:=3) (j:=k10) (fun _=>rfl) γ.1.2 rfl) (Gb (GfL x46 r48 γ.2))))) <|
  .sp (r48=true)
  (.run [bf] (fun γ=>Gb ((Gx γ.2):(!r48)=false)) <|
  .gd (GS .i64 ((↑k10:Int)+1)) <| .run [oc,ow,oc] (fun γ=>Gb γ.2) <|
  .leaf (.inl (k10+1)) [0])
  (.run [bt,oc] (fun γ=>Gb ((Gy (Ja γ.2)):(!r48)=true)) <|
  .leaf (.inr (.inl ())) [0]))
  (.run [bf] (fun γ=>Gb (dF γ.2)) <|
  .leaf (.inr (.inr (()))) [0])
def Md (p_0:Gw):Nat→Option (Nat⊕(Unit⊕Unit)):=fun s=>(Xb p_0 s).den
def Gho (p_0:Gw):Nat→PS:=fun s=>(91,[(2,.ptr 0 0),(10,jI (↑s:Int))],[(bT (Gw.enc p_0) 90)])
def Ghq:(Unit⊕Unit)→Hm:=fun q=>match q with | Sum.inl o=>.ret | Sum.inr (o)=>(.exit 2)
def Ghp (p_0:Gw):(Unit⊕Unit)→List (Nat×AV):=fun q=>match q with | Sum.inl o=>[(4,jI 12)] | Sum.inr (o)=>[(2,.ptr 0 0)]
def Ghn (p_0:Gw):(Unit⊕Unit)→List Hb:=fun _=>[(bT (Gw.enc p_0) 90)]
theorem GcK (p_0:Gw) {s:Nat} {r:Unit⊕Unit} (h:lp (Md p_0) s=some r):DT 1 (.loop (GK Tryz.prog 28 [1,1,1,1,1,1,1,1,0,1,0,0])) (Gho p_0 s).st (Ghq r) (PS.st (91,Ghp p_0 r,Ghn p_0 r)):=
 GN.lp_ht 1 400 (Gho p_0) Ghq (fun q=>(91,Ghp p_0 q,Ghn p_0 q)) (Xb p_0) (by intro k10; kernel_rfl) h
def Gkm (p_0:Gw) (l_1:(List Gg)):HT Int True:=.run (cs 2 []) (fun _=>Hg) <|
  .bd (X7 p_0.Name) fun r1=>.run (cs 2 [rN [.any] (.bool r1) [],oc]) (fun γ=>Gb (Yx p_0.Name r1 γ.2)) <|
  .sp (r1=true)
  (.run [bf] (fun γ=>Gb ((Gx γ.2):(!r1)=false)) <|
  .bd (Gn6 l_1 p_0.Zone) fun r4=>.run (cs 3 ((rN [.any,.any] (.tup [.agg (Gg.enc r4.1),.bool r4.2]) [])::(cs 8 []))) (fun γ=>Gb (GsM l_1 p_0.Zone r4 γ.2)) <|
  .sp (r4.2=true)
  (.run (bf::(cs 3 [oa])) (fun γ=>Gb ((Gx γ.2):(!r4.2)=false)) <|
  .sp ((↑p_0.Plates.length:Int)>(1024:Int))
  (.run [bt,oc] (fun γ=>Gb (dT γ.2)) <|
  .leaf 3 [])
  (.run [bf,oc] (fun γ=>Gb (dF γ.2)) <|
  .bd (lp (MV p_0) (0:Nat)) fun qq=>.cs qq (fun o8=>.run [.fcut 1 .ret [(4,jI o8)] [(bT (Gw.enc p_0) 90)] [0] [(2,.any),(7,jI (↑(0:Nat):Int))] [bS]] (fun γ=>k2 (rfl:(jI 0:AV)=jI (↑(0:Nat):Int)) (Gb (GeE p_0 (s:=(0:Nat)) (r:=Sum.inl o8) (eS γ.1.2 γ.2)))) <|
  .leaf o8 [])
  (fun o8=>.run [.fcut 1 (.exit 0) [(2,.ptr 0 0)] [(bT (Gw.enc p_0) 90)] [0] [(2,.any),(7,jI (↑(0:Nat):Int))] [bS]] (fun γ=>k2 (rfl:(jI 0:AV)=jI (↑(0:Nat):Int)) (Gb (GeE p_0 (s:=(0:Nat)) (r:=Sum.inr (o8)) (eS γ.1.2 γ.2)))) <|
  .bd (Qy p_0.Valid) fun r33=>.run (cs 2 [rN [.any] (.bool r33) [],oc]) (fun γ=>Gb (HZ p_0.Valid r33 γ.2)) <|
  .sp (r33=true)
  (.run (bf::(cs 3 [oa])) (fun γ=>Gb ((Gx γ.2):(!r33)=false)) <|
  .sp ((↑p_0.Hours.length:Int)>(32:Int))
  (.run [bt,oc] (fun γ=>Gb (dT γ.2)) <|
  .leaf 3 [])
  (.run [bf,oc] (fun γ=>Gb (dF γ.2)) <|
  .bd (lp (Md p_0) (0:Nat)) fun qq=>.cs qq (fun o37=>.run [.fcut 1 .ret [(4,jI 12)] [(bT (Gw.enc p_0) 90)] [0] [(2,.any),(10,jI (↑(0:Nat):Int))] [bS]] (fun γ=>k2 (rfl:(jI 0:AV)=jI (↑(0:Nat):Int)) (Gb (GcK p_0 (s:=(0:Nat)) (r:=Sum.inl o37) (eS γ.1.2 γ.2)))) <|
  .leaf 12 [])
  (fun o37=>.run [.fcut 1 (.exit 2) [(2,.ptr 0 0)] [(bT (Gw.enc p_0) 90)] [0] [(2,.any),(10,jI (↑(0:Nat):Int))] [bS]] (fun γ=>k2 (rfl:(jI 0:AV)=jI (↑(0:Nat):Int)) (Gb (GcK p_0 (s:=(0:Nat)) (r:=Sum.inr (o37)) (eS γ.1.2 γ.2)))) <|
  .sp (p_0.Most<(1:Int))
  (.run (cs 2 (oa::oc::tc::(cs 3 [bt,oc]))) (fun γ=>k2 (dT γ.2) (Gb tT)) <|
  .leaf 1 [])
  (.run (cs 2 [oa,oc,oF,oc,oa,oc]) (fun γ=>Gb (dF γ.2)) <|
  .sp (p_0.Most>(2147483648:Int))
  (.run [bt,oc] (fun γ=>Gb (dT γ.2)) <|
  .leaf 1 [])
  (.run [bf,oc] (fun γ=>Gb (dF γ.2)) <|
  .leaf 0 [])))))
  (.run [bt,oc] (fun γ=>Gb ((Gy (Ja γ.2)):(!r33)=true)) <|
  .leaf 12 []))))
  (.run [bt,oc] (fun γ=>Gb ((Gy (Ja γ.2)):(!r4.2)=true)) <|
  .leaf 23 []))
  (.run [bt,oc] (fun γ=>Gb ((Gy (Ja γ.2)):(!r1)=true)) <|
  .leaf 6 [])
def Gls (p_0:Gw) (l_1:(List Gg)):Option Int:=(Gkm p_0 l_1).den
theorem GrE (p_0:Gw) (l_1:(List Gg)) (r:Int) (h:Gls p_0 l_1=some r):RT 28 [.agg (Gw.enc p_0),.lst (fl Gg.enc l_1) l_1.length] (jI r) []:=
 HA.of_ht 400 (Gkm p_0 l_1) (fun (r:Int)=>jI r) (fun (r:Int)=>[]) (by kernel_rfl) h
end
set_option maxHeartbeats 4000000
noncomputable section
abbrev Ls (s:List UInt8):Prop:=s.length≤140737488351232
def GpO (l:List (List UInt8)) (k:Nat) (x:List UInt8):Option Int:=
 if (plN x).2≠0∨(plN x).1≠x then some 19 else if (l.take k).any (fun y=>decide (y=x)) then some 9 else none
def GwD (l:List (List UInt8)):Int:=if l.length>1024 then 3 else (GJ (GpO l) 0 l).getD 0
theorem GmI (l:List (List UInt8)) (hx:∀ x ∈ l,Ls x):YH l=some (GwD l):=by
 simp only [YH,Zz,dA,GwD]
 by_cases hl:l.length>1024
 ·rw [if_pos (by omega),if_pos hl]
 rw [if_neg (by omega),if_neg hl]
 have hs:Sm l:=by show _≤_; omega
 have key:lp (JK l) 0=some (HQ (GJ (GpO l) 0 l)):=by
  refine GP (fun k x hk0=>?_) ?_
  ·obtain ⟨hk,i1,i2,hkl,h1,h2⟩:=rd hs hk0
   have hkl2:k≤l.length:=by omega
   have hn:=GfR x (by have:=hx x (List.mem_of_getElem? hk0); unfold Ls at this; omega)
   have hq:lp (Jw l k x) 0=some (HQ (if (l.take k).any (fun y=>decide (y=x)) then some () else none)):=by
    rw [← Hq (l.take k) 0]
    have hst:Sm (l.take k):=by show _≤_; rw [List.length_take]; omega
    refine GP (fun j y hy=>?_) ?_
    ·obtain ⟨_,i3,_,hjl,_,_⟩:=rd hst hy
     simp only [Jw,MB,dA,hy,Hd,i3,if_true,hjl]
     clear i1 i2 i3 hs hst
     grind [K0]
    ·simp only [Jw,MB,d3,d6,d1]
     rw [if_neg (by omega)]
   simp only [JK,Qf,dA,hk0,hq,hn,Hd,i1,if_true,hkl,hkl2,GpO]
   clear i1 i2 hs hq hn hx
   generalize plN x=q
   rcases Hk ((l.take k).any fun y=>decide (y=x)) with hh | hh <;> simp only [hh,HQ,eN,eM,if_true,if_false,Bool.false_eq_true] <;> clear hh <;> grind [K0]
  ·simp only [JK,Qf,d3,d6,d1]
   rw [if_neg (by omega)]
 rw [key]
 cases GJ (GpO l) 0 l <;> rfl
theorem GmJ (w:Gl):YI w=some (Xv w):=by
 simp only [YI,ZA,d1,d2,d3,d6,Xv]; grind
def Gga (p:Gw) (l:List Gg):Int:=
 if HR p.Name=false then 6 else if l.any (Gcd p.Zone)=false then 23 else if GwD p.Plates≠0 then GwD p.Plates else if Ub p.Valid=false then 12
 else if p.Hours.length>32 then 3 else if p.Hours.any (fun w=>!Xv w) then 12 else if p.Most<1∨p.Most>2147483648 then 1 else 0
theorem GnK (p:Gw) (l:List Gg) (hl:Sm l) (hz:∀ z ∈ l,Gvs z) (hp:∀ x ∈ p.Plates,Ls x):Gax p l=some (Gga p l):=by
 obtain ⟨z,hf⟩:=Gl6 l hl hz p.Zone
 simp only [Gax,Gby,dA,JX,hf,GmI _ hp,Uw,Hd,Gga]
 clear hf hl hz hp
 rcases Hk (HR p.Name) with hn | hn <;> simp only [hn,if_true,if_false,Bool.true_eq_false,Bool.false_eq_true]
 rcases Hk (l.any (Gcd p.Zone)) with hn | hn <;> simp only [hn,if_true,if_false,Bool.true_eq_false,Bool.false_eq_true]
 generalize GwD p.Plates=q
 by_cases h0:q=0
 rotate_left
 ·simp only [if_neg h0,if_pos h0]
 simp only [if_pos h0,if_neg (show ¬ q≠0 from fun h=>h h0)]
 rcases Hk (Ub p.Valid) with hn | hn <;> simp only [hn,if_true,if_false,Bool.true_eq_false,Bool.false_eq_true]
 by_cases h1:p.Hours.length>32
 ·rw [if_pos (by omega),if_pos h1]
 rw [if_neg (by omega),if_neg h1]
 have hs:Sm p.Hours:=by show _≤_; omega
 have key:lp (JJ p) 0=some (HQ (if p.Hours.any (fun w=>!Xv w) then some () else none)):=by
  rw [← Hq p.Hours 0]
  refine GP (fun k x hx=>?_) ?_
  ·obtain ⟨hk,i1,i2,hkl,h3,h4⟩:=rd hs hx
   simp only [JJ,Qe,dA,hx,Hd,GmJ,i1,if_true,hkl]
   clear i1 i2 hs
   cases Xv x <;> rfl
  ·simp only [JJ,Qe,d3,d6,d1]
   rw [if_neg (by omega)]
 rw [key]
 clear hs key
 rcases Hk (p.Hours.any fun w=>!Xv w) with hh | hh <;> simp only [hh,HQ,Hd,eN,eM,if_true,if_false,Bool.false_eq_true] <;> grind
theorem Gpm (l:List (List UInt8)) (hl:Sm l) (s:List UInt8):Glt l s=some (l.any fun y=>decide (y=s)):=by
 simp only [Glt,Gkn,dA]
 have key:lp (MW l s) 0=some (HQ (if l.any (fun y=>decide (y=s)) then some () else none)):=by
  rw [← Hq l 0]
  refine GP (fun k y hy=>?_) ?_
  ·obtain ⟨hk,i1,i2,hkl,h1,h2⟩:=rd hl hy
   simp only [MW,Yz,dA,hy,Hd,i1,if_true,hkl]
   clear i1 i2 hl
   grind [K0]
  ·simp only [MW,Yz,d3,d6,d1]
   rw [if_neg (by omega)]
 rw [key]
 cases l.any fun y=>decide (y=s) <;> rfl
theorem Gzi {l:List (List UInt8)} {k:Nat} {x:List UInt8}:GpO l k x≠some 0:=by unfold GpO; grind
theorem Gpl (p:Gw) (l:List Gg) (hl:Sm l) (hp:∀ x ∈ p.Plates,Ls x):Gls p l=some (Gga p l):=by
 obtain ⟨z,hf⟩:=GpR l hl p.Zone
 simp only [Gls,Gkm,dA,U0,hf,ZC,Hd,Gga]
 clear hf hl
 rcases Hk (HR p.Name) with hn | hn <;> simp only [hn,if_true,if_false,Bool.true_eq_false,Bool.false_eq_true]
 rcases Hk (l.any (Gcd p.Zone)) with hn | hn <;> simp only [hn,if_true,if_false,Bool.true_eq_false,Bool.false_eq_true]
 unfold GwD
 by_cases h2:p.Plates.length>1024
 ·rw [if_pos (by omega)]; simp only [if_pos h2]; rfl
 rw [if_neg (by omega)]; simp only [if_neg h2]
 have hs:Sm p.Plates:=by show _≤_; omega
 have k2:lp (MV p) 0=some (HQ (GJ (GpO p.Plates) 0 p.Plates)):=by
  refine GP (fun k x hx=>?_) ?_
  ·obtain ⟨hk,i1,i2,hkl,h3,h4⟩:=rd hs hx
   have hkl2:k≤p.Plates.length:=by omega
   have hn:=GfS x (by have:=hp x (List.mem_of_getElem? hx); unfold Ls at this; omega)
   have hst:Sm (p.Plates.take k):=by show _≤_; rw [List.length_take]; omega
   simp only [MV,Yy,dA,hx,hn,Gpm _ hst,Hd,i1,if_true,hkl,hkl2,GpO]
   clear i1 i2 hs hst hn hp
   by_cases e1:(plN x).2=0
   ·by_cases e2:(plN x).1=x
    ·simp only [e1,e2]
     rcases Hk ((p.Plates.take k).any fun y=>decide (y=x)) with hh | hh <;> simp only [hh,if_true,if_false,Bool.false_eq_true] <;> clear hh <;> grind [K0]
    ·simp only [e1,e2]; grind [K0]
   ·simp only [e1]; grind [K0]
  ·simp only [MV,Yy,d3,d6,d1]
   rw [if_neg (by omega)]
 rw [k2]
 clear hs k2 hp
 have h0:GJ (GpO p.Plates) 0 p.Plates≠some 0:=fun h=>by obtain ⟨i,x,_,h2⟩:=RH h; exact Gzi h2
 generalize GJ (GpO p.Plates) 0 p.Plates=q at h0
 cases q with
 | some r=>
  have:r≠0:=fun h=>h0 (by rw [h])
  simp only [HQ,Hd,eN,Option.getD_some,if_pos this]
 | none=>
  simp only [HQ,Hd,eM,Option.getD_none,if_neg (show ¬ ((0:Int)≠0) from fun h=>h rfl)]
  clear h0 h2
  rcases Hk (Ub p.Valid) with hn | hn <;> simp only [hn,if_true,if_false,Bool.true_eq_false,Bool.false_eq_true]
  by_cases h1:p.Hours.length>32
  ·rw [if_pos (by omega),if_pos h1]
  rw [if_neg (by omega),if_neg h1]
  have hs:Sm p.Hours:=by show _≤_; omega
  have key:lp (Md p) 0=some (HQ (if p.Hours.any (fun w=>!Xv w) then some () else none)):=by
   rw [← Hq p.Hours 0]
   refine GP (fun k x hx=>?_) ?_
   ·obtain ⟨hk,i1,i2,hkl,h3,h4⟩:=rd hs hx
    simp only [Md,Xb,dA,hx,Hd,Gdc,i1,if_true,hkl]
    clear i1 i2 hs
    cases Xv x <;> rfl
   ·simp only [Md,Xb,d3,d6,d1]
    rw [if_neg (by omega)]
  rw [key]
  clear hs key
  rcases Hk (p.Hours.any fun w=>!Xv w) with hh | hh <;> simp only [hh,HQ,Hd,eN,eM,if_true,if_false,Bool.false_eq_true] <;> grind
end
end Go.Proofs.YtdifanfcaemokaaGreatDoor.Av
