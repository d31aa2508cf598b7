import Derived.Test.YtnlaiahcemckkaaGreatDoorHPEz
open Prod (fst)
open Int (tdiv tmod)
set_option maxHeartbeats 4000000
set_option maxRecDepth 100000
set_option linter.unusedVariables false
set_option linter.unusedSimpArgs false
namespace Go.Proofs.YtnlaiahcemckkaaGreatDoor.Av
noncomputable section
open Go Go.Proofs
def KT (s_0:(List UInt8)):(Nat×(List UInt8))→HT ((Nat×(List UInt8))⊕(Unit⊕(List UInt8))) True
 | (k9,b0)=>.run [oa] (fun _=>He) <|
  .sp ((↑k9:Int)<(↑s_0.length:Int))
  (.run (bt::(cs 2 [])) (fun γ=>Gb (dT γ.2)) <|
  .bd (s_0[k9]?) fun x66=>.run (cs 2 [.op none (.i k9),.tr (.eqt (.t 14) (.int .u8 (x66.toNat:Int))),oc]) (fun γ=>k2 (ir γ.2) (Gb ((Hy γ.2):(.int .u8 ((List.getD s_0 k9 0).toNat:Int):AV)=.int .u8 (x66.toNat:Int)))) <|
  .sp ((x66.toNat:Int)≥(97:Int))
  (.run [oc,oa,oc,tc,oa,oc] (fun γ=>Gb (dT γ.2)) <|
  .sp ((x66.toNat:Int)≤(122:Int))
  (.run [bt] (fun γ=>Gb (dT γ.2)) <|
  .gd (GP .u8 ((x66.toNat:Int) - 32)) <| .run [oc,ow,oc] (fun γ=>Gb γ.2) <|
  .sp (((x66.toNat:Int) - 32)=(32:Int))
  (.run (oc::oa::oc::tc::(cs 2 [bt])) (fun γ=>k2 (Gp γ.2) (Gb (rfl:true=true))) <|
  .gd (GP .i64 ((↑k9:Int)+1)) <| .run [ow,oc] (fun γ=>Gb γ.2) <|
  .leaf (Sum.inl ((k9+1),b0)) [0])
  (.run [oc,oa,oc,oF,oa,oc] (fun γ=>Gb (Gw γ.2)) <|
  .sp (((x66.toNat:Int) - 32)=(45:Int))
  (.run [bt] (fun γ=>Gb (Gp γ.2)) <|
  .gd (GP .i64 ((↑k9:Int)+1)) <| .run [ow,oc] (fun γ=>Gb γ.2) <|
  .leaf (Sum.inl ((k9+1),b0)) [0])
  (.run [bf] (fun γ=>Gb (Gw γ.2)) <|
  .sp (((x66.toNat:Int) - 32)<(65:Int))
  (.sp (((x66.toNat:Int) - 32)<(48:Int))
  (.run (oc::oa::oc::tc::(cs 4 (oa::oc::tc::(cs 8 (bt::(cs 2 [])))))) (fun γ=>k2 (dT γ.1.2) (k2 (dT γ.2) (Gb (rfl:true=true)))) <|
  .leaf (Sum.inr (Sum.inl ())) [])
  (.sp (((x66.toNat:Int) - 32)>(57:Int))
  (.run (oc::oa::oc::tc::(cs 4 (oa::oc::oF::oa::(cs 3 (tc::(cs 3 (bt::(cs 2 [])))))))) (fun γ=>k2 (dT γ.1.1.2) (k2 (dF γ.1.2) (k2 (dT γ.2) (Gb (rfl:true=true))))) <|
  .leaf (Sum.inr (Sum.inl ())) [])
  (.run (oc::oa::oc::tc::(cs 4 (oa::oc::oF::oa::(cs 3 [oF,oc,oa,oc])))) (fun γ=>k2 (dT γ.1.1.2) (k2 (dF γ.1.2) (Gb (dF γ.2)))) <|
  .sp ((↑b0.length:Int)=(10:Int))
  (.run (bt::(cs 2 [])) (fun γ=>Gb (Gp γ.2)) <|
  .leaf (Sum.inr (Sum.inl ())) [])
  (.run [bf] (fun γ=>Gb (Gw γ.2)) <|
  .gd (b0.length+1≤140737488355232) <| .run (cs 3 [.op none (.ap 4),.tr (.eqc 2 (Jo (b0++[(UInt8.ofNat (Int.toNat ((x66.toNat:Int) - 32)))]))),.tr (.eqt (.t 51) (.vec 2 ((b0++[(UInt8.ofNat (Int.toNat ((x66.toNat:Int) - 32)))]).length) 1)),oc]) (fun γ=>k2 ((nB rfl):0+1≤List.length ([.int .u8 ((x66.toNat:Int) - 32)]:List AV)) (k2 (Hu:List.length ((Jo b0):List AV)=b0.length) (k2 (rfl:List.all ([.int .u8 ((x66.toNat:Int) - 32)]:List AV) AV.one=true) (k2 γ.2 (k2 ((Ju (congrArg (fun q=>[q]) (GoM γ.1.1.1.1.1.1.1.2))):(Jo b0)++[.int .u8 ((x66.toNat:Int) - 32)]=(Jo (b0++[(UInt8.ofNat (Int.toNat ((x66.toNat:Int) - 32)))]))) (Gb ((by simp <;> omega):(.vec 2 (b0.length+1) 1:AV)=.vec 2 ((b0++[(UInt8.ofNat (Int.toNat ((x66.toNat:Int) - 32)))]).length) 1))))))) <|
  .gd (GP .i64 ((↑k9:Int)+1)) <| .run [ow,oc] (fun γ=>Gb γ.2) <|
  .leaf (Sum.inl ((k9+1),(b0++[(UInt8.ofNat (Int.toNat ((x66.toNat:Int) - 32)))]))) [2]))))
  (.sp (((x66.toNat:Int) - 32)>(90:Int))
  (.sp (((x66.toNat:Int) - 32)<(48:Int))
  (.run (oc::oa::oc::oF::oa::(cs 2 (tc::oa::oc::tc::(cs 8 (bt::(cs 2 [])))))) (fun γ=>k2 (dF γ.1.1.2) (k2 (dT γ.1.2) (k2 (dT γ.2) (Gb (rfl:true=true))))) <|
  .leaf (Sum.inr (Sum.inl ())) [])
  (.sp (((x66.toNat:Int) - 32)>(57:Int))
  (.run (oc::oa::oc::oF::oa::(cs 2 (tc::oa::oc::oF::oa::(cs 3 (tc::(cs 3 (bt::(cs 2 [])))))))) (fun γ=>k2 (dF γ.1.1.1.2) (k2 (dT γ.1.1.2) (k2 (dF γ.1.2) (k2 (dT γ.2) (Gb (rfl:true=true)))))) <|
  .leaf (Sum.inr (Sum.inl ())) [])
  (.run (oc::oa::oc::oF::oa::(cs 2 (tc::oa::oc::oF::oa::(cs 3 [oF,oc,oa,oc])))) (fun γ=>k2 (dF γ.1.1.1.2) (k2 (dT γ.1.1.2) (k2 (dF γ.1.2) (Gb (dF γ.2))))) <|
  .sp ((↑b0.length:Int)=(10:Int))
  (.run (bt::(cs 2 [])) (fun γ=>Gb (Gp γ.2)) <|
  .leaf (Sum.inr (Sum.inl ())) [])
  (.run [bf] (fun γ=>Gb (Gw γ.2)) <|
  .gd (b0.length+1≤140737488355232) <| .run (cs 3 [.op none (.ap 4),.tr (.eqc 2 (Jo (b0++[(UInt8.ofNat (Int.toNat ((x66.toNat:Int) - 32)))]))),.tr (.eqt (.t 51) (.vec 2 ((b0++[(UInt8.ofNat (Int.toNat ((x66.toNat:Int) - 32)))]).length) 1)),oc]) (fun γ=>k2 ((nB rfl):0+1≤List.length ([.int .u8 ((x66.toNat:Int) - 32)]:List AV)) (k2 (Hu:List.length ((Jo b0):List AV)=b0.length) (k2 (rfl:List.all ([.int .u8 ((x66.toNat:Int) - 32)]:List AV) AV.one=true) (k2 γ.2 (k2 ((Ju (congrArg (fun q=>[q]) (GoM γ.1.1.1.1.1.1.1.1.2))):(Jo b0)++[.int .u8 ((x66.toNat:Int) - 32)]=(Jo (b0++[(UInt8.ofNat (Int.toNat ((x66.toNat:Int) - 32)))]))) (Gb ((by simp <;> omega):(.vec 2 (b0.length+1) 1:AV)=.vec 2 ((b0++[(UInt8.ofNat (Int.toNat ((x66.toNat:Int) - 32)))]).length) 1))))))) <|
  .gd (GP .i64 ((↑k9:Int)+1)) <| .run [ow,oc] (fun γ=>Gb γ.2) <|
  .leaf (Sum.inl ((k9+1),(b0++[(UInt8.ofNat (Int.toNat ((x66.toNat:Int) - 32)))]))) [2]))))
  (.run (oc::oa::oc::oF::oa::(cs 2 (oF::(cs 9 [oa,oc])))) (fun γ=>k2 (dF γ.1.2) (Gb (dF γ.2))) <|
  .sp ((↑b0.length:Int)=(10:Int))
  (.run (bt::(cs 2 [])) (fun γ=>Gb (Gp γ.2)) <|
  .leaf (Sum.inr (Sum.inl ())) [])
  (.run [bf] (fun γ=>Gb (Gw γ.2)) <|
  .gd (b0.length+1≤140737488355232) <| .run (cs 3 [.op none (.ap 4),.tr (.eqc 2 (Jo (b0++[(UInt8.ofNat (Int.toNat ((x66.toNat:Int) - 32)))]))),.tr (.eqt (.t 51) (.vec 2 ((b0++[(UInt8.ofNat (Int.toNat ((x66.toNat:Int) - 32)))]).length) 1)),oc]) (fun γ=>k2 ((nB rfl):0+1≤List.length ([.int .u8 ((x66.toNat:Int) - 32)]:List AV)) (k2 (Hu:List.length ((Jo b0):List AV)=b0.length) (k2 (rfl:List.all ([.int .u8 ((x66.toNat:Int) - 32)]:List AV) AV.one=true) (k2 γ.2 (k2 ((Ju (congrArg (fun q=>[q]) (GoM γ.1.1.1.1.1.1.2))):(Jo b0)++[.int .u8 ((x66.toNat:Int) - 32)]=(Jo (b0++[(UInt8.ofNat (Int.toNat ((x66.toNat:Int) - 32)))]))) (Gb ((by simp <;> omega):(.vec 2 (b0.length+1) 1:AV)=.vec 2 ((b0++[(UInt8.ofNat (Int.toNat ((x66.toNat:Int) - 32)))]).length) 1))))))) <|
  .gd (GP .i64 ((↑k9:Int)+1)) <| .run [ow,oc] (fun γ=>Gb γ.2) <|
  .leaf (Sum.inl ((k9+1),(b0++[(UInt8.ofNat (Int.toNat ((x66.toNat:Int) - 32)))]))) [2]))))))
  (.run [bf] (fun γ=>Gb (dF γ.2)) <|
  .sp ((x66.toNat:Int)=(32:Int))
  (.run (oc::oa::oc::tc::(cs 2 [bt])) (fun γ=>k2 (Gp γ.2) (Gb (rfl:true=true))) <|
  .gd (GP .i64 ((↑k9:Int)+1)) <| .run [ow,oc] (fun γ=>Gb γ.2) <|
  .leaf (Sum.inl ((k9+1),b0)) [0])
  (.run [oc,oa,oc,oF,oa,oc] (fun γ=>Gb (Gw γ.2)) <|
  .sp ((x66.toNat:Int)=(45:Int))
  (.run [bt] (fun γ=>Gb (Gp γ.2)) <|
  .gd (GP .i64 ((↑k9:Int)+1)) <| .run [ow,oc] (fun γ=>Gb γ.2) <|
  .leaf (Sum.inl ((k9+1),b0)) [0])
  (.run [bf] (fun γ=>Gb (Gw γ.2)) <|
  .sp ((x66.toNat:Int)<(65:Int))
  (.sp ((x66.toNat:Int)<(48:Int))
  (.run (oc::oa::oc::tc::(cs 4 (oa::oc::tc::(cs 8 (bt::(cs 2 [])))))) (fun γ=>k2 (dT γ.1.2) (k2 (dT γ.2) (Gb (rfl:true=true)))) <|
  .leaf (Sum.inr (Sum.inl ())) [])
  (.sp ((x66.toNat:Int)>(57:Int))
  (.run (oc::oa::oc::tc::(cs 4 (oa::oc::oF::oa::(cs 3 (tc::(cs 3 (bt::(cs 2 [])))))))) (fun γ=>k2 (dT γ.1.1.2) (k2 (dF γ.1.2) (k2 (dT γ.2) (Gb (rfl:true=true))))) <|
  .leaf (Sum.inr (Sum.inl ())) [])
  (.run (oc::oa::oc::tc::(cs 4 (oa::oc::oF::oa::(cs 3 [oF,oc,oa,oc])))) (fun γ=>k2 (dT γ.1.1.2) (k2 (dF γ.1.2) (Gb (dF γ.2)))) <|
  .sp ((↑b0.length:Int)=(10:Int))
  (.run (bt::(cs 2 [])) (fun γ=>Gb (Gp γ.2)) <|
  .leaf (Sum.inr (Sum.inl ())) [])
  (.run [bf] (fun γ=>Gb (Gw γ.2)) <|
  .gd (b0.length+1≤140737488355232) <| .run (cs 3 [.op none (.ap 4),.tr (.eqc 2 (Jo (b0++[x66]))),.tr (.eqt (.t 51) (.vec 2 ((b0++[x66]).length) 1)),oc]) (fun γ=>k2 ((nB rfl):0+1≤List.length ([.int .u8 (x66.toNat:Int)]:List AV)) (k2 (Hu:List.length ((Jo b0):List AV)=b0.length) (k2 (rfl:List.all ([.int .u8 (x66.toNat:Int)]:List AV) AV.one=true) (k2 γ.2 (k2 ((Ju rfl):(Jo b0)++[.int .u8 (x66.toNat:Int)]=(Jo (b0++[x66]))) (Gb ((by simp <;> omega):(.vec 2 (b0.length+1) 1:AV)=.vec 2 ((b0++[x66]).length) 1))))))) <|
  .gd (GP .i64 ((↑k9:Int)+1)) <| .run [ow,oc] (fun γ=>Gb γ.2) <|
  .leaf (Sum.inl ((k9+1),(b0++[x66]))) [2]))))
  (.sp ((x66.toNat:Int)>(90:Int))
  (.sp ((x66.toNat:Int)<(48:Int))
  (.run (oc::oa::oc::oF::oa::(cs 2 (tc::oa::oc::tc::(cs 8 (bt::(cs 2 [])))))) (fun γ=>k2 (dF γ.1.1.2) (k2 (dT γ.1.2) (k2 (dT γ.2) (Gb (rfl:true=true))))) <|
  .leaf (Sum.inr (Sum.inl ())) [])
  (.sp ((x66.toNat:Int)>(57:Int))
  (.run (oc::oa::oc::oF::oa::(cs 2 (tc::oa::oc::oF::oa::(cs 3 (tc::(cs 3 (bt::(cs 2 [])))))))) (fun γ=>k2 (dF γ.1.1.1.2) (k2 (dT γ.1.1.2) (k2 (dF γ.1.2) (k2 (dT γ.2) (Gb (rfl:true=true)))))) <|
  .leaf (Sum.inr (Sum.inl ())) [])
  (.run (oc::oa::oc::oF::oa::(cs 2 (tc::oa::oc::oF::oa::(cs 3 [oF,oc,oa,oc])))) (fun γ=>k2 (dF γ.1.1.1.2) (k2 (dT γ.1.1.2) (k2 (dF γ.1.2) (Gb (dF γ.2))))) <|
  .sp ((↑b0.length:Int)=(10:Int))
  (.run (bt::(cs 2 [])) (fun γ=>Gb (Gp γ.2)) <|
  .leaf (Sum.inr (Sum.inl ())) [])
  (.run [bf] (fun γ=>Gb (Gw γ.2)) <|
  .gd (b0.length+1≤140737488355232) <| .run (cs 3 [.op none (.ap 4),.tr (.eqc 2 (Jo (b0++[x66]))),.tr (.eqt (.t 51) (.vec 2 ((b0++[x66]).length) 1)),oc]) (fun γ=>k2 ((nB rfl):0+1≤List.length ([.int .u8 (x66.toNat:Int)]:List AV)) (k2 (Hu:List.length ((Jo b0):List AV)=b0.length) (k2 (rfl:List.all ([.int .u8 (x66.toNat:Int)]:List AV) AV.one=true) (k2 γ.2 (k2 ((Ju rfl):(Jo b0)++[.int .u8 (x66.toNat:Int)]=(Jo (b0++[x66]))) (Gb ((by simp <;> omega):(.vec 2 (b0.length+1) 1:AV)=.vec 2 ((b0++[x66]).length) 1))))))) <|
  .gd (GP .i64 ((↑k9:Int)+1)) <| .run [ow,oc] (fun γ=>Gb γ.2) <|
  .leaf (Sum.inl ((k9+1),(b0++[x66]))) [2]))))
  (.run (oc::oa::oc::oF::oa::(cs 2 (oF::(cs 9 [oa,oc])))) (fun γ=>k2 (dF γ.1.2) (Gb (dF γ.2))) <|
  .sp ((↑b0.length:Int)=(10:Int))
  (.run (bt::(cs 2 [])) (fun γ=>Gb (Gp γ.2)) <|
  .leaf (Sum.inr (Sum.inl ())) [])
  (.run [bf] (fun γ=>Gb (Gw γ.2)) <|
  .gd (b0.length+1≤140737488355232) <| .run (cs 3 [.op none (.ap 4),.tr (.eqc 2 (Jo (b0++[x66]))),.tr (.eqt (.t 51) (.vec 2 ((b0++[x66]).length) 1)),oc]) (fun γ=>k2 ((nB rfl):0+1≤List.length ([.int .u8 (x66.toNat:Int)]:List AV)) (k2 (Hu:List.length ((Jo b0):List AV)=b0.length) (k2 (rfl:List.all ([.int .u8 (x66.toNat:Int)]:List AV) AV.one=true) (k2 γ.2 (k2 ((Ju rfl):(Jo b0)++[.int .u8 (x66.toNat:Int)]=(Jo (b0++[x66]))) (Gb ((by simp <;> omega):(.vec 2 (b0.length+1) 1:AV)=.vec 2 ((b0++[x66]).length) 1))))))) <|
  .gd (GP .i64 ((↑k9:Int)+1)) <| .run [ow,oc] (fun γ=>Gb γ.2) <|
  .leaf (Sum.inl ((k9+1),(b0++[x66]))) [2])))))))
  (.run (oc::oa::oc::oF::(cs 2 [bf])) (fun γ=>k2 (dF γ.2) (Gb (rfl:false=false))) <|
  .sp ((x66.toNat:Int)=(32:Int))
  (.run (oc::oa::oc::tc::(cs 2 [bt])) (fun γ=>k2 (Gp γ.2) (Gb (rfl:true=true))) <|
  .gd (GP .i64 ((↑k9:Int)+1)) <| .run [ow,oc] (fun γ=>Gb γ.2) <|
  .leaf (Sum.inl ((k9+1),b0)) [0])
  (.run [oc,oa,oc,oF,oa,oc] (fun γ=>Gb (Gw γ.2)) <|
  .sp ((x66.toNat:Int)=(45:Int))
  (.run [bt] (fun γ=>Gb (Gp γ.2)) <|
  .gd (GP .i64 ((↑k9:Int)+1)) <| .run [ow,oc] (fun γ=>Gb γ.2) <|
  .leaf (Sum.inl ((k9+1),b0)) [0])
  (.run [bf] (fun γ=>Gb (Gw γ.2)) <|
  .sp ((x66.toNat:Int)<(65:Int))
  (.sp ((x66.toNat:Int)<(48:Int))
  (.run (oc::oa::oc::tc::(cs 4 (oa::oc::tc::(cs 8 (bt::(cs 2 [])))))) (fun γ=>k2 (dT γ.1.2) (k2 (dT γ.2) (Gb (rfl:true=true)))) <|
  .leaf (Sum.inr (Sum.inl ())) [])
  (.sp ((x66.toNat:Int)>(57:Int))
  (.run (oc::oa::oc::tc::(cs 4 (oa::oc::oF::oa::(cs 3 (tc::(cs 3 (bt::(cs 2 [])))))))) (fun γ=>k2 (dT γ.1.1.2) (k2 (dF γ.1.2) (k2 (dT γ.2) (Gb (rfl:true=true))))) <|
  .leaf (Sum.inr (Sum.inl ())) [])
  (.run (oc::oa::oc::tc::(cs 4 (oa::oc::oF::oa::(cs 3 [oF,oc,oa,oc])))) (fun γ=>k2 (dT γ.1.1.2) (k2 (dF γ.1.2) (Gb (dF γ.2)))) <|
  .sp ((↑b0.length:Int)=(10:Int))
  (.run (bt::(cs 2 [])) (fun γ=>Gb (Gp γ.2)) <|
  .leaf (Sum.inr (Sum.inl ())) [])
  (.run [bf] (fun γ=>Gb (Gw γ.2)) <|
  .gd (b0.length+1≤140737488355232) <| .run (cs 3 [.op none (.ap 4),.tr (.eqc 2 (Jo (b0++[x66]))),.tr (.eqt (.t 51) (.vec 2 ((b0++[x66]).length) 1)),oc]) (fun γ=>k2 ((nB rfl):0+1≤List.length ([.int .u8 (x66.toNat:Int)]:List AV)) (k2 (Hu:List.length ((Jo b0):List AV)=b0.length) (k2 (rfl:List.all ([.int .u8 (x66.toNat:Int)]:List AV) AV.one=true) (k2 γ.2 (k2 ((Ju rfl):(Jo b0)++[.int .u8 (x66.toNat:Int)]=(Jo (b0++[x66]))) (Gb ((by simp <;> omega):(.vec 2 (b0.length+1) 1:AV)=.vec 2 ((b0++[x66]).length) 1))))))) <|
  .gd (GP .i64 ((↑k9:Int)+1)) <| .run [ow,oc] (fun γ=>Gb γ.2) <|
  .leaf (Sum.inl ((k9+1),(b0++[x66]))) [2]))))
  (.sp ((x66.toNat:Int)>(90:Int))
  (.sp ((x66.toNat:Int)<(48:Int))
  (.run (oc::oa::oc::oF::oa::(cs 2 (tc::oa::oc::tc::(cs 8 (bt::(cs 2 [])))))) (fun γ=>k2 (dF γ.1.1.2) (k2 (dT γ.1.2) (k2 (dT γ.2) (Gb (rfl:true=true))))) <|
  .leaf (Sum.inr (Sum.inl ())) [])
  (.sp ((x66.toNat:Int)>(57:Int))
  (.run (oc::oa::oc::oF::oa::(cs 2 (tc::oa::oc::oF::oa::(cs 3 (tc::(cs 3 (bt::(cs 2 [])))))))) (fun γ=>k2 (dF γ.1.1.1.2) (k2 (dT γ.1.1.2) (k2 (dF γ.1.2) (k2 (dT γ.2) (Gb (rfl:true=true)))))) <|
  .leaf (Sum.inr (Sum.inl ())) [])
  (.run (oc::oa::oc::oF::oa::(cs 2 (tc::oa::oc::oF::oa::(cs 3 [oF,oc,oa,oc])))) (fun γ=>k2 (dF γ.1.1.1.2) (k2 (dT γ.1.1.2) (k2 (dF γ.1.2) (Gb (dF γ.2))))) <|
  .sp ((↑b0.length:Int)=(10:Int))
  (.run (bt::(cs 2 [])) (fun γ=>Gb (Gp γ.2)) <|
  .leaf (Sum.inr (Sum.inl ())) [])
  (.run [bf] (fun γ=>Gb (Gw γ.2)) <|
  .gd (b0.length+1≤140737488355232) <| .run (cs 3 [.op none (.ap 4),.tr (.eqc 2 (Jo (b0++[x66]))),.tr (.eqt (.t 51) (.vec 2 ((b0++[x66]).length) 1)),oc]) (fun γ=>k2 ((nB rfl):0+1≤List.length ([.int .u8 (x66.toNat:Int)]:List AV)) (k2 (Hu:List.length ((Jo b0):List AV)=b0.length) (k2 (rfl:List.all ([.int .u8 (x66.toNat:Int)]:List AV) AV.one=true) (k2 γ.2 (k2 ((Ju rfl):(Jo b0)++[.int .u8 (x66.toNat:Int)]=(Jo (b0++[x66]))) (Gb ((by simp <;> omega):(.vec 2 (b0.length+1) 1:AV)=.vec 2 ((b0++[x66]).length) 1))))))) <|
  .gd (GP .i64 ((↑k9:Int)+1)) <| .run [ow,oc] (fun γ=>Gb γ.2) <|
  .leaf (Sum.inl ((k9+1),(b0++[x66]))) [2]))))
  (.run (oc::oa::oc::oF::oa::(cs 2 (oF::(cs 9 [oa,oc])))) (fun γ=>k2 (dF γ.1.2) (Gb (dF γ.2))) <|
  .sp ((↑b0.length:Int)=(10:Int))
  (.run (bt::(cs 2 [])) (fun γ=>Gb (Gp γ.2)) <|
  .leaf (Sum.inr (Sum.inl ())) [])
  (.run [bf] (fun γ=>Gb (Gw γ.2)) <|
  .gd (b0.length+1≤140737488355232) <| .run (cs 3 [.op none (.ap 4),.tr (.eqc 2 (Jo (b0++[x66]))),.tr (.eqt (.t 51) (.vec 2 ((b0++[x66]).length) 1)),oc]) (fun γ=>k2 ((nB rfl):0+1≤List.length ([.int .u8 (x66.toNat:Int)]:List AV)) (k2 (Hu:List.length ((Jo b0):List AV)=b0.length) (k2 (rfl:List.all ([.int .u8 (x66.toNat:Int)]:List AV) AV.one=true) (k2 γ.2 (k2 ((Ju rfl):(Jo b0)++[.int .u8 (x66.toNat:Int)]=(Jo (b0++[x66]))) (Gb ((by simp <;> omega):(.vec 2 (b0.length+1) 1:AV)=.vec 2 ((b0++[x66]).length) 1))))))) <|
  .gd (GP .i64 ((↑k9:Int)+1)) <| .run [ow,oc] (fun γ=>Gb γ.2) <|
  .leaf (Sum.inl ((k9+1),(b0++[x66]))) [2])))))))
  (.run [bf] (fun γ=>Gb (dF γ.2)) <|
  .leaf (Sum.inr (Sum.inr (b0))) [0])
def HF (s_0:(List UInt8)):(Nat×(List UInt8))→Option ((Nat×(List UInt8))⊕(Unit⊕(List UInt8))):=fun s=>(KT s_0 s).den
def Gbv (s_0:(List UInt8)):(Nat×(List UInt8))→PS:=fun s=>(58,[(0,.str s_0),(4,.vec 0 s.2.length 1),(8,jI (↑s_0.length:Int)),(9,jI (↑s.1:Int))],[(bV (Jo s.2) 5)])
def Gbk:(Unit⊕(List UInt8))→Hm:=fun q=>match q with | Sum.inl o=>.ret | Sum.inr (o)=>(.exit 0)
def Gcg (s_0:(List UInt8)):(Unit⊕(List UInt8))→List (Nat×AV):=fun q=>match q with | Sum.inl o=>[(2,.str []),(3,jI 19)] | Sum.inr (o)=>[(4,.vec 0 o.length 1)]
def Gbj (s_0:(List UInt8)):(Unit⊕(List UInt8))→List G6:=fun q=>match q with | Sum.inl o=>[] | Sum.inr (o)=>[(bV (Jo o) 5)]
theorem XK (s_0:(List UInt8)) {s:(Nat×(List UInt8))} {r:Unit⊕(List UInt8)} (h:lp (HF s_0) s=some r):GI Tryz.prog GT 0 (.loop (GO Tryz.prog 128 [1,1,0,1,0,0])) (Gbv s_0 s).st (Gbk r) (PS.st (58,Gcg s_0 r,Gbj s_0 r)):=
 GI.lp_ht 0 400 (Gbv s_0) Gbk (fun q=>(58,Gcg s_0 q,Gbj s_0 q)) (KT s_0) (by rintro ⟨k9,b0⟩; kernel_rfl) h
def ZO (s_0:(List UInt8)):HT ((List UInt8)×Int) True:=.run (cs 6 []) (fun _=>He) <|
  .bd (lp (HF s_0) ((0:Nat),([]:(List UInt8)))) fun qq=>.cs qq (fun o1=>.run [.tr (.vec (.t 4) 1 5),.fcut 0 .ret [(2,.str []),(3,jI 19)] [] [0] [(0,.any),(4,.vec 0 (([]:(List UInt8)).length) 1),(8,.any),(9,jI (↑(0:Nat):Int))] [(bV (Jo ([]:(List UInt8))) 5)]] (fun γ=>k2 ((by first | rfl | simp only [List.length_replicate,List.length_set]):(.vec 0 0 1:AV)=.vec 0 (([]:(List UInt8)).length) 1) (k2 (rfl:(jI 0:AV)=jI (↑(0:Nat):Int)) (k2 (rfl:((bV [] 5):G6)=MA [0] (bV (Jo ([]:(List UInt8))) 5)) (Gb (XK s_0 (s:=((0:Nat),([]:(List UInt8)))) (r:=Sum.inl o1) (eS γ.1.2 γ.2)))))) <|
  .leaf (([]:List UInt8),19) [])
  (fun o1=>.run ((.tr (.vec (.t 4) 1 5))::(.fcut 0 (.exit 0) [(4,.vec 0 o1.length 1)] [(bV (Jo o1) 5)] [0] [(0,.any),(4,.vec 0 (([]:(List UInt8)).length) 1),(8,.any),(9,jI (↑(0:Nat):Int))] [(bV (Jo ([]:(List UInt8))) 5)])::(cs 2 [oa])) (fun γ=>k2 ((by first | rfl | simp only [List.length_replicate,List.length_set]):(.vec 0 0 1:AV)=.vec 0 (([]:(List UInt8)).length) 1) (k2 (rfl:(jI 0:AV)=jI (↑(0:Nat):Int)) (k2 (rfl:((bV [] 5):G6)=MA [0] (bV (Jo ([]:(List UInt8))) 5)) (Gb (XK s_0 (s:=((0:Nat),([]:(List UInt8)))) (r:=Sum.inr (o1)) (eS γ.1.2 γ.2)))))) <|
  .sp ((↑o1.length:Int)<(2:Int))
  (.run (bt::(cs 2 [])) (fun γ=>Gb (dT γ.2)) <|
  .leaf (([]:List UInt8),19) [])
  (.run (bf::oc::(.op none (.by o1))::(cs 2 [])) (fun γ=>k2 (dF γ.2) (k2 (Hu:List.length ((Jo o1):List AV)=o1.length) (Gb (rfl:(Jo o1)=Jo o1)))) <|
  .leaf (o1,0) []))
def QX (s_0:(List UInt8)):Option ((List UInt8)×Int):=(ZO s_0).den
theorem V3 (s_0:(List UInt8)) (r:((List UInt8)×Int)) (h:QX s_0=some r):G5 Tryz.prog GT 128 [.str s_0] (.tup [.str r.1,jI r.2]) []:=
 G5.of_ht 400 (ZO s_0) (fun (r:((List UInt8)×Int))=>.tup [.str r.1,jI r.2]) (fun (r:((List UInt8)×Int))=>[]) (by kernel_rfl) h
def QK (s_0:(List UInt8)):(Nat×(List UInt8))→HT ((Nat×(List UInt8))⊕(Unit⊕(List UInt8))) True
 | (k5,b0)=>.run (cs 3 [oa]) (fun _=>He) <|
  .sp ((↑k5:Int)<(↑s_0.length:Int))
  (.run [bt] (fun γ=>Gb (dT γ.2)) <|
  .bd (s_0[k5]?) fun x49=>.run (cs 2 [.op none (.i k5),.tr (.eqt (.t 15) (.int .u8 (x49.toNat:Int))),oc]) (fun γ=>k2 (ir γ.2) (Gb ((Hy γ.2):(.int .u8 ((List.getD s_0 k5 0).toNat:Int):AV)=.int .u8 (x49.toNat:Int)))) <|
  .sp ((x49.toNat:Int)=(32:Int))
  (.run (oc::oa::oc::tc::(cs 2 [bt])) (fun γ=>k2 (Gp γ.2) (Gb (rfl:true=true))) <|
  .gd (GP .i64 ((↑k5:Int)+1)) <| .run [oc,ow,oc] (fun γ=>Gb γ.2) <|
  .leaf (Sum.inl ((k5+1),b0)) [0])
  (.run [oc,oa,oc,oF,oa,oc] (fun γ=>Gb (Gw γ.2)) <|
  .sp ((x49.toNat:Int)=(45:Int))
  (.run [bt] (fun γ=>Gb (Gp γ.2)) <|
  .gd (GP .i64 ((↑k5:Int)+1)) <| .run [oc,ow,oc] (fun γ=>Gb γ.2) <|
  .leaf (Sum.inl ((k5+1),b0)) [0])
  (.run [bf] (fun γ=>Gb (Gw γ.2)) <|
  .sp ((x49.toNat:Int)≥(97:Int))
  (.run [oc,oa,oc,tc,oa,oc] (fun γ=>Gb (dT γ.2)) <|
  .sp ((x49.toNat:Int)≤(122:Int))
  (.run [bt] (fun γ=>Gb (dT γ.2)) <|
  .gd (GP .u8 ((x49.toNat:Int) - 32)) <| .run [oc,ow,oc] (fun γ=>Gb γ.2) <|
  .sp (((x49.toNat:Int) - 32)≥(65:Int))
  (.sp (((x49.toNat:Int) - 32)≤(90:Int))
  (.run (oc::oa::oc::tc::oa::(cs 2 (tc::(cs 7 [bf])))) (fun γ=>k2 (dT γ.1.2) (k2 (dT γ.2) (Gb (rfl:false=false)))) <|
  .gd (b0.length+1≤140737488355232) <| .run (cs 3 [.op none (.ap 4),.tr (.eqc 2 (Jo (b0++[(UInt8.ofNat (Int.toNat ((x49.toNat:Int) - 32)))]))),.tr (.eqt (.t 48) (.vec 2 ((b0++[(UInt8.ofNat (Int.toNat ((x49.toNat:Int) - 32)))]).length) 1)),oc]) (fun γ=>k2 ((nB rfl):0+1≤List.length ([.int .u8 ((x49.toNat:Int) - 32)]:List AV)) (k2 (Hu:List.length ((Jo b0):List AV)=b0.length) (k2 (rfl:List.all ([.int .u8 ((x49.toNat:Int) - 32)]:List AV) AV.one=true) (k2 γ.2 (k2 ((Ju (congrArg (fun q=>[q]) (GoM γ.1.1.1.2))):(Jo b0)++[.int .u8 ((x49.toNat:Int) - 32)]=(Jo (b0++[(UInt8.ofNat (Int.toNat ((x49.toNat:Int) - 32)))]))) (Gb ((by simp <;> omega):(.vec 2 (b0.length+1) 1:AV)=.vec 2 ((b0++[(UInt8.ofNat (Int.toNat ((x49.toNat:Int) - 32)))]).length) 1))))))) <|
  .gd (GP .i64 ((↑k5:Int)+1)) <| .run [oc,ow,oc] (fun γ=>Gb γ.2) <|
  .leaf (Sum.inl ((k5+1),(b0++[(UInt8.ofNat (Int.toNat ((x49.toNat:Int) - 32)))]))) [2])
  (.sp (((x49.toNat:Int) - 32)≥(48:Int))
  (.run (oc::oa::oc::tc::oa::(cs 2 (oF::oa::oc::tc::oa::(cs 3 [])))) (fun γ=>k2 (dT γ.1.1.2) (k2 (dF γ.1.2) (Gb (dT γ.2)))) <|
  .sp (((x49.toNat:Int) - 32)≤(57:Int))
  (.run [bf] (fun γ=>Gb (Gs (dT γ.2))) <|
  .gd (b0.length+1≤140737488355232) <| .run (cs 3 [.op none (.ap 4),.tr (.eqc 2 (Jo (b0++[(UInt8.ofNat (Int.toNat ((x49.toNat:Int) - 32)))]))),.tr (.eqt (.t 48) (.vec 2 ((b0++[(UInt8.ofNat (Int.toNat ((x49.toNat:Int) - 32)))]).length) 1)),oc]) (fun γ=>k2 ((nB rfl):0+1≤List.length ([.int .u8 ((x49.toNat:Int) - 32)]:List AV)) (k2 (Hu:List.length ((Jo b0):List AV)=b0.length) (k2 (rfl:List.all ([.int .u8 ((x49.toNat:Int) - 32)]:List AV) AV.one=true) (k2 γ.2 (k2 ((Ju (congrArg (fun q=>[q]) (GoM γ.1.1.1.1.1.2))):(Jo b0)++[.int .u8 ((x49.toNat:Int) - 32)]=(Jo (b0++[(UInt8.ofNat (Int.toNat ((x49.toNat:Int) - 32)))]))) (Gb ((by simp <;> omega):(.vec 2 (b0.length+1) 1:AV)=.vec 2 ((b0++[(UInt8.ofNat (Int.toNat ((x49.toNat:Int) - 32)))]).length) 1))))))) <|
  .gd (GP .i64 ((↑k5:Int)+1)) <| .run [oc,ow,oc] (fun γ=>Gb γ.2) <|
  .leaf (Sum.inl ((k5+1),(b0++[(UInt8.ofNat (Int.toNat ((x49.toNat:Int) - 32)))]))) [2])
  (.run (bt::(cs 2 [])) (fun γ=>Gb (Gu (dF γ.2))) <|
  .leaf (Sum.inr (Sum.inl ())) []))
  (.run (oc::oa::oc::tc::oa::(cs 2 (oF::oa::oc::oF::(cs 4 (bt::(cs 2 [])))))) (fun γ=>k2 (dT γ.1.1.2) (k2 (dF γ.1.2) (k2 (dF γ.2) (Gb (rfl:true=true))))) <|
  .leaf (Sum.inr (Sum.inl ())) [])))
  (.sp (((x49.toNat:Int) - 32)≥(48:Int))
  (.run (oc::oa::oc::oF::(cs 4 (oa::oc::tc::oa::(cs 3 [])))) (fun γ=>k2 (dF γ.1.2) (Gb (dT γ.2))) <|
  .sp (((x49.toNat:Int) - 32)≤(57:Int))
  (.run [bf] (fun γ=>Gb (Gs (dT γ.2))) <|
  .gd (b0.length+1≤140737488355232) <| .run (cs 3 [.op none (.ap 4),.tr (.eqc 2 (Jo (b0++[(UInt8.ofNat (Int.toNat ((x49.toNat:Int) - 32)))]))),.tr (.eqt (.t 48) (.vec 2 ((b0++[(UInt8.ofNat (Int.toNat ((x49.toNat:Int) - 32)))]).length) 1)),oc]) (fun γ=>k2 ((nB rfl):0+1≤List.length ([.int .u8 ((x49.toNat:Int) - 32)]:List AV)) (k2 (Hu:List.length ((Jo b0):List AV)=b0.length) (k2 (rfl:List.all ([.int .u8 ((x49.toNat:Int) - 32)]:List AV) AV.one=true) (k2 γ.2 (k2 ((Ju (congrArg (fun q=>[q]) (GoM γ.1.1.1.1.2))):(Jo b0)++[.int .u8 ((x49.toNat:Int) - 32)]=(Jo (b0++[(UInt8.ofNat (Int.toNat ((x49.toNat:Int) - 32)))]))) (Gb ((by simp <;> omega):(.vec 2 (b0.length+1) 1:AV)=.vec 2 ((b0++[(UInt8.ofNat (Int.toNat ((x49.toNat:Int) - 32)))]).length) 1))))))) <|
  .gd (GP .i64 ((↑k5:Int)+1)) <| .run [oc,ow,oc] (fun γ=>Gb γ.2) <|
  .leaf (Sum.inl ((k5+1),(b0++[(UInt8.ofNat (Int.toNat ((x49.toNat:Int) - 32)))]))) [2])
  (.run (bt::(cs 2 [])) (fun γ=>Gb (Gu (dF γ.2))) <|
  .leaf (Sum.inr (Sum.inl ())) []))
  (.run (oc::oa::oc::oF::(cs 4 (oa::oc::oF::(cs 4 (bt::(cs 2 [])))))) (fun γ=>k2 (dF γ.1.2) (k2 (dF γ.2) (Gb (rfl:true=true)))) <|
  .leaf (Sum.inr (Sum.inl ())) [])))
  (.run [bf] (fun γ=>Gb (dF γ.2)) <|
  .sp ((x49.toNat:Int)≥(65:Int))
  (.sp ((x49.toNat:Int)≤(90:Int))
  (.run (oc::oa::oc::tc::oa::(cs 2 (tc::(cs 7 [bf])))) (fun γ=>k2 (dT γ.1.2) (k2 (dT γ.2) (Gb (rfl:false=false)))) <|
  .gd (b0.length+1≤140737488355232) <| .run (cs 3 [.op none (.ap 4),.tr (.eqc 2 (Jo (b0++[x49]))),.tr (.eqt (.t 48) (.vec 2 ((b0++[x49]).length) 1)),oc]) (fun γ=>k2 ((nB rfl):0+1≤List.length ([.int .u8 (x49.toNat:Int)]:List AV)) (k2 (Hu:List.length ((Jo b0):List AV)=b0.length) (k2 (rfl:List.all ([.int .u8 (x49.toNat:Int)]:List AV) AV.one=true) (k2 γ.2 (k2 ((Ju rfl):(Jo b0)++[.int .u8 (x49.toNat:Int)]=(Jo (b0++[x49]))) (Gb ((by simp <;> omega):(.vec 2 (b0.length+1) 1:AV)=.vec 2 ((b0++[x49]).length) 1))))))) <|
  .gd (GP .i64 ((↑k5:Int)+1)) <| .run [oc,ow,oc] (fun γ=>Gb γ.2) <|
  .leaf (Sum.inl ((k5+1),(b0++[x49]))) [2])
  (.sp ((x49.toNat:Int)≥(48:Int))
  (.run (oc::oa::oc::tc::oa::(cs 2 (oF::oa::oc::tc::oa::(cs 3 [])))) (fun γ=>k2 (dT γ.1.1.2) (k2 (dF γ.1.2) (Gb (dT γ.2)))) <|
  .sp ((x49.toNat:Int)≤(57:Int))
  (.run [bf] (fun γ=>Gb (Gs (dT γ.2))) <|
  .gd (b0.length+1≤140737488355232) <| .run (cs 3 [.op none (.ap 4),.tr (.eqc 2 (Jo (b0++[x49]))),.tr (.eqt (.t 48) (.vec 2 ((b0++[x49]).length) 1)),oc]) (fun γ=>k2 ((nB rfl):0+1≤List.length ([.int .u8 (x49.toNat:Int)]:List AV)) (k2 (Hu:List.length ((Jo b0):List AV)=b0.length) (k2 (rfl:List.all ([.int .u8 (x49.toNat:Int)]:List AV) AV.one=true) (k2 γ.2 (k2 ((Ju rfl):(Jo b0)++[.int .u8 (x49.toNat:Int)]=(Jo (b0++[x49]))) (Gb ((by simp <;> omega):(.vec 2 (b0.length+1) 1:AV)=.vec 2 ((b0++[x49]).length) 1))))))) <|
  .gd (GP .i64 ((↑k5:Int)+1)) <| .run [oc,ow,oc] (fun γ=>Gb γ.2) <|
  .leaf (Sum.inl ((k5+1),(b0++[x49]))) [2])
  (.run (bt::(cs 2 [])) (fun γ=>Gb (Gu (dF γ.2))) <|
  .leaf (Sum.inr (Sum.inl ())) []))
  (.run (oc::oa::oc::tc::oa::(cs 2 (oF::oa::oc::oF::(cs 4 (bt::(cs 2 [])))))) (fun γ=>k2 (dT γ.1.1.2) (k2 (dF γ.1.2) (k2 (dF γ.2) (Gb (rfl:true=true))))) <|
  .leaf (Sum.inr (Sum.inl ())) [])))
  (.sp ((x49.toNat:Int)≥(48:Int))
  (.run (oc::oa::oc::oF::(cs 4 (oa::oc::tc::oa::(cs 3 [])))) (fun γ=>k2 (dF γ.1.2) (Gb (dT γ.2))) <|
  .sp ((x49.toNat:Int)≤(57:Int))
  (.run [bf] (fun γ=>Gb (Gs (dT γ.2))) <|
  .gd (b0.length+1≤140737488355232) <| .run (cs 3 [.op none (.ap 4),.tr (.eqc 2 (Jo (b0++[x49]))),.tr (.eqt (.t 48) (.vec 2 ((b0++[x49]).length) 1)),oc]) (fun γ=>k2 ((nB rfl):0+1≤List.length ([.int .u8 (x49.toNat:Int)]:List AV)) (k2 (Hu:List.length ((Jo b0):List AV)=b0.length) (k2 (rfl:List.all ([.int .u8 (x49.toNat:Int)]:List AV) AV.one=true) (k2 γ.2 (k2 ((Ju rfl):(Jo b0)++[.int .u8 (x49.toNat:Int)]=(Jo (b0++[x49]))) (Gb ((by simp <;> omega):(.vec 2 (b0.length+1) 1:AV)=.vec 2 ((b0++[x49]).length) 1))))))) <|
  .gd (GP .i64 ((↑k5:Int)+1)) <| .run [oc,ow,oc] (fun γ=>Gb γ.2) <|
  .leaf (Sum.inl ((k5+1),(b0++[x49]))) [2])
  (.run (bt::(cs 2 [])) (fun γ=>Gb (Gu (dF γ.2))) <|
  .leaf (Sum.inr (Sum.inl ())) []))
  (.run (oc::oa::oc::oF::(cs 4 (oa::oc::oF::(cs 4 (bt::(cs 2 [])))))) (fun γ=>k2 (dF γ.1.2) (k2 (dF γ.2) (Gb (rfl:true=true)))) <|
  .leaf (Sum.inr (Sum.inl ())) []))))
  (.run (oc::oa::oc::oF::(cs 2 [bf])) (fun γ=>k2 (dF γ.2) (Gb (rfl:false=false))) <|
  .sp ((x49.toNat:Int)≥(65:Int))
  (.sp ((x49.toNat:Int)≤(90:Int))
  (.run (oc::oa::oc::tc::oa::(cs 2 (tc::(cs 7 [bf])))) (fun γ=>k2 (dT γ.1.2) (k2 (dT γ.2) (Gb (rfl:false=false)))) <|
  .gd (b0.length+1≤140737488355232) <| .run (cs 3 [.op none (.ap 4),.tr (.eqc 2 (Jo (b0++[x49]))),.tr (.eqt (.t 48) (.vec 2 ((b0++[x49]).length) 1)),oc]) (fun γ=>k2 ((nB rfl):0+1≤List.length ([.int .u8 (x49.toNat:Int)]:List AV)) (k2 (Hu:List.length ((Jo b0):List AV)=b0.length) (k2 (rfl:List.all ([.int .u8 (x49.toNat:Int)]:List AV) AV.one=true) (k2 γ.2 (k2 ((Ju rfl):(Jo b0)++[.int .u8 (x49.toNat:Int)]=(Jo (b0++[x49]))) (Gb ((by simp <;> omega):(.vec 2 (b0.length+1) 1:AV)=.vec 2 ((b0++[x49]).length) 1))))))) <|
  .gd (GP .i64 ((↑k5:Int)+1)) <| .run [oc,ow,oc] (fun γ=>Gb γ.2) <|
  .leaf (Sum.inl ((k5+1),(b0++[x49]))) [2])
  (.sp ((x49.toNat:Int)≥(48:Int))
  (.run (oc::oa::oc::tc::oa::(cs 2 (oF::oa::oc::tc::oa::(cs 3 [])))) (fun γ=>k2 (dT γ.1.1.2) (k2 (dF γ.1.2) (Gb (dT γ.2)))) <|
  .sp ((x49.toNat:Int)≤(57:Int))
  (.run [bf] (fun γ=>Gb (Gs (dT γ.2))) <|
  .gd (b0.length+1≤140737488355232) <| .run (cs 3 [.op none (.ap 4),.tr (.eqc 2 (Jo (b0++[x49]))),.tr (.eqt (.t 48) (.vec 2 ((b0++[x49]).length) 1)),oc]) (fun γ=>k2 ((nB rfl):0+1≤List.length ([.int .u8 (x49.toNat:Int)]:List AV)) (k2 (Hu:List.length ((Jo b0):List AV)=b0.length) (k2 (rfl:List.all ([.int .u8 (x49.toNat:Int)]:List AV) AV.one=true) (k2 γ.2 (k2 ((Ju rfl):(Jo b0)++[.int .u8 (x49.toNat:Int)]=(Jo (b0++[x49]))) (Gb ((by simp <;> omega):(.vec 2 (b0.length+1) 1:AV)=.vec 2 ((b0++[x49]).length) 1))))))) <|
  .gd (GP .i64 ((↑k5:Int)+1)) <| .run [oc,ow,oc] (fun γ=>Gb γ.2) <|
  .leaf (Sum.inl ((k5+1),(b0++[x49]))) [2])
  (.run (bt::(cs 2 [])) (fun γ=>Gb (Gu (dF γ.2))) <|
  .leaf (Sum.inr (Sum.inl ())) []))
  (.run (oc::oa::oc::tc::oa::(cs 2 (oF::oa::oc::oF::(cs 4 (bt::(cs 2 [])))))) (fun γ=>k2 (dT γ.1.1.2) (k2 (dF γ.1.2) (k2 (dF γ.2) (Gb (rfl:true=true))))) <|
  .leaf (Sum.inr (Sum.inl ())) [])))
  (.sp ((x49.toNat:Int)≥(48:Int))
  (.run (oc::oa::oc::oF::(cs 4 (oa::oc::tc::oa::(cs 3 [])))) (fun γ=>k2 (dF γ.1.2) (Gb (dT γ.2))) <|
  .sp ((x49.toNat:Int)≤(57:Int))
  (.run [bf] (fun γ=>Gb (Gs (dT γ.2))) <|
  .gd (b0.length+1≤140737488355232) <| .run (cs 3 [.op none (.ap 4),.tr (.eqc 2 (Jo (b0++[x49]))),.tr (.eqt (.t 48) (.vec 2 ((b0++[x49]).length) 1)),oc]) (fun γ=>k2 ((nB rfl):0+1≤List.length ([.int .u8 (x49.toNat:Int)]:List AV)) (k2 (Hu:List.length ((Jo b0):List AV)=b0.length) (k2 (rfl:List.all ([.int .u8 (x49.toNat:Int)]:List AV) AV.one=true) (k2 γ.2 (k2 ((Ju rfl):(Jo b0)++[.int .u8 (x49.toNat:Int)]=(Jo (b0++[x49]))) (Gb ((by simp <;> omega):(.vec 2 (b0.length+1) 1:AV)=.vec 2 ((b0++[x49]).length) 1))))))) <|
  .gd (GP .i64 ((↑k5:Int)+1)) <| .run [oc,ow,oc] (fun γ=>Gb γ.2) <|
  .leaf (Sum.inl ((k5+1),(b0++[x49]))) [2])
  (.run (bt::(cs 2 [])) (fun γ=>Gb (Gu (dF γ.2))) <|
  .leaf (Sum.inr (Sum.inl ())) []))
  (.run (oc::oa::oc::oF::(cs 4 (oa::oc::oF::(cs 4 (bt::(cs 2 [])))))) (fun γ=>k2 (dF γ.1.2) (k2 (dF γ.2) (Gb (rfl:true=true)))) <|
  .leaf (Sum.inr (Sum.inl ())) []))))))
  (.run [bf] (fun γ=>Gb (dF γ.2)) <|
  .leaf (Sum.inr (Sum.inr (b0))) [0])
def Jg (s_0:(List UInt8)):(Nat×(List UInt8))→Option ((Nat×(List UInt8))⊕(Unit⊕(List UInt8))):=fun s=>(QK s_0 s).den
def Ggg (s_0:(List UInt8)):(Nat×(List UInt8))→PS:=fun s=>(59,[(0,.str s_0),(4,.vec 0 s.2.length 1),(5,jI (↑s.1:Int))],[(bV (Jo s.2) 5)])
def Gf1:(Unit⊕(List UInt8))→Hm:=fun q=>match q with | Sum.inl o=>.ret | Sum.inr (o)=>(.exit 0)
def Gfz (s_0:(List UInt8)):(Unit⊕(List UInt8))→List (Nat×AV):=fun q=>match q with | Sum.inl o=>[(2,.str []),(3,jI 19)] | Sum.inr (o)=>[(4,.vec 0 o.length 1)]
def GfQ (s_0:(List UInt8)):(Unit⊕(List UInt8))→List G6:=fun q=>match q with | Sum.inl o=>[] | Sum.inr (o)=>[(bV (Jo o) 5)]
theorem Gb0 (s_0:(List UInt8)) {s:(Nat×(List UInt8))} {r:Unit⊕(List UInt8)} (h:lp (Jg s_0) s=some r):GI Tryz.prog GT 0 (.loop (GO Tryz.prog 108 [1,1,0,1,0,0])) (Ggg s_0 s).st (Gf1 r) (PS.st (59,Gfz s_0 r,GfQ s_0 r)):=
 GI.lp_ht 0 400 (Ggg s_0) Gf1 (fun q=>(59,Gfz s_0 q,GfQ s_0 q)) (QK s_0) (by rintro ⟨k5,b0⟩; kernel_rfl) h
def Gfq (s_0:(List UInt8)):HT ((List UInt8)×Int) True:=.run (cs 4 []) (fun _=>He) <|
  .bd (lp (Jg s_0) ((0:Nat),([]:(List UInt8)))) fun qq=>.cs qq (fun o1=>.run [.tr (.vec (.t 4) 1 5),.fcut 0 .ret [(2,.str []),(3,jI 19)] [] [0] [(0,.any),(4,.vec 0 (([]:(List UInt8)).length) 1),(5,jI (↑(0:Nat):Int))] [(bV (Jo ([]:(List UInt8))) 5)]] (fun γ=>k2 ((by first | rfl | simp only [List.length_replicate,List.length_set]):(.vec 0 0 1:AV)=.vec 0 (([]:(List UInt8)).length) 1) (k2 (rfl:(jI 0:AV)=jI (↑(0:Nat):Int)) (k2 (rfl:((bV [] 5):G6)=MA [0] (bV (Jo ([]:(List UInt8))) 5)) (Gb (Gb0 s_0 (s:=((0:Nat),([]:(List UInt8)))) (r:=Sum.inl o1) (eS γ.1.2 γ.2)))))) <|
  .leaf (([]:List UInt8),19) [])
  (fun o1=>.run [.tr (.vec (.t 4) 1 5),.fcut 0 (.exit 0) [(4,.vec 0 o1.length 1)] [(bV (Jo o1) 5)] [0] [(0,.any),(4,.vec 0 (([]:(List UInt8)).length) 1),(5,jI (↑(0:Nat):Int))] [(bV (Jo ([]:(List UInt8))) 5)]] (fun γ=>k2 ((by first | rfl | simp only [List.length_replicate,List.length_set]):(.vec 0 0 1:AV)=.vec 0 (([]:(List UInt8)).length) 1) (k2 (rfl:(jI 0:AV)=jI (↑(0:Nat):Int)) (k2 (rfl:((bV [] 5):G6)=MA [0] (bV (Jo ([]:(List UInt8))) 5)) (Gb (Gb0 s_0 (s:=((0:Nat),([]:(List UInt8)))) (r:=Sum.inr (o1)) (eS γ.1.2 γ.2)))))) <|
  .sp ((↑o1.length:Int)<(2:Int))
  (.run (cs 2 (oa::oc::tc::(cs 3 (bt::(cs 2 []))))) (fun γ=>k2 (dT γ.2) (Gb (rfl:true=true))) <|
  .leaf (([]:List UInt8),19) [])
  (.run (cs 2 [oa,oc,oF,oc,oa,oc]) (fun γ=>Gb (dF γ.2)) <|
  .sp ((↑o1.length:Int)>(10:Int))
  (.run (bt::(cs 2 [])) (fun γ=>Gb (dT γ.2)) <|
  .leaf (([]:List UInt8),19) [])
  (.run (bf::oc::(.op none (.by o1))::(cs 2 [])) (fun γ=>k2 (dF γ.2) (k2 (Hu:List.length ((Jo o1):List AV)=o1.length) (Gb (rfl:(Jo o1)=Jo o1)))) <|
  .leaf (o1,0) [])))
def ZA (s_0:(List UInt8)):Option ((List UInt8)×Int):=(Gfq s_0).den
theorem Gcu (s_0:(List UInt8)) (r:((List UInt8)×Int)) (h:ZA s_0=some r):G5 Tryz.prog GT 108 [.str s_0] (.tup [.str r.1,jI r.2]) []:=
 G5.of_ht 400 (Gfq s_0) (fun (r:((List UInt8)×Int))=>.tup [.str r.1,jI r.2]) (fun (r:((List UInt8)×Int))=>[]) (by kernel_rfl) h
end
set_option maxHeartbeats 4000000
noncomputable section
def GeF (x:UInt8):Prop:=97≤x.toNat∧x.toNat≤122
instance (x:UInt8):Decidable (GeF x):=by unfold GeF; infer_instance
def GcB (x:UInt8):Prop:=x.toNat=32∨x.toNat=45
instance (x:UInt8):Decidable (GcB x):=by unfold GcB; infer_instance
def GjR (x:UInt8):Prop:=GeF x∨(65≤x.toNat∧x.toNat≤90)∨(48≤x.toNat∧x.toNat≤57)
instance (x:UInt8):Decidable (GjR x):=by unfold GjR; infer_instance
def upB (x:UInt8):UInt8:=if GeF x then UInt8.ofNat (Int.toNat ((x.toNat:Int) - 32)) else x
def res (s:List UInt8):List UInt8:=(s.filter fun x=>!decide (GcB x)).map upB
theorem Gkg {s:List UInt8} {k:Nat} {x:UInt8} (hx:s[k]?=some x):res (s.take (k+1))=if GcB x then res (s.take k) else res (s.take k)++[upB x]:=by
 unfold res
 rw [List.take_add_one,hx]
 by_cases h:GcB x <;> simp [h]
theorem GuT (s:List UInt8) (k:Nat):(res (s.take k)).length≤k:=by
 unfold res
 rw [List.length_map]
 exact Nat.le_trans (List.length_filter_le _ _) (by rw [List.length_take]; omega)
def plP (s:List UInt8) (k:Nat) (x:UInt8):Option Unit:=if GcB x then none else if ¬ GjR x then some () else if (res (s.take k)).length=10 then some () else none
def plR (k:Nat) (x:UInt8):Option Unit:=if GcB x then none else if ¬ GjR x then some () else none
def plN (s:List UInt8):List UInt8×Int:=if GK plR 0 s=none∧2≤(res s).length∧(res s).length≤10 then (res s,0) else ([],19)
theorem GdX {α ρ:Type} {g:Nat→α→Option ρ}:∀ {l:List α} {k:Nat},(∀ i x,l[i]?=some x→g (k+i) x=none)→GK g k l=none
 | [],k,_=>rfl
 | y::l,k,h=>by
  unfold GK
  rw [show g k y=none from h 0 y rfl]
  exact GdX fun i x hx=>by rw [show k+1+i=k+(i+1) by omega]; exact h (i+1) x (by simpa using hx)
theorem GeC (s:List UInt8) (hl:s.length≤140737488355000):QX s=some (plN s):=by
 simp only [QX,ZO,d1,d2,d3,d4,d5,d6,d7]
 have key:(∀ r,GK (plP s) 0 s=some r→∃ q,lp (HF s) (0,[])=some (.inl q)∧id q=r)∧(GK (plP s) 0 s=none→∃ q,lp (HF s) (0,[])=some (.inr q)∧q=res s):=by
  refine Gfj (l:=s) (mk:=fun k b=>(k,b)) (fun k b=>b=res (s.take k)) (fun k x b hx hb=>?_) (fun b hb=>?_) rfl
  ·have hk:=Hg hx
   have i1:GP .i64 ((k:Int)+1):=KV (by omega) (by omega)
   have hkl:(k:Int)<(s.length:Int):=by omega
   have hbl:=GuT s k
   rw [← hb] at hbl
   have a1:b.length+1≤140737488355232:=by omega
   have hsn:=Gkg hx
   rw [← hb] at hsn
   simp only [plP,← hb]
   have hxb:=x.toNat_lt
   clear hl
   by_cases h97:GeF x
   ·have hu:upB x=UInt8.ofNat (Int.toNat ((x.toNat:Int) - 32)):=if_pos h97
    have hns:¬ GcB x:=by unfold GcB; unfold GeF at h97; omega
    have hv:GjR x:=.inl h97
    have i8:GP .u8 ((x.toNat:Int) - 32):=⟨by unfold GeF at h97; show (0:Int)≤_; omega,by unfold GeF at h97; show _≤(255:Int); omega⟩
    simp only [HF,KT,d1,d2,d3,d4,d5,d6,d7,hx,Option.bind_some,i1,i8,a1,if_true,hkl]
    clear i1 i8 a1 hbl
    rw [if_neg hns] at hsn
    rw [hu] at hsn
    unfold GeF at h97
    simp only [if_neg hns,if_neg (show ¬ ¬ GjR x from fun h=>h hv)]
    clear hns hv hu hb
    by_cases h10:b.length=10
    ·exact .inl ⟨(),(),by rw [if_pos h10],by clear hsn; grind,by trivial⟩
    ·exact .inr ⟨by rw [if_neg h10],_,by clear hsn; grind,hsn.symm⟩
   ·have hu:upB x=x:=if_neg h97
    simp only [HF,KT,d1,d2,d3,d4,d5,d6,d7,hx,Option.bind_some,i1,a1,if_true,hkl]
    clear i1 a1 hbl
    rw [hu] at hsn
    by_cases hs:GcB x
    ·rw [if_pos hs] at hsn
     rw [if_pos hs]
     refine .inr ⟨rfl,b,?_,hsn.symm⟩
     unfold GcB at hs
     rw [if_neg (by omega)]
     rcases hs with h | h
     ·rw [if_pos (by omega)]
     ·rw [if_neg (by omega),if_pos (by omega)]
    rw [if_neg hs] at hsn
    rw [if_neg hs]
    by_cases hv:GjR x
    rotate_left
    ·rw [if_pos hv]
     refine .inl ⟨(),(),rfl,?_,by trivial⟩
     unfold GjR GeF at hv; unfold GcB at hs
     clear hsn h97 hb
     grind
    rw [if_neg (fun h=>h hv)]
    unfold GjR at hv; unfold GeF at h97 hv; unfold GcB at hs
    by_cases h10:b.length=10
    ·refine .inl ⟨(),(),by rw [if_pos h10],?_,by trivial⟩
     clear hsn hb
     grind
    ·refine .inr ⟨by rw [if_neg h10],_,?_,hsn.symm⟩
     clear hsn hb
     grind
  ·rw [List.take_length] at hb
   refine ⟨b,?_,hb⟩
   simp only [HF,KT,d3,d6,d1]
   rw [if_neg (by omega)]
 have hpr:GK (plP s) 0 s=none↔GK plR 0 s=none∧(res s).length≤10:=by
  constructor
  ·intro h
   have hn:=fun i x hx=>Zz h i x hx
   refine ⟨GdX fun i x hx=>?_,?_⟩
   ·have:=hn i x hx
    rw [Nat.zero_add] at this
    unfold plP at this
    unfold plR
    clear h hn key hl
    grind
   ·have:∀ k,k≤s.length→(res (s.take k)).length≤10:=by
     intro k
     induction k with
     | zero=>intro _; simp [res]
     | succ k ih=>
      intro hk
      have hx:s[k]?=some s[k]:=List.getElem?_eq_getElem (by omega)
      have h1:=hn k _ hx
      rw [Nat.zero_add] at h1
      have h2:=ih (by omega)
      rw [Gkg hx]
      by_cases hs:GcB s[k]
      ·rw [if_pos hs]; exact h2
      ·rw [if_neg hs,List.length_append,List.length_singleton]
       unfold plP at h1
       rw [if_neg hs] at h1
       split at h1
       ·cases h1
       ·split at h1
        ·cases h1
        ·omega
    have:=this s.length (Nat.le_refl _)
    rwa [List.take_length] at this
  ·rintro ⟨h,hl10⟩
   refine GdX fun i x hx=>?_
   have h1:=Zz h i x hx
   rw [Nat.zero_add] at h1 ⊢
   unfold plR at h1
   unfold plP
   by_cases hs:GcB x
   ·rw [if_pos hs]
   ·rw [if_neg hs] at h1 ⊢
    have h2:(res (s.take (i+1))).length=(res (s.take i)).length+1:=by rw [Gkg hx,if_neg hs,List.length_append,List.length_singleton]
    have h3:(res (s.take (i+1))).length≤(res s).length:=by
     unfold res
     rw [List.length_map,List.length_map]
     exact List.Sublist.length_le ((List.take_sublist _ _).filter _)
    have h4:¬ (res (s.take i)).length=10:=by omega
    rw [if_neg h4]
    exact h1
 unfold plN
 cases he:GK (plP s) 0 s with
 | some r=>
  obtain ⟨q,h1,_⟩:=key.1 r he
  rw [h1]
  simp only [Option.bind_some,eN]
  rw [if_neg (fun h=>by have:=hpr.2 ⟨h.1,h.2.2⟩; rw [he] at this; cases this)]
 | none=>
  obtain ⟨q,h1,rfl⟩:=key.2 he
  obtain ⟨h2,h3⟩:=hpr.1 he
  rw [h1]
  simp only [Option.bind_some,eM]
  by_cases h4:(res s).length<2
  ·rw [if_pos (by omega),if_neg (by omega)]
  ·rw [if_neg (by omega),if_pos ⟨h2,by omega,h3⟩]
theorem GeD (s:List UInt8) (hl:s.length≤140737488355000):ZA s=some (plN s):=by
 simp only [ZA,Gfq,d1,d2,d3,d4,d5,d6,d7]
 have key:(∀ r,GK plR 0 s=some r→∃ q,lp (Jg s) (0,[])=some (.inl q)∧id q=r)∧(GK plR 0 s=none→∃ q,lp (Jg s) (0,[])=some (.inr q)∧q=res s):=by
  refine Gfj (l:=s) (mk:=fun k b=>(k,b)) (fun k b=>b=res (s.take k)) (fun k x b hx hb=>?_) (fun b hb=>?_) rfl
  ·have hk:=Hg hx
   have i1:GP .i64 ((k:Int)+1):=KV (by omega) (by omega)
   have hkl:(k:Int)<(s.length:Int):=by omega
   have hbl:=GuT s k
   rw [← hb] at hbl
   have a1:b.length+1≤140737488355232:=by omega
   have hsn:=Gkg hx
   rw [← hb] at hsn
   simp only [plR]
   have hxb:=x.toNat_lt
   clear hl
   by_cases h97:GeF x
   ·have hu:upB x=UInt8.ofNat (Int.toNat ((x.toNat:Int) - 32)):=if_pos h97
    have hns:¬ GcB x:=by unfold GcB; unfold GeF at h97; omega
    have hv:GjR x:=.inl h97
    have i8:GP .u8 ((x.toNat:Int) - 32):=⟨by unfold GeF at h97; show (0:Int)≤_; omega,by unfold GeF at h97; show _≤(255:Int); omega⟩
    simp only [Jg,QK,d1,d2,d3,d4,d5,d6,d7,hx,Option.bind_some,i1,i8,a1,if_true,hkl]
    clear i1 i8 a1 hbl
    rw [if_neg hns] at hsn
    rw [hu] at hsn
    unfold GeF at h97
    simp only [if_neg hns,if_neg (show ¬ ¬ GjR x from fun h=>h hv)]
    clear hns hv hu hb
    exact .inr ⟨trivial,_,by clear hsn; grind,hsn.symm⟩
   ·have hu:upB x=x:=if_neg h97
    simp only [Jg,QK,d1,d2,d3,d4,d5,d6,d7,hx,Option.bind_some,i1,a1,if_true,hkl]
    clear i1 a1 hbl
    rw [hu] at hsn
    by_cases hs:GcB x
    ·rw [if_pos hs] at hsn
     rw [if_pos hs]
     refine .inr ⟨rfl,b,?_,hsn.symm⟩
     unfold GcB at hs
     rcases hs with h | h
     ·rw [if_pos (by omega)]
     ·rw [if_neg (by omega),if_pos (by omega)]
    rw [if_neg hs] at hsn
    rw [if_neg hs]
    by_cases hv:GjR x
    rotate_left
    ·rw [if_pos hv]
     refine .inl ⟨(),(),rfl,?_,by trivial⟩
     unfold GjR GeF at hv; unfold GcB at hs
     clear hsn h97 hb
     grind
    rw [if_neg (fun h=>h hv)]
    unfold GjR at hv; unfold GeF at h97 hv; unfold GcB at hs
    refine .inr ⟨rfl,_,?_,hsn.symm⟩
    clear hsn hb
    grind
  ·rw [List.take_length] at hb
   refine ⟨b,?_,hb⟩
   simp only [Jg,QK,d3,d6,d1]
   rw [if_neg (by omega)]
 unfold plN
 cases he:GK plR 0 s with
 | some r=>
  obtain ⟨q,h1,_⟩:=key.1 r he
  rw [h1]
  simp only [Option.bind_some,eN]
  rw [if_neg (fun h=>by cases h.1)]
 | none=>
  obtain ⟨q,h1,rfl⟩:=key.2 he
  rw [h1]
  simp only [Option.bind_some,eM]
  by_cases h4:(res s).length<2
  ·rw [if_pos (by omega),if_neg (by omega)]
  ·by_cases h5:(res s).length>10
   ·rw [if_neg (by omega),if_pos (by omega),if_neg (by omega)]
   ·rw [if_neg (by omega),if_neg (by omega),if_pos ⟨by trivial,by omega,by omega⟩]
end
set_option maxHeartbeats 4000000
set_option maxRecDepth 100000
noncomputable section
open Go Go.Proofs
def K8 (l_0:(List (List UInt8))) (k12:Nat) (x24:(List UInt8)):Nat→HT (Nat⊕(Unit⊕Unit)) True
 | k9=>.run [oa] (fun _=>He) <|
  .sp ((↑k9:Int)<(↑((List.take k12 l_0).length):Int))
  (.run [bt] (fun γ=>Gb (dT γ.2)) <|
  .bd ((List.take k12 l_0)[k9]?) fun x38=>.run ((.op none (.i k9))::(.op none (.v [.str x38]))::(cs 3 [oa])) (fun γ=>k2 (ir γ.2) (k2 (GC (f:=Mm) (z:=0) (fun _=>rfl) γ.2) (Gb (Gq6 γ.2)))) <|
  .sp (x24=x38)
  (.run [bt,oc] (fun γ=>Gb (Gp γ.2)) <|
  .leaf (Sum.inr (Sum.inl ())) [])
  (.run [bf] (fun γ=>Gb (Gw γ.2)) <|
  .gd (GP .i64 ((↑k9:Int)+1)) <| .run [ow,oc] (fun γ=>Gb γ.2) <|
  .leaf (Sum.inl (k9+1)) []))
  (.run [bf] (fun γ=>Gb (dF γ.2)) <|
  .leaf (Sum.inr (Sum.inr (()))) [])
def Jd (l_0:(List (List UInt8))) (k12:Nat) (x24:(List UInt8)):Nat→Option (Nat⊕(Unit⊕Unit)):=fun s=>(K8 l_0 k12 x24 s).den
def YH (l_0:(List (List UInt8))) (k12:Nat) (x24:(List UInt8)):Nat→PS:=fun s=>(17,[(1,.str x24),(7,.lst (fl Mm (List.take k12 l_0)) ((List.take k12 l_0).length)),(8,jI (↑((List.take k12 l_0).length):Int)),(9,jI (↑s:Int))],[])
def YW:(Unit⊕Unit)→Hm:=fun q=>match q with | Sum.inl o=>.ret | Sum.inr (o)=>(.exit 0)
def Y0 (l_0:(List (List UInt8))) (k12:Nat) (x24:(List UInt8)):(Unit⊕Unit)→List (Nat×AV):=fun q=>match q with | Sum.inl o=>[(4,.bool true)] | Sum.inr (o)=>[]
def YI (l_0:(List (List UInt8))) (k12:Nat) (x24:(List UInt8)):(Unit⊕Unit)→List G6:=fun q=>match q with | Sum.inl o=>[] | Sum.inr (o)=>[]
theorem Uo (l_0:(List (List UInt8))) (k12:Nat) (x24:(List UInt8)) {s:Nat} {r:Unit⊕Unit} (h:lp (Jd l_0 k12 x24) s=some r):GI Tryz.prog GT 0 (.loop (GO Tryz.prog 249 [1,0,1,0,0])) (YH l_0 k12 x24 s).st (YW r) (PS.st (17,Y0 l_0 k12 x24 r,YI l_0 k12 x24 r)):=
 GI.lp_ht 0 400 (YH l_0 k12 x24) YW (fun q=>(17,Y0 l_0 k12 x24 q,YI l_0 k12 x24 q)) (K8 l_0 k12 x24) (by intro k9; kernel_rfl) h
def MN (l_0:(List (List UInt8))):Nat→HT (Nat⊕(Int⊕Unit)) True
 | k12=>.run [oa] (fun _=>He) <|
  .sp ((↑k12:Int)<(↑l_0.length:Int))
  (.run [bt] (fun γ=>Gb (dT γ.2)) <|
  .bd (l_0[k12]?) fun x24=>.run (oc::(.op none (.i k12))::(.op none (.v [.str x24]))::(cs 2 [])) (fun γ=>k2 (ir γ.2) (k2 (GC (f:=Mm) (z:=0) (fun _=>rfl) γ.2) (Gb (Gq6 γ.2)))) <|
  .bd (QX x24) fun r26=>.run (oc::(.ret none [.any] (.tup [.str r26.1,jI r26.2]) [])::(cs 5 [])) (fun γ=>Gb (V3 x24 r26 γ.2)) <|
  .sp (r26.2=(0:Int))
  (.run [oc,oa,oc,oF,oc,oa,oc] (fun γ=>Gb (Gs (Gp γ.2))) <|
  .sp (r26.1=x24)
  (.run [bf] (fun γ=>Gb (Gs (Gp γ.2))) <|
  .gd (k12≤l_0.length) <| .bd (lp (Jd l_0 k12 x24) (0:Nat)) fun qq=>.cs qq (fun o31=>.run (cs 2 ((.op none (.s 0 k12))::(.tr (.eqt (.t 31) (.lst (fl Mm (List.take k12 l_0)) ((List.take k12 l_0).length))))::(cs 6 [.fcut 0 .ret [(4,.bool true)] [] [] [(1,.any),(7,.any),(8,.any),(9,jI (↑(0:Nat):Int))] [],bt,oc]))) (fun γ=>k2 (rfl:(↑k12:Int)=((k12:Nat):Int)) (k2 (⟨Nat.zero_le _,γ.1.1.2⟩:0≤k12∧k12≤l_0.length) (k2 ((VW (GmF (f:=Mm) (fun _=>rfl) _ _) (by rw [List.length_take]; omega)):(.lst (List.take k12 (fl Mm l_0)) k12:AV)=.lst (fl Mm (List.take k12 l_0)) ((List.take k12 l_0).length)) (k2 (rfl:(jI 0:AV)=jI (↑(0:Nat):Int)) (k2 (Uo l_0 k12 x24 (s:=(0:Nat)) (r:=Sum.inl o31) (eS γ.1.2 γ.2)) (Gb (rfl:true=true))))))) <|
  .leaf (Sum.inr (Sum.inl 9)) [])
  (fun o31=>.run (cs 2 ((.op none (.s 0 k12))::(.tr (.eqt (.t 31) (.lst (fl Mm (List.take k12 l_0)) ((List.take k12 l_0).length))))::(cs 6 [.fcut 0 (.exit 0) [] [] [] [(1,.any),(7,.any),(8,.any),(9,jI (↑(0:Nat):Int))] [],oc,bf]))) (fun γ=>k2 (rfl:(↑k12:Int)=((k12:Nat):Int)) (k2 (⟨Nat.zero_le _,γ.1.1.2⟩:0≤k12∧k12≤l_0.length) (k2 ((VW (GmF (f:=Mm) (fun _=>rfl) _ _) (by rw [List.length_take]; omega)):(.lst (List.take k12 (fl Mm l_0)) k12:AV)=.lst (fl Mm (List.take k12 l_0)) ((List.take k12 l_0).length)) (k2 (rfl:(jI 0:AV)=jI (↑(0:Nat):Int)) (k2 (Uo l_0 k12 x24 (s:=(0:Nat)) (r:=Sum.inr (o31)) (eS γ.1.2 γ.2)) (Gb (rfl:false=false))))))) <|
  .gd (GP .i64 ((↑k12:Int)+1)) <| .run [ow,oc] (fun γ=>Gb γ.2) <|
  .leaf (Sum.inl (k12+1)) []))
  (.run [bt,oc] (fun γ=>Gb (Gu (Gw γ.2))) <|
  .leaf (Sum.inr (Sum.inl 19)) []))
  (.run (oc::oa::oc::tc::(cs 3 [bt,oc])) (fun γ=>k2 (Gu (Gw γ.2)) (Gb (rfl:true=true))) <|
  .leaf (Sum.inr (Sum.inl 19)) []))
  (.run [bf] (fun γ=>Gb (dF γ.2)) <|
  .leaf (Sum.inr (Sum.inr (()))) [])
def Jx (l_0:(List (List UInt8))):Nat→Option (Nat⊕(Int⊕Unit)):=fun s=>(MN l_0 s).den
def Gav (l_0:(List (List UInt8))):Nat→PS:=fun s=>(35,[(0,.lst (fl Mm l_0) l_0.length),(10,.lst (fl Mm l_0) l_0.length),(11,jI (↑l_0.length:Int)),(12,jI (↑s:Int))],[])
def GaF:(Int⊕Unit)→Hm:=fun q=>match q with | Sum.inl o=>.ret | Sum.inr (o)=>(.exit 0)
def Z2 (l_0:(List (List UInt8))):(Int⊕Unit)→List (Nat×AV):=fun q=>match q with | Sum.inl o=>[(2,jI o)] | Sum.inr (o)=>[]
def Gat (l_0:(List (List UInt8))):(Int⊕Unit)→List G6:=fun q=>match q with | Sum.inl o=>[] | Sum.inr (o)=>[]
theorem VL (l_0:(List (List UInt8))) {s:Nat} {r:Int⊕Unit} (h:lp (Jx l_0) s=some r):GI Tryz.prog GT 0 (.loop (GO Tryz.prog 180 [1,1,0,1,0,0])) (Gav l_0 s).st (GaF r) (PS.st (35,Z2 l_0 r,Gat l_0 r)):=
 GI.lp_ht 0 400 (Gav l_0) GaF (fun q=>(35,Z2 l_0 q,Gat l_0 q)) (MN l_0) (by intro k12; kernel_rfl) h
def YE (l_0:(List (List UInt8))):HT Int True:=.run (cs 3 [oa]) (fun _=>He) <|
  .sp ((↑l_0.length:Int)>(1024:Int))
  (.run [bt,oc] (fun γ=>Gb (dT γ.2)) <|
  .leaf 3 [])
  (.run (bf::(cs 3 [])) (fun γ=>Gb (dF γ.2)) <|
  .bd (lp (Jx l_0) (0:Nat)) fun qq=>.cs qq (fun o2=>.run [.fcut 0 .ret [(2,jI o2)] [] [] [(0,.any),(10,.any),(11,.any),(12,jI (↑(0:Nat):Int))] []] (fun γ=>k2 (rfl:(jI 0:AV)=jI (↑(0:Nat):Int)) (Gb (VL l_0 (s:=(0:Nat)) (r:=Sum.inl o2) (eS γ.1.2 γ.2)))) <|
  .leaf o2 [])
  (fun o2=>.run [.fcut 0 (.exit 0) [] [] [] [(0,.any),(10,.any),(11,.any),(12,jI (↑(0:Nat):Int))] [],oc] (fun γ=>k2 (rfl:(jI 0:AV)=jI (↑(0:Nat):Int)) (Gb (VL l_0 (s:=(0:Nat)) (r:=Sum.inr (o2)) (eS γ.1.2 γ.2)))) <|
  .leaf 0 []))
def XA (l_0:(List (List UInt8))):Option Int:=(YE l_0).den
theorem Gjh (l_0:(List (List UInt8))) (r:Int) (h:XA l_0=some r):G5 Tryz.prog GT 180 [.lst (fl Mm l_0) l_0.length] (jI r) []:=
 G5.of_ht 400 (YE l_0) (fun (r:Int)=>jI r) (fun (r:Int)=>[]) (by kernel_rfl) h
def Yw (w_0:Gm):HT Bool True:=.run (cs 2 []) (fun _=>He) <|
  .sp (w_0.Days≥(1:Int))
  (.sp (w_0.Days≤(127:Int))
  (.sp (w_0.From≥(0:Int))
  (.sp (w_0.From<w_0.To)
  (.run (cs 2 (oa::oc::tc::oc::oa::(cs 2 (tc::oc::oa::(cs 2 (tc::(cs 3 (oa::(cs 2 (tc::oc::oa::(cs 2 []))))))))))) (fun γ=>k2 (dT γ.1.1.1.2) (k2 (dT γ.1.1.2) (k2 (dT γ.1.2) (Gb (dT γ.2))))) <|
  .leaf (decide (w_0.To≤(1440:Int))) [])
  (.run (cs 2 (oa::oc::tc::oc::oa::(cs 2 (tc::oc::oa::(cs 2 (tc::(cs 3 (oa::(cs 2 (oF::(cs 4 []))))))))))) (fun γ=>k2 (dT γ.1.1.1.2) (k2 (dT γ.1.1.2) (k2 (dT γ.1.2) (Gb (dF γ.2))))) <|
  .leaf false []))
  (.run (cs 2 (oa::oc::tc::oc::oa::(cs 2 (tc::oc::oa::(cs 2 (oF::(cs 11 []))))))) (fun γ=>k2 (dT γ.1.1.2) (k2 (dT γ.1.2) (Gb (dF γ.2)))) <|
  .leaf false []))
  (.run (cs 2 (oa::oc::tc::oc::oa::(cs 2 (oF::(cs 16 []))))) (fun γ=>k2 (dT γ.1.2) (Gb (dF γ.2))) <|
  .leaf false []))
  (.run (cs 2 (oa::oc::oF::(cs 21 []))) (fun γ=>Gb (dF γ.2)) <|
  .leaf false [])
def Xj (w_0:Gm):Option Bool:=(Yw w_0).den
theorem GjK (w_0:Gm) (r:Bool) (h:Xj w_0=some r):G5 Tryz.prog GT 182 [.agg (Gm.enc w_0)] (.bool r) []:=
 G5.of_ht 400 (Yw w_0) (fun (r:Bool)=>.bool r) (fun (r:Bool)=>[]) (by kernel_rfl) h
def MU (p_0:GH):Nat→HT (Nat⊕(Unit⊕Unit)) True
 | k40=>.run [oa] (fun _=>He) <|
  .sp ((↑k40:Int)<(↑p_0.Hours.length:Int))
  (.run [bt] (fun γ=>Gb (dT γ.2)) <|
  .bd (p_0.Hours[k40]?) fun x23=>.run ((.op none (.i k40))::(.op none (.v [jI x23.Days,jI x23.From,jI x23.To]))::(cs 2 [])) (fun γ=>k2 (ir γ.2) (k2 (GC (f:=Gm.enc) (z:=2) (fun _=>rfl) γ.2) (Gb (GU (f:=Gm.enc) (z:=3) (j:=k40) (fun _=>rfl) γ.2 rfl)))) <|
  .bd (Xj x23) fun r25=>.run [oc,.ret none [.any] (.bool r25) [],oc] (fun γ=>Gb (GjK x23 r25 γ.2)) <|
  .sp (r25=true)
  (.run [bf] (fun γ=>Gb ((Gs γ.2):(!r25)=false)) <|
  .gd (GP .i64 ((↑k40:Int)+1)) <| .run [ow,oc] (fun γ=>Gb γ.2) <|
  .leaf (Sum.inl (k40+1)) [0])
  (.run [bt,oc] (fun γ=>Gb ((Gu (eq_false_of_ne_true γ.2)):(!r25)=true)) <|
  .leaf (Sum.inr (Sum.inl ())) [0]))
  (.run [bf] (fun γ=>Gb (dF γ.2)) <|
  .leaf (Sum.inr (Sum.inr (()))) [0])
def Jn (p_0:GH):Nat→Option (Nat⊕(Unit⊕Unit)):=fun s=>(MU p_0 s).den
def ZR (p_0:GH):Nat→PS:=fun s=>(56,[(2,.ptr 0 0),(38,.lst (fl Gm.enc p_0.Hours) p_0.Hours.length),(39,jI (↑p_0.Hours.length:Int)),(40,jI (↑s:Int))],[(bT (GH.enc p_0) 135)])
def ZG:(Unit⊕Unit)→Hm:=fun q=>match q with | Sum.inl o=>.ret | Sum.inr (o)=>(.exit 0)
def ZM (p_0:GH):(Unit⊕Unit)→List (Nat×AV):=fun q=>match q with | Sum.inl o=>[(4,jI 12)] | Sum.inr (o)=>[(2,.ptr 0 0)]
def ZL (p_0:GH):(Unit⊕Unit)→List G6:=fun q=>match q with | Sum.inl o=>[(bT (GH.enc p_0) 135)] | Sum.inr (o)=>[(bT (GH.enc p_0) 135)]
theorem VH (p_0:GH) {s:Nat} {r:Unit⊕Unit} (h:lp (Jn p_0) s=some r):GI Tryz.prog GT 1 (.loop (GO Tryz.prog 95 [1,1,1,1,1,1,0,1,0,0])) (ZR p_0 s).st (ZG r) (PS.st (56,ZM p_0 r,ZL p_0 r)):=
 GI.lp_ht 1 400 (ZR p_0) ZG (fun q=>(56,ZM p_0 q,ZL p_0 q)) (MU p_0) (by intro k40; kernel_rfl) h
def GaS (p_0:GH) (l_1:(List Gg)):HT Int True:=.run (cs 2 []) (fun _=>He) <|
  .bd (HC p_0.Name) fun r1=>.run (cs 2 [.ret none [.any] (.bool r1) [],oc]) (fun γ=>Gb (Ha p_0.Name r1 γ.2)) <|
  .sp (r1=true)
  (.run [bf] (fun γ=>Gb ((Gs γ.2):(!r1)=false)) <|
  .bd (Gdn l_1 p_0.Zone) fun r4=>.run (cs 3 ((.ret none [.any,.any] (.tup [.agg (Gg.enc r4.1),.bool r4.2]) [])::(cs 8 []))) (fun γ=>Gb (Gif l_1 p_0.Zone r4 γ.2)) <|
  .sp (r4.2=true)
  (.run [bf] (fun γ=>Gb ((Gs γ.2):(!r4.2)=false)) <|
  .bd (XA p_0.Plates) fun r7=>.run (cs 2 ((.ret none [.any] (jI r7) [])::(cs 2 [oa]))) (fun γ=>Gb (Gjh p_0.Plates r7 γ.2)) <|
  .sp (r7=(0:Int))
  (.run [bf] (fun γ=>Gb (Gs (Gp γ.2))) <|
  .bd (Jz p_0.Valid) fun r10=>.run (cs 2 [.ret none [.any] (.bool r10) [],oc]) (fun γ=>Gb (G3 p_0.Valid r10 γ.2)) <|
  .sp (r10=true)
  (.run (bf::(cs 3 [oa])) (fun γ=>Gb ((Gs γ.2):(!r10)=false)) <|
  .sp ((↑p_0.Hours.length:Int)>(32:Int))
  (.run [bt,oc] (fun γ=>Gb (dT γ.2)) <|
  .leaf 3 [])
  (.run (bf::(cs 4 [])) (fun γ=>Gb (dF γ.2)) <|
  .bd (lp (Jn p_0) (0:Nat)) fun qq=>.cs qq (fun o14=>.run [.fcut 1 .ret [(4,jI 12)] [(bT (GH.enc p_0) 135)] [0] [(2,.any),(38,.any),(39,.any),(40,jI (↑(0:Nat):Int))] [bS]] (fun γ=>k2 (rfl:(jI 0:AV)=jI (↑(0:Nat):Int)) (Gb (VH p_0 (s:=(0:Nat)) (r:=Sum.inl o14) (eS γ.1.2 γ.2)))) <|
  .leaf 12 [])
  (fun o14=>.run [.fcut 1 (.exit 0) [(2,.ptr 0 0)] [(bT (GH.enc p_0) 135)] [0] [(2,.any),(38,.any),(39,.any),(40,jI (↑(0:Nat):Int))] [bS]] (fun γ=>k2 (rfl:(jI 0:AV)=jI (↑(0:Nat):Int)) (Gb (VH p_0 (s:=(0:Nat)) (r:=Sum.inr (o14)) (eS γ.1.2 γ.2)))) <|
  .sp (p_0.Most<(1:Int))
  (.run (cs 2 (oa::oc::tc::(cs 3 [bt,oc]))) (fun γ=>k2 (dT γ.2) (Gb (rfl:true=true))) <|
  .leaf 1 [])
  (.run (cs 2 [oa,oc,oF,oc,oa,oc]) (fun γ=>Gb (dF γ.2)) <|
  .sp (p_0.Most>(2147483648:Int))
  (.run [bt,oc] (fun γ=>Gb (dT γ.2)) <|
  .leaf 1 [])
  (.run [bf,oc] (fun γ=>Gb (dF γ.2)) <|
  .leaf 0 [])))))
  (.run [bt,oc] (fun γ=>Gb ((Gu (eq_false_of_ne_true γ.2)):(!r10)=true)) <|
  .leaf 12 []))
  (.run (bt::(cs 2 [])) (fun γ=>Gb (Gu (Gw γ.2))) <|
  .leaf r7 []))
  (.run [bt,oc] (fun γ=>Gb ((Gu (eq_false_of_ne_true γ.2)):(!r4.2)=true)) <|
  .leaf 23 []))
  (.run [bt,oc] (fun γ=>Gb ((Gu (eq_false_of_ne_true γ.2)):(!r1)=true)) <|
  .leaf 6 [])
def Ze (p_0:GH) (l_1:(List Gg)):Option Int:=(GaS p_0 l_1).den
theorem GkD (p_0:GH) (l_1:(List Gg)) (r:Int) (h:Ze p_0 l_1=some r):G5 Tryz.prog GT 95 [.agg (GH.enc p_0),.lst (fl Gg.enc l_1) l_1.length] (jI r) []:=
 G5.of_ht 400 (GaS p_0 l_1) (fun (r:Int)=>jI r) (fun (r:Int)=>[]) (by kernel_rfl) h
def Xc (l_0:(List (List UInt8))) (s_1:(List UInt8)):Nat→HT (Nat⊕(Unit⊕Unit)) True
 | k5=>.run (cs 3 [oa]) (fun _=>He) <|
  .sp ((↑k5:Int)<(↑l_0.length:Int))
  (.run [bt] (fun γ=>Gb (dT γ.2)) <|
  .bd (l_0[k5]?) fun x8=>.run (cs 2 [.op none (.i k5),.op none (.v [.str x8]),oc,oa]) (fun γ=>k2 (ir γ.2) (k2 (GC (f:=Mm) (z:=0) (fun _=>rfl) γ.2) (Gb (Gq6 γ.2)))) <|
  .sp (x8=s_1)
  (.run [bt,oc] (fun γ=>Gb (Gp γ.2)) <|
  .leaf (Sum.inr (Sum.inl ())) [])
  (.run [bf] (fun γ=>Gb (Gw γ.2)) <|
  .gd (GP .i64 ((↑k5:Int)+1)) <| .run [oc,ow,oc] (fun γ=>Gb γ.2) <|
  .leaf (Sum.inl (k5+1)) []))
  (.run [bf] (fun γ=>Gb (dF γ.2)) <|
  .leaf (Sum.inr (Sum.inr (()))) [])
def Mq (l_0:(List (List UInt8))) (s_1:(List UInt8)):Nat→Option (Nat⊕(Unit⊕Unit)):=fun s=>(Xc l_0 s_1 s).den
def GhY (l_0:(List (List UInt8))) (s_1:(List UInt8)):Nat→PS:=fun s=>(18,[(0,.lst (fl Mm l_0) l_0.length),(1,.str s_1),(5,jI (↑s:Int))],[])
def Gg3:(Unit⊕Unit)→Hm:=fun q=>match q with | Sum.inl o=>.ret | Sum.inr (o)=>(.exit 0)
def GhK (l_0:(List (List UInt8))) (s_1:(List UInt8)):(Unit⊕Unit)→List (Nat×AV):=fun q=>match q with | Sum.inl o=>[(4,.bool true)] | Sum.inr (o)=>[]
def Gg9 (l_0:(List (List UInt8))) (s_1:(List UInt8)):(Unit⊕Unit)→List G6:=fun q=>match q with | Sum.inl o=>[] | Sum.inr (o)=>[]
theorem Gdl (l_0:(List (List UInt8))) (s_1:(List UInt8)) {s:Nat} {r:Unit⊕Unit} (h:lp (Mq l_0 s_1) s=some r):GI Tryz.prog GT 0 (.loop (GO Tryz.prog 109 [1,0,1,0,0])) (GhY l_0 s_1 s).st (Gg3 r) (PS.st (18,GhK l_0 s_1 r,Gg9 l_0 s_1 r)):=
 GI.lp_ht 0 400 (GhY l_0 s_1) Gg3 (fun q=>(18,GhK l_0 s_1 q,Gg9 l_0 s_1 q)) (Xc l_0 s_1) (by intro k5; kernel_rfl) h
def Gil (l_0:(List (List UInt8))) (s_1:(List UInt8)):HT Bool True:=.run (cs 2 []) (fun _=>He) <|
  .bd (lp (Mq l_0 s_1) (0:Nat)) fun qq=>.cs qq (fun o1=>.run [.fcut 0 .ret [(4,.bool true)] [] [] [(0,.any),(1,.any),(5,jI (↑(0:Nat):Int))] []] (fun γ=>k2 (rfl:(jI 0:AV)=jI (↑(0:Nat):Int)) (Gb (Gdl l_0 s_1 (s:=(0:Nat)) (r:=Sum.inl o1) (eS γ.1.2 γ.2)))) <|
  .leaf true [])
  (fun o1=>.run [.fcut 0 (.exit 0) [] [] [] [(0,.any),(1,.any),(5,jI (↑(0:Nat):Int))] [],oc] (fun γ=>k2 (rfl:(jI 0:AV)=jI (↑(0:Nat):Int)) (Gb (Gdl l_0 s_1 (s:=(0:Nat)) (r:=Sum.inr (o1)) (eS γ.1.2 γ.2)))) <|
  .leaf false [])
def Gjq (l_0:(List (List UInt8))) (s_1:(List UInt8)):Option Bool:=(Gil l_0 s_1).den
theorem Go2 (l_0:(List (List UInt8))) (s_1:(List UInt8)) (r:Bool) (h:Gjq l_0 s_1=some r):G5 Tryz.prog GT 109 [.lst (fl Mm l_0) l_0.length,.str s_1] (.bool r) []:=
 G5.of_ht 400 (Gil l_0 s_1) (fun (r:Bool)=>.bool r) (fun (r:Bool)=>[]) (by kernel_rfl) h
def Xg (p_0:GH):Nat→HT (Nat⊕(Int⊕Unit)) True
 | k7=>.run (cs 4 [oa]) (fun _=>He) <|
  .sp ((↑k7:Int)<(↑p_0.Plates.length:Int))
  (.run [bt] (fun γ=>Gb (dT γ.2)) <|
  .bd (p_0.Plates[k7]?) fun x22=>.bd (ZA x22) fun r24=>.run (cs 3 ((.op none (.i k7))::(.op none (.v [.str x22]))::(.ret none [.any] (.tup [.str r24.1,jI r24.2]) [])::(cs 5 []))) (fun γ=>k2 (ir γ.1.2) (k2 (GC (f:=Mm) (z:=0) (fun _=>rfl) γ.1.2) (k2 (Gq6 γ.1.2) (Gb (Gcu x22 r24 γ.2))))) <|
  .sp (r24.2=(0:Int))
  (.run (oc::oa::oc::oF::(cs 3 [.op none (.i k7),.op none (.v [.str x22]),oa,oc])) (fun γ=>k2 (Gs (Gp γ.2)) (k2 (ir γ.1.1.2) (k2 (GC (f:=Mm) (z:=0) (fun _=>rfl) γ.1.1.2) (Gb (Gq6 γ.1.1.2))))) <|
  .sp (r24.1=x22)
  (.run [bf] (fun γ=>Gb (Gs (Gp γ.2))) <|
  .gd (k7≤p_0.Plates.length) <| .bd (Gjq (List.take k7 p_0.Plates) r24.1) fun r29=>.run (cs 3 [.op none (.s 0 k7),.tr (.eqt (.t 58) (.lst (fl Mm (List.take k7 p_0.Plates)) ((List.take k7 p_0.Plates).length))),oc,.ret none [.any,.any] (.bool r29) []]) (fun γ=>k2 (rfl:(↑k7:Int)=((k7:Nat):Int)) (k2 (⟨Nat.zero_le _,γ.1.2⟩:0≤k7∧k7≤p_0.Plates.length) (k2 ((VW (GmF (f:=Mm) (fun _=>rfl) _ _) (by rw [List.length_take]; omega)):(.lst (List.take k7 (fl Mm p_0.Plates)) k7:AV)=.lst (fl Mm (List.take k7 p_0.Plates)) ((List.take k7 p_0.Plates).length)) (Gb (Go2 (List.take k7 p_0.Plates) r24.1 r29 γ.2))))) <|
  .sp (r29=true)
  (.run [bt,oc] (fun γ=>Gb γ.2) <|
  .leaf (Sum.inr (Sum.inl 9)) [0])
  (.run [bf] (fun γ=>Gb ((eq_false_of_ne_true γ.2):r29=false)) <|
  .gd (GP .i64 ((↑k7:Int)+1)) <| .run [oc,ow,oc] (fun γ=>Gb γ.2) <|
  .leaf (Sum.inl (k7+1)) [0]))
  (.run [bt,oc] (fun γ=>Gb (Gu (Gw γ.2))) <|
  .leaf (Sum.inr (Sum.inl 19)) [0]))
  (.run (oc::oa::oc::tc::(cs 7 [bt,oc])) (fun γ=>k2 (Gu (Gw γ.2)) (Gb (rfl:true=true))) <|
  .leaf (Sum.inr (Sum.inl 19)) [0]))
  (.run [bf] (fun γ=>Gb (dF γ.2)) <|
  .leaf (Sum.inr (Sum.inr (()))) [0])
def MC (p_0:GH):Nat→Option (Nat⊕(Int⊕Unit)):=fun s=>(Xg p_0 s).den
def Ghx (p_0:GH):Nat→PS:=fun s=>(91,[(2,.ptr 0 0),(7,jI (↑s:Int))],[(bT (GH.enc p_0) 135)])
def Gii:(Int⊕Unit)→Hm:=fun q=>match q with | Sum.inl o=>.ret | Sum.inr (o)=>(.exit 0)
def Gie (p_0:GH):(Int⊕Unit)→List (Nat×AV):=fun q=>match q with | Sum.inl o=>[(4,jI o)] | Sum.inr (o)=>[(2,.ptr 0 0)]
def Ghh (p_0:GH):(Int⊕Unit)→List G6:=fun q=>match q with | Sum.inl o=>[(bT (GH.enc p_0) 135)] | Sum.inr (o)=>[(bT (GH.enc p_0) 135)]
theorem Gc3 (p_0:GH) {s:Nat} {r:Int⊕Unit} (h:lp (MC p_0) s=some r):GI Tryz.prog GT 1 (.loop (GO Tryz.prog 49 [1,1,1,1,1,0,1,0,0])) (Ghx p_0 s).st (Gii r) (PS.st (91,Gie p_0 r,Ghh p_0 r)):=
 GI.lp_ht 1 400 (Ghx p_0) Gii (fun q=>(91,Gie p_0 q,Ghh p_0 q)) (Xg p_0) (by intro k7; kernel_rfl) h
def Uq (p_0:GH):Nat→HT (Nat⊕(Unit⊕Unit)) True
 | k10=>.run (cs 4 [oa]) (fun _=>He) <|
  .sp ((↑k10:Int)<(↑p_0.Hours.length:Int))
  (.run [bt] (fun γ=>Gb (dT γ.2)) <|
  .bd (p_0.Hours[k10]?) fun x46=>.bd (XM x46) fun r48=>.run (cs 3 [.op none (.i k10),.op none (.v [jI x46.Days,jI x46.From,jI x46.To]),.ret none [.any] (.bool r48) [],oc]) (fun γ=>k2 (ir γ.1.2) (k2 (GC (f:=Gm.enc) (z:=2) (fun _=>rfl) γ.1.2) (k2 (GU (f:=Gm.enc) (z:=3) (j:=k10) (fun _=>rfl) γ.1.2 rfl) (Gb (Gen x46 r48 γ.2))))) <|
  .sp (r48=true)
  (.run [bf] (fun γ=>Gb ((Gs γ.2):(!r48)=false)) <|
  .gd (GP .i64 ((↑k10:Int)+1)) <| .run [oc,ow,oc] (fun γ=>Gb γ.2) <|
  .leaf (Sum.inl (k10+1)) [0])
  (.run [bt,oc] (fun γ=>Gb ((Gu (eq_false_of_ne_true γ.2)):(!r48)=true)) <|
  .leaf (Sum.inr (Sum.inl ())) [0]))
  (.run [bf] (fun γ=>Gb (dF γ.2)) <|
  .leaf (Sum.inr (Sum.inr (()))) [0])
def KM (p_0:GH):Nat→Option (Nat⊕(Unit⊕Unit)):=fun s=>(Uq p_0 s).den
def GfG (p_0:GH):Nat→PS:=fun s=>(91,[(2,.ptr 0 0),(10,jI (↑s:Int))],[(bT (GH.enc p_0) 135)])
def Ggl:(Unit⊕Unit)→Hm:=fun q=>match q with | Sum.inl o=>.ret | Sum.inr (o)=>(.exit 2)
def Ggr (p_0:GH):(Unit⊕Unit)→List (Nat×AV):=fun q=>match q with | Sum.inl o=>[(4,jI 12)] | Sum.inr (o)=>[(2,.ptr 0 0)]
def Ggk (p_0:GH):(Unit⊕Unit)→List G6:=fun q=>match q with | Sum.inl o=>[(bT (GH.enc p_0) 135)] | Sum.inr (o)=>[(bT (GH.enc p_0) 135)]
theorem Gb4 (p_0:GH) {s:Nat} {r:Unit⊕Unit} (h:lp (KM p_0) s=some r):GI Tryz.prog GT 1 (.loop (GO Tryz.prog 49 [1,1,1,1,1,1,1,1,0,1,0,0])) (GfG p_0 s).st (Ggl r) (PS.st (91,Ggr p_0 r,Ggk p_0 r)):=
 GI.lp_ht 1 400 (GfG p_0) Ggl (fun q=>(91,Ggr p_0 q,Ggk p_0 q)) (Uq p_0) (by intro k10; kernel_rfl) h
def Gi5 (p_0:GH) (l_1:(List Gg)):HT Int True:=.run (cs 2 []) (fun _=>He) <|
  .bd (Xa p_0.Name) fun r1=>.run (cs 2 [.ret none [.any] (.bool r1) [],oc]) (fun γ=>Gb (Xo p_0.Name r1 γ.2)) <|
  .sp (r1=true)
  (.run [bf] (fun γ=>Gb ((Gs γ.2):(!r1)=false)) <|
  .bd (Gmu l_1 p_0.Zone) fun r4=>.run (cs 3 ((.ret none [.any,.any] (.tup [.agg (Gg.enc r4.1),.bool r4.2]) [])::(cs 8 []))) (fun γ=>Gb (Gqu l_1 p_0.Zone r4 γ.2)) <|
  .sp (r4.2=true)
  (.run (bf::(cs 3 [oa])) (fun γ=>Gb ((Gs γ.2):(!r4.2)=false)) <|
  .sp ((↑p_0.Plates.length:Int)>(1024:Int))
  (.run [bt,oc] (fun γ=>Gb (dT γ.2)) <|
  .leaf 3 [])
  (.run [bf,oc] (fun γ=>Gb (dF γ.2)) <|
  .bd (lp (MC p_0) (0:Nat)) fun qq=>.cs qq (fun o8=>.run [.fcut 1 .ret [(4,jI o8)] [(bT (GH.enc p_0) 135)] [0] [(2,.any),(7,jI (↑(0:Nat):Int))] [bS]] (fun γ=>k2 (rfl:(jI 0:AV)=jI (↑(0:Nat):Int)) (Gb (Gc3 p_0 (s:=(0:Nat)) (r:=Sum.inl o8) (eS γ.1.2 γ.2)))) <|
  .leaf o8 [])
  (fun o8=>.run [.fcut 1 (.exit 0) [(2,.ptr 0 0)] [(bT (GH.enc p_0) 135)] [0] [(2,.any),(7,jI (↑(0:Nat):Int))] [bS]] (fun γ=>k2 (rfl:(jI 0:AV)=jI (↑(0:Nat):Int)) (Gb (Gc3 p_0 (s:=(0:Nat)) (r:=Sum.inr (o8)) (eS γ.1.2 γ.2)))) <|
  .bd (Qb p_0.Valid) fun r33=>.run (cs 2 [.ret none [.any] (.bool r33) [],oc]) (fun γ=>Gb (HH p_0.Valid r33 γ.2)) <|
  .sp (r33=true)
  (.run (bf::(cs 3 [oa])) (fun γ=>Gb ((Gs γ.2):(!r33)=false)) <|
  .sp ((↑p_0.Hours.length:Int)>(32:Int))
  (.run [bt,oc] (fun γ=>Gb (dT γ.2)) <|
  .leaf 3 [])
  (.run [bf,oc] (fun γ=>Gb (dF γ.2)) <|
  .bd (lp (KM p_0) (0:Nat)) fun qq=>.cs qq (fun o37=>.run [.fcut 1 .ret [(4,jI 12)] [(bT (GH.enc p_0) 135)] [0] [(2,.any),(10,jI (↑(0:Nat):Int))] [bS]] (fun γ=>k2 (rfl:(jI 0:AV)=jI (↑(0:Nat):Int)) (Gb (Gb4 p_0 (s:=(0:Nat)) (r:=Sum.inl o37) (eS γ.1.2 γ.2)))) <|
  .leaf 12 [])
  (fun o37=>.run [.fcut 1 (.exit 2) [(2,.ptr 0 0)] [(bT (GH.enc p_0) 135)] [0] [(2,.any),(10,jI (↑(0:Nat):Int))] [bS]] (fun γ=>k2 (rfl:(jI 0:AV)=jI (↑(0:Nat):Int)) (Gb (Gb4 p_0 (s:=(0:Nat)) (r:=Sum.inr (o37)) (eS γ.1.2 γ.2)))) <|
  .sp (p_0.Most<(1:Int))
  (.run (cs 2 (oa::oc::tc::(cs 3 [bt,oc]))) (fun γ=>k2 (dT γ.2) (Gb (rfl:true=true))) <|
  .leaf 1 [])
  (.run (cs 2 [oa,oc,oF,oc,oa,oc]) (fun γ=>Gb (dF γ.2)) <|
  .sp (p_0.Most>(2147483648:Int))
  (.run [bt,oc] (fun γ=>Gb (dT γ.2)) <|
  .leaf 1 [])
  (.run [bf,oc] (fun γ=>Gb (dF γ.2)) <|
  .leaf 0 [])))))
  (.run [bt,oc] (fun γ=>Gb ((Gu (eq_false_of_ne_true γ.2)):(!r33)=true)) <|
  .leaf 12 []))))
  (.run [bt,oc] (fun γ=>Gb ((Gu (eq_false_of_ne_true γ.2)):(!r4.2)=true)) <|
  .leaf 23 []))
  (.run [bt,oc] (fun γ=>Gb ((Gu (eq_false_of_ne_true γ.2)):(!r1)=true)) <|
  .leaf 6 [])
def Gi9 (p_0:GH) (l_1:(List Gg)):Option Int:=(Gi5 p_0 l_1).den
theorem Gpl (p_0:GH) (l_1:(List Gg)) (r:Int) (h:Gi9 p_0 l_1=some r):G5 Tryz.prog GT 49 [.agg (GH.enc p_0),.lst (fl Gg.enc l_1) l_1.length] (jI r) []:=
 G5.of_ht 400 (Gi5 p_0 l_1) (fun (r:Int)=>jI r) (fun (r:Int)=>[]) (by kernel_rfl) h
end
set_option maxHeartbeats 4000000
noncomputable section
abbrev Ls (s:List UInt8):Prop:=s.length≤140737488351232
def Gn2 (l:List (List UInt8)) (k:Nat) (x:List UInt8):Option Int:=
 if (plN x).2≠0∨(plN x).1≠x then some 19 else if (l.take k).any (fun y=>decide (y=x)) then some 9 else none
def Gui (l:List (List UInt8)):Int:=if l.length>1024 then 3 else (GK (Gn2 l) 0 l).getD 0
theorem GkB (l:List (List UInt8)) (hx:∀ x ∈ l,Ls x):XA l=some (Gui l):=by
 simp only [XA,YE,d1,d2,d3,d4,d5,d6,d7,Gui]
 by_cases hl:l.length>1024
 ·rw [if_pos (by omega),if_pos hl]
 rw [if_neg (by omega),if_neg hl]
 have hs:Sm l:=by show _≤_; omega
 have key:lp (Jx l) 0=some (HL (GK (Gn2 l) 0 l)):=by
  refine GQ (fun k x hk0=>?_) ?_
  ·obtain ⟨hk,i1,i2,hkl,h1,h2⟩:=rd hs hk0
   have hkl2:k≤l.length:=by omega
   have hn:=GeC x (by have:=hx x (List.mem_of_getElem? hk0); unfold Ls at this; omega)
   have hq:lp (Jd l k x) 0=some (HL (if (l.take k).any (fun y=>decide (y=x)) then some () else none)):=by
    rw [← Hj (l.take k) 0]
    have hst:Sm (l.take k):=by show _≤_; rw [List.length_take]; omega
    refine GQ (fun j y hy=>?_) ?_
    ·obtain ⟨_,i3,_,hjl,_,_⟩:=rd hst hy
     simp only [Jd,K8,d1,d2,d3,d4,d5,d6,d7,hy,Option.bind_some,i3,if_true,hjl]
     clear i1 i2 i3 hs hst
     grind [KC]
    ·simp only [Jd,K8,d3,d6,d1]
     rw [if_neg (by omega)]
   simp only [Jx,MN,d1,d2,d3,d4,d5,d6,d7,hk0,hq,hn,Option.bind_some,i1,if_true,hkl,hkl2,Gn2]
   clear i1 i2 hs hq hn hx
   generalize plN x=q
   rcases Hf ((l.take k).any fun y=>decide (y=x)) with hh | hh <;> simp only [hh,HL,eN,eM,if_true,if_false,Bool.false_eq_true] <;> clear hh <;> grind [KC]
  ·simp only [Jx,MN,d3,d6,d1]
   rw [if_neg (by omega)]
 rw [key]
 cases GK (Gn2 l) 0 l <;> rfl
theorem GkL (w:Gm):Xj w=some (Vc w):=by
 simp only [Xj,Yw,d1,d2,d3,d6,Vc]; grind
def GeE (p:GH) (l:List Gg):Int:=
 if HE p.Name=false then 6 else if l.any (GaW p.Zone)=false then 23 else if Gui p.Plates≠0 then Gui p.Plates else if Rk p.Valid=false then 12
 else if p.Hours.length>32 then 3 else if p.Hours.any (fun w=>!Vc w) then 12 else if p.Most<1∨p.Most>2147483648 then 1 else 0
theorem Gl5 (p:GH) (l:List Gg) (hl:Sm l) (hz:∀ z ∈ l,GsL z) (hp:∀ x ∈ p.Plates,Ls x):Ze p l=some (GeE p l):=by
 obtain ⟨z,hf⟩:=GjW l hl hz p.Zone
 simp only [Ze,GaS,d1,d2,d3,d4,d5,d6,d7,JF,hf,GkB _ hp,RH,Option.bind_some,GeE]
 clear hf hl hz hp
 rcases Hf (HE p.Name) with hn | hn <;> simp only [hn,if_true,if_false,Bool.true_eq_false,Bool.false_eq_true]
 rcases Hf (l.any (GaW p.Zone)) with hn | hn <;> simp only [hn,if_true,if_false,Bool.true_eq_false,Bool.false_eq_true]
 generalize Gui p.Plates=q
 by_cases h0:q=0
 rotate_left
 ·simp only [if_neg h0,if_pos h0]
 simp only [if_pos h0,if_neg (show ¬ q≠0 from fun h=>h h0)]
 rcases Hf (Rk p.Valid) with hn | hn <;> simp only [hn,if_true,if_false,Bool.true_eq_false,Bool.false_eq_true]
 by_cases h1:p.Hours.length>32
 ·rw [if_pos (by omega),if_pos h1]
 rw [if_neg (by omega),if_neg h1]
 have hs:Sm p.Hours:=by show _≤_; omega
 have key:lp (Jn p) 0=some (HL (if p.Hours.any (fun w=>!Vc w) then some () else none)):=by
  rw [← Hj p.Hours 0]
  refine GQ (fun k x hx=>?_) ?_
  ·obtain ⟨hk,i1,i2,hkl,h3,h4⟩:=rd hs hx
   simp only [Jn,MU,d1,d2,d3,d4,d5,d6,d7,hx,Option.bind_some,GkL,i1,if_true,hkl]
   clear i1 i2 hs
   cases Vc x <;> rfl
  ·simp only [Jn,MU,d3,d6,d1]
   rw [if_neg (by omega)]
 rw [key]
 clear hs key
 rcases Hf (p.Hours.any fun w=>!Vc w) with hh | hh <;> simp only [hh,HL,Option.bind_some,eN,eM,if_true,if_false,Bool.false_eq_true] <;> grind
theorem Gnw (l:List (List UInt8)) (hl:Sm l) (s:List UInt8):Gjq l s=some (l.any fun y=>decide (y=s)):=by
 simp only [Gjq,Gil,d1,d2,d3,d4,d5,d6,d7]
 have key:lp (Mq l s) 0=some (HL (if l.any (fun y=>decide (y=s)) then some () else none)):=by
  rw [← Hj l 0]
  refine GQ (fun k y hy=>?_) ?_
  ·obtain ⟨hk,i1,i2,hkl,h1,h2⟩:=rd hl hy
   simp only [Mq,Xc,d1,d2,d3,d4,d5,d6,d7,hy,Option.bind_some,i1,if_true,hkl]
   clear i1 i2 hl
   grind [KC]
  ·simp only [Mq,Xc,d3,d6,d1]
   rw [if_neg (by omega)]
 rw [key]
 cases l.any fun y=>decide (y=s) <;> rfl
theorem Gv2 {l:List (List UInt8)} {k:Nat} {x:List UInt8}:Gn2 l k x≠some 0:=by unfold Gn2; grind
theorem GmI (p:GH) (l:List Gg) (hl:Sm l) (hp:∀ x ∈ p.Plates,Ls x):Gi9 p l=some (GeE p l):=by
 obtain ⟨z,hf⟩:=Gn7 l hl p.Zone
 simp only [Gi9,Gi5,d1,d2,d3,d4,d5,d6,d7,RN,hf,Ys,Option.bind_some,GeE]
 clear hf hl
 rcases Hf (HE p.Name) with hn | hn <;> simp only [hn,if_true,if_false,Bool.true_eq_false,Bool.false_eq_true]
 rcases Hf (l.any (GaW p.Zone)) with hn | hn <;> simp only [hn,if_true,if_false,Bool.true_eq_false,Bool.false_eq_true]
 unfold Gui
 by_cases h2:p.Plates.length>1024
 ·rw [if_pos (by omega)]; simp only [if_pos h2]; rfl
 rw [if_neg (by omega)]; simp only [if_neg h2]
 have hs:Sm p.Plates:=by show _≤_; omega
 have k2:lp (MC p) 0=some (HL (GK (Gn2 p.Plates) 0 p.Plates)):=by
  refine GQ (fun k x hx=>?_) ?_
  ·obtain ⟨hk,i1,i2,hkl,h3,h4⟩:=rd hs hx
   have hkl2:k≤p.Plates.length:=by omega
   have hn:=GeD x (by have:=hp x (List.mem_of_getElem? hx); unfold Ls at this; omega)
   have hst:Sm (p.Plates.take k):=by show _≤_; rw [List.length_take]; omega
   simp only [MC,Xg,d1,d2,d3,d4,d5,d6,d7,hx,hn,Gnw _ hst,Option.bind_some,i1,if_true,hkl,hkl2,Gn2]
   clear i1 i2 hs hst hn hp
   by_cases e1:(plN x).2=0
   ·by_cases e2:(plN x).1=x
    ·simp only [e1,e2]
     rcases Hf ((p.Plates.take k).any fun y=>decide (y=x)) with hh | hh <;> simp only [hh,if_true,if_false,Bool.false_eq_true] <;> clear hh <;> grind [KC]
    ·simp only [e1,e2]; grind [KC]
   ·simp only [e1]; grind [KC]
  ·simp only [MC,Xg,d3,d6,d1]
   rw [if_neg (by omega)]
 rw [k2]
 clear hs k2 hp
 have h0:GK (Gn2 p.Plates) 0 p.Plates≠some 0:=fun h=>by obtain ⟨i,x,_,h2⟩:=Qa h; exact Gv2 h2
 generalize GK (Gn2 p.Plates) 0 p.Plates=q at h0
 cases q with
 | some r=>
  have:r≠0:=fun h=>h0 (by rw [h])
  simp only [HL,Option.bind_some,eN,Option.getD_some,if_pos this]
 | none=>
  simp only [HL,Option.bind_some,eM,Option.getD_none,if_neg (show ¬ ((0:Int)≠0) from fun h=>h rfl)]
  clear h0 h2
  rcases Hf (Rk p.Valid) with hn | hn <;> simp only [hn,if_true,if_false,Bool.true_eq_false,Bool.false_eq_true]
  by_cases h1:p.Hours.length>32
  ·rw [if_pos (by omega),if_pos h1]
  rw [if_neg (by omega),if_neg h1]
  have hs:Sm p.Hours:=by show _≤_; omega
  have key:lp (KM p) 0=some (HL (if p.Hours.any (fun w=>!Vc w) then some () else none)):=by
   rw [← Hj p.Hours 0]
   refine GQ (fun k x hx=>?_) ?_
   ·obtain ⟨hk,i1,i2,hkl,h3,h4⟩:=rd hs hx
    simp only [KM,Uq,d1,d2,d3,d4,d5,d6,d7,hx,Option.bind_some,Ga8,i1,if_true,hkl]
    clear i1 i2 hs
    cases Vc x <;> rfl
   ·simp only [KM,Uq,d3,d6,d1]
    rw [if_neg (by omega)]
  rw [key]
  clear hs key
  rcases Hf (p.Hours.any fun w=>!Vc w) with hh | hh <;> simp only [hh,HL,Option.bind_some,eN,eM,if_true,if_false,Bool.false_eq_true] <;> grind
end
end Go.Proofs.YtnlaiahcemckkaaGreatDoor.Av
