import Derived.Test.YtdifanfcaemokaaGreatDoorBCS
import Derived.Laws.RangeString
import Derived.Laws.RangeAny
open Prod (fst)
open Int (tdiv tmod)
set_option maxHeartbeats 4000000
set_option maxRecDepth 100000
set_option linter.unusedVariables false
set_option linter.unusedSimpArgs false
namespace Go.Proofs.YtdifanfcaemokaaGreatDoor.Av
noncomputable section
open Go Go.Proofs
def Xp (s_0:(List UInt8)):Nat→HT (Nat⊕(Unit⊕Unit)) True
 | p0=>.sp (p0<s_0.length)
  (.bd (some (dec s_0 p0)) fun r23=>.run ((oN (.m r23.1 r23.2))::oc::bt::(cs 4 [])) (fun γ=>k2 γ.1.2 (k2 ((Option.some.inj γ.2):Utf8.decode ⟨s_0.toArray⟩ p0=(r23.1,r23.2)) (Gb tT))) <|
  .sp ((↑r23.1:Int)≥(97:Int))
  (.run (oc::oa::oc::tc::oa::(cs 2 [])) (fun γ=>Gb (dT γ.2)) <|
  .sp ((↑r23.1:Int)≤(122:Int))
  (.run (cs 3 (oF::(cs 14 [bf]))) (fun γ=>k2 (Gx (dT γ.2)) (Gb fF)) <|
  .leaf (.inl (p0+r23.2)) [0])
  (.sp ((↑p0:Int)=(0:Int))
  (.run (cs 3 (tc::oa::oc::tc::(cs 11 [bt,oc]))) (fun γ=>k2 (Gy (dF γ.1.2)) (k2 (Gu γ.2) (Gb tT))) <|
  .leaf (.inr (.inl ())) [])
  (.sp ((↑r23.1:Int)=(45:Int))
  (.run (cs 3 (tc::oa::oc::oF::oa::oc::oF::(cs 8 [bf]))) (fun γ=>k2 (Gy (dF γ.1.1.2)) (k2 (Gz γ.1.2) (k2 (Gx (Gu γ.2)) (Gb fF)))) <|
  .leaf (.inl (p0+r23.2)) [0])
  (.sp ((↑r23.1:Int)<(48:Int))
  (.run (cs 3 (tc::oa::oc::oF::oa::oc::tc::oa::oc::tc::(cs 5 [bt,oc]))) (fun γ=>k2 (Gy (dF (G0 γ))) (k2 (Gz γ.1.1.2) (k2 (Gy (Gz γ.1.2)) (k2 (dT γ.2) (Gb tT))))) <|
  .leaf (.inr (.inl ())) [])
  (.run (cs 3 (tc::oa::oc::oF::oa::oc::tc::oa::oc::oF::oa::(cs 4 []))) (fun γ=>k2 (Gy (dF (G0 γ))) (k2 (Gz γ.1.1.2) (k2 (Gy (Gz γ.1.2)) (Gb (dF γ.2))))) <|
  .sp ((↑r23.1:Int)>(57:Int))
  (.run [bt,oc] (fun γ=>Gb (dT γ.2)) <|
  .leaf (.inr (.inl ())) [])
  (.run [bf] (fun γ=>Gb (dF γ.2)) <|
  .leaf (.inl (p0+r23.2)) [0]))))))
  (.run (oc::oa::oc::oF::(cs 3 [])) (fun γ=>Gb (dF γ.2)) <|
  .sp ((↑p0:Int)=(0:Int))
  (.run (cs 4 (oa::oc::tc::(cs 11 [bt,oc]))) (fun γ=>k2 (Gu γ.2) (Gb tT)) <|
  .leaf (.inr (.inl ())) [])
  (.sp ((↑r23.1:Int)=(45:Int))
  (.run (cs 4 (oa::oc::oF::oa::oc::oF::(cs 8 [bf]))) (fun γ=>k2 (Gz γ.1.2) (k2 (Gx (Gu γ.2)) (Gb fF))) <|
  .leaf (.inl (p0+r23.2)) [0])
  (.sp ((↑r23.1:Int)<(48:Int))
  (.run (cs 4 (oa::oc::oF::oa::oc::tc::oa::oc::tc::(cs 5 [bt,oc]))) (fun γ=>k2 (Gz γ.1.1.2) (k2 (Gy (Gz γ.1.2)) (k2 (dT γ.2) (Gb tT)))) <|
  .leaf (.inr (.inl ())) [])
  (.run (cs 4 (oa::oc::oF::oa::oc::tc::oa::oc::oF::oa::(cs 4 []))) (fun γ=>k2 (Gz γ.1.1.2) (k2 (Gy (Gz γ.1.2)) (Gb (dF γ.2)))) <|
  .sp ((↑r23.1:Int)>(57:Int))
  (.run [bt,oc] (fun γ=>Gb (dT γ.2)) <|
  .leaf (.inr (.inl ())) [])
  (.run [bf] (fun γ=>Gb (dF γ.2)) <|
  .leaf (.inl (p0+r23.2)) [0]))))))
  (.run [oN (.b false),oc,bf] (fun γ=>k2 γ.2 (Gb fF)) <|
  .leaf (.inr (.inr (()))) [])
def Mm (s_0:(List UInt8)):Nat→Option (Nat⊕(Unit⊕Unit)):=fun s=>(Xp s_0 s).den
def GhX (s_0:(List UInt8)):Nat→PS:=fun s=>(43,[(14,.ptr 0 0)],[{ c:=[],e:=0,ext:=false,fz:=0,pl:=true,o:=false,it:=some (.str s_0 s) }])
def GhZ:(Unit⊕Unit)→Hm:=fun q=>match q with | Sum.inl o=>.ret | Sum.inr (o)=>(.exit 0)
def GhY (s_0:(List UInt8)):(Unit⊕Unit)→List (Nat×AV):=fun q=>match q with | Sum.inl o=>[(2,.bool false)] | Sum.inr (o)=>[]
def GhW (s_0:(List UInt8)):(Unit⊕Unit)→List Hb:=fun _=>[]
theorem Gdx (s_0:(List UInt8)) {s:Nat} {r:Unit⊕Unit} (h:lp (Mm s_0) s=some r):DT 0 (.loop (GK Tryz.prog 151 [1,1,0,1,0,0])) (GhX s_0 s).st (GhZ r) (PS.st (43,GhY s_0 r,GhW s_0 r)):=
 GN.lp_ht 0 400 (GhX s_0) GhZ (fun q=>(43,GhY s_0 q,GhW s_0 q)) (Xp s_0) (by intro p0; kernel_rfl) h
def Gh0 (s_0:(List UInt8)):HT Bool True:=.run [oc] (fun _=>Hg) <|
  .sp (s_0=[])
  (.run (oc::oa::oc::tc::(cs 3 [bt,oc])) (fun γ=>k2 (Gu γ.2) (Gb tT)) <|
  .leaf false [])
  (.run [oc,oa,oc,oF,oc,oa,oc] (fun γ=>Gb (Gz γ.2)) <|
  .sp ((↑s_0.length:Int)>(12:Int))
  (.run [bt,oc] (fun γ=>Gb (dT γ.2)) <|
  .leaf false [])
  (.run (bf::(cs 2 [])) (fun γ=>Gb (dF γ.2)) <|
  .bd (lp (Mm s_0) (0:Nat)) fun qq=>.cs qq (fun o3=>.run [.fcut 0 .ret [(2,.bool false)] [] [0] [(14,.any)] [{ c:=[],e:=0,ext:=false,fz:=0,pl:=true,o:=false,it:=some (.str s_0 (0:Nat)) }]] (fun γ=>k2 (⟨rfl,rfl⟩:s_0=s_0∧0=(0:Nat)) (Gb (Gdx s_0 (s:=(0:Nat)) (r:=Sum.inl o3) (eS γ.1.2 γ.2)))) <|
  .leaf false [])
  (fun o3=>.run [.fcut 0 (.exit 0) [] [] [0] [(14,.any)] [{ c:=[],e:=0,ext:=false,fz:=0,pl:=true,o:=false,it:=some (.str s_0 (0:Nat)) }],oc] (fun γ=>k2 (⟨rfl,rfl⟩:s_0=s_0∧0=(0:Nat)) (Gb (Gdx s_0 (s:=(0:Nat)) (r:=Sum.inr (o3)) (eS γ.1.2 γ.2)))) <|
  .leaf true [])))
def HS (s_0:(List UInt8)):Option Bool:=(Gh0 s_0).den
theorem Hh (s_0:(List UInt8)) (r:Bool) (h:HS s_0=some r):RT 151 [.str s_0] (.bool r) []:=
 HA.of_ht 400 (Gh0 s_0) (fun (r:Bool)=>.bool r) (fun (r:Bool)=>[]) (by kernel_rfl) h
def Gai (s_0:(List UInt8)):Nat→HT (Nat⊕(Unit⊕Unit)) True
 | k3=>.run (cs 3 [oa]) (fun _=>Hg) <|
  .sp ((↑k3:Int)<(↑s_0.length:Int))
  (.run [bt] (fun γ=>Gb (dT γ.2)) <|
  .bd (s_0[k3]?) fun x35=>.sp ((x35.toNat:Int)≥(97:Int))
  (.run (cs 2 ((oN (.i k3))::(.tr (.eqt (.t 22) (.int .u8 (x35.toNat:Int))))::oa::oc::tc::oc::(oN (.i k3))::(.tr (.eqt (.t 27) (.int .u8 (x35.toNat:Int))))::oa::(cs 2 []))) (fun γ=>k2 (ir γ.1.2) (k2 ((HB γ.1.2):(.int .u8 ((List.getD s_0 k3 0).toNat:Int):AV)=.int .u8 (x35.toNat:Int)) (k2 (dT γ.2) (k2 (ir γ.1.2) (Gb ((HB γ.1.2):(.int .u8 ((List.getD s_0 k3 0).toNat:Int):AV)=.int .u8 (x35.toNat:Int))))))) <|
  .sp ((x35.toNat:Int)≥(48:Int))
  (.sp ((x35.toNat:Int)≤(57:Int))
  (.run (cs 2 ((oN (.i k3))::(.tr (.eqt (.t 32) (.int .u8 (x35.toNat:Int))))::oa::oc::tc::oc::(oN (.i k3))::(.tr (.eqt (.t 37) (.int .u8 (x35.toNat:Int))))::oa::(cs 2 (tc::(cs 5 []))))) (fun γ=>k2 (ir (G0 γ)) (k2 ((HB (G0 γ)):(.int .u8 ((List.getD s_0 k3 0).toNat:Int):AV)=.int .u8 (x35.toNat:Int)) (k2 (dT γ.1.2) (k2 (ir (G0 γ)) (k2 ((HB (G0 γ)):(.int .u8 ((List.getD s_0 k3 0).toNat:Int):AV)=.int .u8 (x35.toNat:Int)) (Gb (dT γ.2))))))) <|
  .sp ((x35.toNat:Int)≤(122:Int))
  (.run (cs 3 (oF::(cs 6 [bf]))) (fun γ=>k2 (Gx (dT γ.2)) (Gb fF)) <|
  .gd (GS .i64 ((↑k3:Int)+1)) <| .run [oc,ow,oc] (fun γ=>Gb γ.2) <|
  .leaf (.inl (k3+1)) [])
  (.sp ((↑k3:Int)=(0:Int))
  (.run (cs 3 (tc::oa::oc::tc::(cs 3 [bt,oc]))) (fun γ=>k2 (Gy (dF γ.1.2)) (k2 (Gu γ.2) (Gb tT))) <|
  .leaf (.inr (.inl ())) [])
  (.run (cs 3 (tc::oa::oc::oF::(cs 3 [bf]))) (fun γ=>k2 (Gy (dF γ.1.2)) (k2 (Gz γ.2) (Gb fF))) <|
  .gd (GS .i64 ((↑k3:Int)+1)) <| .run [oc,ow,oc] (fun γ=>Gb γ.2) <|
  .leaf (.inl (k3+1)) [])))
  (.run (cs 2 ((oN (.i k3))::(.tr (.eqt (.t 32) (.int .u8 (x35.toNat:Int))))::oa::oc::tc::oc::(oN (.i k3))::(.tr (.eqt (.t 37) (.int .u8 (x35.toNat:Int))))::oa::(cs 2 (oF::oc::(oN (.i k3))::(.tr (.eqt (.t 43) (.int .u8 (x35.toNat:Int))))::oa::(cs 2 []))))) (fun γ=>k2 (ir (G0 γ)) (k2 ((HB (G0 γ)):(.int .u8 ((List.getD s_0 k3 0).toNat:Int):AV)=.int .u8 (x35.toNat:Int)) (k2 (dT γ.1.2) (k2 (ir (G0 γ)) (k2 ((HB (G0 γ)):(.int .u8 ((List.getD s_0 k3 0).toNat:Int):AV)=.int .u8 (x35.toNat:Int)) (k2 (dF γ.2) (k2 (ir (G0 γ)) (Gb ((HB (G0 γ)):(.int .u8 ((List.getD s_0 k3 0).toNat:Int):AV)=.int .u8 (x35.toNat:Int)))))))))) <|
  .sp ((x35.toNat:Int)≤(122:Int))
  (.run (cs 3 (oF::(cs 6 [bf]))) (fun γ=>k2 (Gx (dT γ.2)) (Gb fF)) <|
  .gd (GS .i64 ((↑k3:Int)+1)) <| .run [oc,ow,oc] (fun γ=>Gb γ.2) <|
  .leaf (.inl (k3+1)) [])
  (.sp ((↑k3:Int)=(0:Int))
  (.run (cs 3 (tc::oa::oc::tc::(cs 3 [bt,oc]))) (fun γ=>k2 (Gy (dF γ.1.2)) (k2 (Gu γ.2) (Gb tT))) <|
  .leaf (.inr (.inl ())) [])
  (.run (cs 3 (tc::oa::oc::oF::(cs 3 []))) (fun γ=>k2 (Gy (dF γ.1.2)) (Gb (Gz γ.2))) <|
  .sp ((x35.toNat:Int)=(45:Int))
  (.run [bf] (fun γ=>Gb (Gx (Gu γ.2))) <|
  .gd (GS .i64 ((↑k3:Int)+1)) <| .run [oc,ow,oc] (fun γ=>Gb γ.2) <|
  .leaf (.inl (k3+1)) [])
  (.run [bt,oc] (fun γ=>Gb (Gy (Gz γ.2))) <|
  .leaf (.inr (.inl ())) [])))))
  (.run (cs 2 ((oN (.i k3))::(.tr (.eqt (.t 32) (.int .u8 (x35.toNat:Int))))::oa::oc::oF::(cs 7 ((oN (.i k3))::(.tr (.eqt (.t 43) (.int .u8 (x35.toNat:Int))))::oa::(cs 2 []))))) (fun γ=>k2 (ir γ.1.1.2) (k2 ((HB γ.1.1.2):(.int .u8 ((List.getD s_0 k3 0).toNat:Int):AV)=.int .u8 (x35.toNat:Int)) (k2 (dF γ.2) (k2 (ir γ.1.1.2) (Gb ((HB γ.1.1.2):(.int .u8 ((List.getD s_0 k3 0).toNat:Int):AV)=.int .u8 (x35.toNat:Int))))))) <|
  .sp ((x35.toNat:Int)≤(122:Int))
  (.run (cs 3 (oF::(cs 6 [bf]))) (fun γ=>k2 (Gx (dT γ.2)) (Gb fF)) <|
  .gd (GS .i64 ((↑k3:Int)+1)) <| .run [oc,ow,oc] (fun γ=>Gb γ.2) <|
  .leaf (.inl (k3+1)) [])
  (.sp ((↑k3:Int)=(0:Int))
  (.run (cs 3 (tc::oa::oc::tc::(cs 3 [bt,oc]))) (fun γ=>k2 (Gy (dF γ.1.2)) (k2 (Gu γ.2) (Gb tT))) <|
  .leaf (.inr (.inl ())) [])
  (.run (cs 3 (tc::oa::oc::oF::(cs 3 []))) (fun γ=>k2 (Gy (dF γ.1.2)) (Gb (Gz γ.2))) <|
  .sp ((x35.toNat:Int)=(45:Int))
  (.run [bf] (fun γ=>Gb (Gx (Gu γ.2))) <|
  .gd (GS .i64 ((↑k3:Int)+1)) <| .run [oc,ow,oc] (fun γ=>Gb γ.2) <|
  .leaf (.inl (k3+1)) [])
  (.run [bt,oc] (fun γ=>Gb (Gy (Gz γ.2))) <|
  .leaf (.inr (.inl ())) [])))))
  (.run (cs 2 ((oN (.i k3))::(.tr (.eqt (.t 22) (.int .u8 (x35.toNat:Int))))::oa::oc::oF::(cs 5 []))) (fun γ=>k2 (ir γ.1.2) (k2 ((HB γ.1.2):(.int .u8 ((List.getD s_0 k3 0).toNat:Int):AV)=.int .u8 (x35.toNat:Int)) (Gb (dF γ.2)))) <|
  .sp ((x35.toNat:Int)≥(48:Int))
  (.sp ((x35.toNat:Int)≤(57:Int))
  (.run (cs 2 ((oN (.i k3))::(.tr (.eqt (.t 32) (.int .u8 (x35.toNat:Int))))::oa::oc::tc::oc::(oN (.i k3))::(.tr (.eqt (.t 37) (.int .u8 (x35.toNat:Int))))::oa::(cs 2 (tc::(cs 5 []))))) (fun γ=>k2 (ir (G0 γ)) (k2 ((HB (G0 γ)):(.int .u8 ((List.getD s_0 k3 0).toNat:Int):AV)=.int .u8 (x35.toNat:Int)) (k2 (dT γ.1.2) (k2 (ir (G0 γ)) (k2 ((HB (G0 γ)):(.int .u8 ((List.getD s_0 k3 0).toNat:Int):AV)=.int .u8 (x35.toNat:Int)) (Gb (dT γ.2))))))) <|
  .sp ((↑k3:Int)=(0:Int))
  (.run (cs 4 (oa::oc::tc::(cs 3 [bt,oc]))) (fun γ=>k2 (Gu γ.2) (Gb tT)) <|
  .leaf (.inr (.inl ())) [])
  (.run (cs 4 (oa::oc::oF::(cs 3 [bf]))) (fun γ=>k2 (Gz γ.2) (Gb fF)) <|
  .gd (GS .i64 ((↑k3:Int)+1)) <| .run [oc,ow,oc] (fun γ=>Gb γ.2) <|
  .leaf (.inl (k3+1)) []))
  (.run (cs 2 ((oN (.i k3))::(.tr (.eqt (.t 32) (.int .u8 (x35.toNat:Int))))::oa::oc::tc::oc::(oN (.i k3))::(.tr (.eqt (.t 37) (.int .u8 (x35.toNat:Int))))::oa::(cs 2 (oF::oc::(oN (.i k3))::(.tr (.eqt (.t 43) (.int .u8 (x35.toNat:Int))))::oa::(cs 2 []))))) (fun γ=>k2 (ir (G0 γ)) (k2 ((HB (G0 γ)):(.int .u8 ((List.getD s_0 k3 0).toNat:Int):AV)=.int .u8 (x35.toNat:Int)) (k2 (dT γ.1.2) (k2 (ir (G0 γ)) (k2 ((HB (G0 γ)):(.int .u8 ((List.getD s_0 k3 0).toNat:Int):AV)=.int .u8 (x35.toNat:Int)) (k2 (dF γ.2) (k2 (ir (G0 γ)) (Gb ((HB (G0 γ)):(.int .u8 ((List.getD s_0 k3 0).toNat:Int):AV)=.int .u8 (x35.toNat:Int)))))))))) <|
  .sp ((↑k3:Int)=(0:Int))
  (.run (cs 4 (oa::oc::tc::(cs 3 [bt,oc]))) (fun γ=>k2 (Gu γ.2) (Gb tT)) <|
  .leaf (.inr (.inl ())) [])
  (.run (cs 4 (oa::oc::oF::(cs 3 []))) (fun γ=>Gb (Gz γ.2)) <|
  .sp ((x35.toNat:Int)=(45:Int))
  (.run [bf] (fun γ=>Gb (Gx (Gu γ.2))) <|
  .gd (GS .i64 ((↑k3:Int)+1)) <| .run [oc,ow,oc] (fun γ=>Gb γ.2) <|
  .leaf (.inl (k3+1)) [])
  (.run [bt,oc] (fun γ=>Gb (Gy (Gz γ.2))) <|
  .leaf (.inr (.inl ())) []))))
  (.run (cs 2 ((oN (.i k3))::(.tr (.eqt (.t 32) (.int .u8 (x35.toNat:Int))))::oa::oc::oF::(cs 7 ((oN (.i k3))::(.tr (.eqt (.t 43) (.int .u8 (x35.toNat:Int))))::oa::(cs 2 []))))) (fun γ=>k2 (ir γ.1.1.2) (k2 ((HB γ.1.1.2):(.int .u8 ((List.getD s_0 k3 0).toNat:Int):AV)=.int .u8 (x35.toNat:Int)) (k2 (dF γ.2) (k2 (ir γ.1.1.2) (Gb ((HB γ.1.1.2):(.int .u8 ((List.getD s_0 k3 0).toNat:Int):AV)=.int .u8 (x35.toNat:Int))))))) <|
  .sp ((↑k3:Int)=(0:Int))
  (.run (cs 4 (oa::oc::tc::(cs 3 [bt,oc]))) (fun γ=>k2 (Gu γ.2) (Gb tT)) <|
  .leaf (.inr (.inl ())) [])
  (.run (cs 4 (oa::oc::oF::(cs 3 []))) (fun γ=>Gb (Gz γ.2)) <|
  .sp ((x35.toNat:Int)=(45:Int))
  (.run [bf] (fun γ=>Gb (Gx (Gu γ.2))) <|
  .gd (GS .i64 ((↑k3:Int)+1)) <| .run [oc,ow,oc] (fun γ=>Gb γ.2) <|
  .leaf (.inl (k3+1)) [])
  (.run [bt,oc] (fun γ=>Gb (Gy (Gz γ.2))) <|
  .leaf (.inr (.inl ())) [])))))
  (.run [bf] (fun γ=>Gb (dF γ.2)) <|
  .leaf (.inr (.inr (()))) [])
def Qo (s_0:(List UInt8)):Nat→Option (Nat⊕(Unit⊕Unit)):=fun s=>(Gai s_0 s).den
def GkZ (s_0:(List UInt8)):Nat→PS:=fun s=>(56,[(0,.str s_0),(3,jI (↑s:Int))],[])
def Gk1:(Unit⊕Unit)→Hm:=fun q=>match q with | Sum.inl o=>.ret | Sum.inr (o)=>(.exit 0)
def Gk0 (s_0:(List UInt8)):(Unit⊕Unit)→List (Nat×AV):=fun q=>match q with | Sum.inl o=>[(2,.bool false)] | Sum.inr (o)=>[]
def GkY (s_0:(List UInt8)):(Unit⊕Unit)→List Hb:=fun _=>[]
theorem GfH (s_0:(List UInt8)) {s:Nat} {r:Unit⊕Unit} (h:lp (Qo s_0) s=some r):DT 0 (.loop (GK Tryz.prog 42 [1,1,0,1,0,0])) (GkZ s_0 s).st (Gk1 r) (PS.st (56,Gk0 s_0 r,GkY s_0 r)):=
 GN.lp_ht 0 400 (GkZ s_0) Gk1 (fun q=>(56,Gk0 s_0 q,GkY s_0 q)) (Gai s_0) (by intro k3; kernel_rfl) h
def Gmr (s_0:(List UInt8)):HT Bool True:=.run [oc] (fun _=>Hg) <|
  .sp ((↑s_0.length:Int)<(1:Int))
  (.run (cs 2 (oa::oc::tc::(cs 3 [bt,oc]))) (fun γ=>k2 (dT γ.2) (Gb tT)) <|
  .leaf false [])
  (.run (cs 2 [oa,oc,oF,oc,oa,oc]) (fun γ=>Gb (dF γ.2)) <|
  .sp ((↑s_0.length:Int)>(12:Int))
  (.run [bt,oc] (fun γ=>Gb (dT γ.2)) <|
  .leaf false [])
  (.run [bf,oc] (fun γ=>Gb (dF γ.2)) <|
  .bd (lp (Qo s_0) (0:Nat)) fun qq=>.cs qq (fun o3=>.run [.fcut 0 .ret [(2,.bool false)] [] [] [(0,.any),(3,jI (↑(0:Nat):Int))] []] (fun γ=>k2 (rfl:(jI 0:AV)=jI (↑(0:Nat):Int)) (Gb (GfH s_0 (s:=(0:Nat)) (r:=Sum.inl o3) (eS γ.1.2 γ.2)))) <|
  .leaf false [])
  (fun o3=>.run [.fcut 0 (.exit 0) [] [] [] [(0,.any),(3,jI (↑(0:Nat):Int))] [],oc] (fun γ=>k2 (rfl:(jI 0:AV)=jI (↑(0:Nat):Int)) (Gb (GfH s_0 (s:=(0:Nat)) (r:=Sum.inr (o3)) (eS γ.1.2 γ.2)))) <|
  .leaf true [])))
def M8 (s_0:(List UInt8)):Option Bool:=(Gmr s_0).den
theorem Jc (s_0:(List UInt8)) (r:Bool) (h:M8 s_0=some r):RT 42 [.str s_0] (.bool r) []:=
 HA.of_ht 400 (Gmr s_0) (fun (r:Bool)=>.bool r) (fun (r:Bool)=>[]) (by kernel_rfl) h
def VY (s_0:(List UInt8)):Nat→HT (Nat⊕(Unit⊕Unit)) True
 | k3=>.run (cs 3 [oa]) (fun _=>Hg) <|
  .sp ((↑k3:Int)<(↑s_0.length:Int))
  (.run [bt] (fun γ=>Gb (dT γ.2)) <|
  .bd (s_0[k3]?) fun x29=>.run (cs 2 [oN (.i k3),.tr (.eqt (.t 31) (.int .u8 (x29.toNat:Int))),oc]) (fun γ=>k2 (ir γ.2) (Gb ((HB γ.2):(.int .u8 ((List.getD s_0 k3 0).toNat:Int):AV)=.int .u8 (x29.toNat:Int)))) <|
  .sp ((x29.toNat:Int)≥(97:Int))
  (.sp ((x29.toNat:Int)≤(122:Int))
  (.run (oc::oa::oc::tc::oa::(cs 2 (tc::(cs 11 [bf])))) (fun γ=>k2 (dT γ.1.2) (k2 (dT γ.2) (Gb fF))) <|
  .gd (GS .i64 ((↑k3:Int)+1)) <| .run [oc,ow,oc] (fun γ=>Gb γ.2) <|
  .leaf (.inl (k3+1)) [])
  (.sp ((x29.toNat:Int)≥(48:Int))
  (.sp ((x29.toNat:Int)≤(57:Int))
  (.run (oc::oa::oc::tc::oa::(cs 2 (oF::oa::oc::tc::oa::(cs 3 (tc::(cs 3 [bf])))))) (fun γ=>k2 (dT (G0 γ)) (k2 (dF γ.1.1.2) (k2 (dT γ.1.2) (k2 (dT γ.2) (Gb fF))))) <|
  .gd (GS .i64 ((↑k3:Int)+1)) <| .run [oc,ow,oc] (fun γ=>Gb γ.2) <|
  .leaf (.inl (k3+1)) [])
  (.run (oc::oa::oc::tc::oa::(cs 2 (oF::oa::oc::tc::oa::(cs 3 (oF::oa::(cs 2 [])))))) (fun γ=>k2 (dT (G0 γ)) (k2 (dF γ.1.1.2) (k2 (dT γ.1.2) (Gb (dF γ.2))))) <|
  .sp ((x29.toNat:Int)=(45:Int))
  (.run [bf] (fun γ=>Gb (Gx (Gu γ.2))) <|
  .gd (GS .i64 ((↑k3:Int)+1)) <| .run [oc,ow,oc] (fun γ=>Gb γ.2) <|
  .leaf (.inl (k3+1)) [])
  (.run [bt,oc] (fun γ=>Gb (Gy (Gz γ.2))) <|
  .leaf (.inr (.inl ())) [])))
  (.run (oc::oa::oc::tc::oa::(cs 2 (oF::oa::oc::oF::(cs 5 (oa::(cs 2 [])))))) (fun γ=>k2 (dT γ.1.1.2) (k2 (dF γ.1.2) (Gb (dF γ.2)))) <|
  .sp ((x29.toNat:Int)=(45:Int))
  (.run [bf] (fun γ=>Gb (Gx (Gu γ.2))) <|
  .gd (GS .i64 ((↑k3:Int)+1)) <| .run [oc,ow,oc] (fun γ=>Gb γ.2) <|
  .leaf (.inl (k3+1)) [])
  (.run [bt,oc] (fun γ=>Gb (Gy (Gz γ.2))) <|
  .leaf (.inr (.inl ())) []))))
  (.sp ((x29.toNat:Int)≥(48:Int))
  (.sp ((x29.toNat:Int)≤(57:Int))
  (.run (oc::oa::oc::oF::(cs 4 (oa::oc::tc::oa::(cs 3 (tc::(cs 3 [bf])))))) (fun γ=>k2 (dF γ.1.1.2) (k2 (dT γ.1.2) (k2 (dT γ.2) (Gb fF)))) <|
  .gd (GS .i64 ((↑k3:Int)+1)) <| .run [oc,ow,oc] (fun γ=>Gb γ.2) <|
  .leaf (.inl (k3+1)) [])
  (.run (oc::oa::oc::oF::(cs 4 (oa::oc::tc::oa::(cs 3 (oF::oa::(cs 2 [])))))) (fun γ=>k2 (dF γ.1.1.2) (k2 (dT γ.1.2) (Gb (dF γ.2)))) <|
  .sp ((x29.toNat:Int)=(45:Int))
  (.run [bf] (fun γ=>Gb (Gx (Gu γ.2))) <|
  .gd (GS .i64 ((↑k3:Int)+1)) <| .run [oc,ow,oc] (fun γ=>Gb γ.2) <|
  .leaf (.inl (k3+1)) [])
  (.run [bt,oc] (fun γ=>Gb (Gy (Gz γ.2))) <|
  .leaf (.inr (.inl ())) [])))
  (.run (oc::oa::oc::oF::(cs 4 (oa::oc::oF::(cs 5 (oa::(cs 2 [])))))) (fun γ=>k2 (dF γ.1.2) (Gb (dF γ.2))) <|
  .sp ((x29.toNat:Int)=(45:Int))
  (.run [bf] (fun γ=>Gb (Gx (Gu γ.2))) <|
  .gd (GS .i64 ((↑k3:Int)+1)) <| .run [oc,ow,oc] (fun γ=>Gb γ.2) <|
  .leaf (.inl (k3+1)) [])
  (.run [bt,oc] (fun γ=>Gb (Gy (Gz γ.2))) <|
  .leaf (.inr (.inl ())) []))))
  (.run [bf] (fun γ=>Gb (dF γ.2)) <|
  .leaf (.inr (.inr (()))) [])
def K8 (s_0:(List UInt8)):Nat→Option (Nat⊕(Unit⊕Unit)):=fun s=>(VY s_0 s).den
def GgD (s_0:(List UInt8)):Nat→PS:=fun s=>(51,[(0,.str s_0),(3,jI (↑s:Int))],[])
def GgF:(Unit⊕Unit)→Hm:=fun q=>match q with | Sum.inl o=>.ret | Sum.inr (o)=>(.exit 0)
def GgE (s_0:(List UInt8)):(Unit⊕Unit)→List (Nat×AV):=fun q=>match q with | Sum.inl o=>[(2,.bool false)] | Sum.inr (o)=>[]
def GgC (s_0:(List UInt8)):(Unit⊕Unit)→List Hb:=fun _=>[]
theorem Gcr (s_0:(List UInt8)) {s:Nat} {r:Unit⊕Unit} (h:lp (K8 s_0) s=some r):DT 0 (.loop (GK Tryz.prog 97 [1,1,0,1,0,0])) (GgD s_0 s).st (GgF r) (PS.st (51,GgE s_0 r,GgC s_0 r)):=
 GN.lp_ht 0 400 (GgD s_0) GgF (fun q=>(51,GgE s_0 q,GgC s_0 q)) (VY s_0) (by intro k3; kernel_rfl) h
def GgG (s_0:(List UInt8)):HT Bool True:=.run [oc] (fun _=>Hg) <|
  .sp ((↑s_0.length:Int)<(1:Int))
  (.run (cs 2 (oa::oc::tc::(cs 13 [bt,oc]))) (fun γ=>k2 (dT γ.2) (Gb tT)) <|
  .leaf false [])
  (.sp ((↑s_0.length:Int)>(12:Int))
  (.run (cs 2 (oa::oc::oF::oc::oa::(cs 2 (tc::(cs 8 [bt,oc]))))) (fun γ=>k2 (dF γ.1.2) (k2 (dT γ.2) (Gb tT))) <|
  .leaf false [])
  (.bd (s_0[0]?) fun x3=>.sp ((x3.toNat:Int)<(97:Int))
  (.run (cs 2 (oa::oc::oF::oc::oa::(cs 2 (oF::(oN (.i 0))::(.tr (.eqt (.t 15) (.int .u8 (x3.toNat:Int))))::oa::(cs 2 (tc::(cs 3 [bt,oc]))))))) (fun γ=>k2 (dF (G0 γ)) (k2 (dF γ.1.1.2) (k2 (ir γ.1.2) (k2 ((HB γ.1.2):(.int .u8 ((List.getD s_0 0 0).toNat:Int):AV)=.int .u8 (x3.toNat:Int)) (k2 (dT γ.2) (Gb tT)))))) <|
  .leaf false [])
  (.run (cs 2 (oa::oc::oF::oc::oa::(cs 2 (oF::(oN (.i 0))::(.tr (.eqt (.t 15) (.int .u8 (x3.toNat:Int))))::oa::(cs 2 [oF,oN (.i 0),.tr (.eqt (.t 20) (.int .u8 (x3.toNat:Int))),oa,oc]))))) (fun γ=>k2 (dF (G0 γ)) (k2 (dF γ.1.1.2) (k2 (ir γ.1.2) (k2 ((HB γ.1.2):(.int .u8 ((List.getD s_0 0 0).toNat:Int):AV)=.int .u8 (x3.toNat:Int)) (k2 (dF γ.2) (k2 (ir γ.1.2) (Gb ((HB γ.1.2):(.int .u8 ((List.getD s_0 0 0).toNat:Int):AV)=.int .u8 (x3.toNat:Int))))))))) <|
  .sp ((x3.toNat:Int)>(122:Int))
  (.run [bt,oc] (fun γ=>Gb (dT γ.2)) <|
  .leaf false [])
  (.run [bf,oc] (fun γ=>Gb (dF γ.2)) <|
  .bd (lp (K8 s_0) (0:Nat)) fun qq=>.cs qq (fun o7=>.run [.fcut 0 .ret [(2,.bool false)] [] [] [(0,.any),(3,jI (↑(0:Nat):Int))] []] (fun γ=>k2 (rfl:(jI 0:AV)=jI (↑(0:Nat):Int)) (Gb (Gcr s_0 (s:=(0:Nat)) (r:=Sum.inl o7) (eS γ.1.2 γ.2)))) <|
  .leaf false [])
  (fun o7=>.run [.fcut 0 (.exit 0) [] [] [] [(0,.any),(3,jI (↑(0:Nat):Int))] [],oc] (fun γ=>k2 (rfl:(jI 0:AV)=jI (↑(0:Nat):Int)) (Gb (Gcr s_0 (s:=(0:Nat)) (r:=Sum.inr (o7)) (eS γ.1.2 γ.2)))) <|
  .leaf true [])))))
def Gij (s_0:(List UInt8)):Option Bool:=(GgG s_0).den
theorem GpL (s_0:(List UInt8)) (r:Bool) (h:Gij s_0=some r):RT 97 [.str s_0] (.bool r) []:=
 HA.of_ht 400 (GgG s_0) (fun (r:Bool)=>.bool r) (fun (r:Bool)=>[]) (by kernel_rfl) h
def Xa (s_0:(List UInt8)):Nat→HT (Nat⊕(Unit⊕Unit)) True
 | k3=>.run (cs 3 [oa]) (fun _=>Hg) <|
  .sp ((↑k3:Int)<(↑s_0.length:Int))
  (.run [bt] (fun γ=>Gb (dT γ.2)) <|
  .bd (s_0[k3]?) fun x29=>.run (cs 2 [oN (.i k3),.tr (.eqt (.t 31) (.int .u8 (x29.toNat:Int))),oc]) (fun γ=>k2 (ir γ.2) (Gb ((HB γ.2):(.int .u8 ((List.getD s_0 k3 0).toNat:Int):AV)=.int .u8 (x29.toNat:Int)))) <|
  .sp ((x29.toNat:Int)≥(97:Int))
  (.sp ((x29.toNat:Int)≤(122:Int))
  (.run (oc::oa::oc::tc::oa::(cs 2 (tc::(cs 11 [bf])))) (fun γ=>k2 (dT γ.1.2) (k2 (dT γ.2) (Gb fF))) <|
  .gd (GS .i64 ((↑k3:Int)+1)) <| .run [oc,ow,oc] (fun γ=>Gb γ.2) <|
  .leaf (.inl (k3+1)) [])
  (.sp ((x29.toNat:Int)≥(48:Int))
  (.sp ((x29.toNat:Int)≤(57:Int))
  (.run (oc::oa::oc::tc::oa::(cs 2 (oF::oa::oc::tc::oa::(cs 3 (tc::(cs 3 [bf])))))) (fun γ=>k2 (dT (G0 γ)) (k2 (dF γ.1.1.2) (k2 (dT γ.1.2) (k2 (dT γ.2) (Gb fF))))) <|
  .gd (GS .i64 ((↑k3:Int)+1)) <| .run [oc,ow,oc] (fun γ=>Gb γ.2) <|
  .leaf (.inl (k3+1)) [])
  (.run (oc::oa::oc::tc::oa::(cs 2 (oF::oa::oc::tc::oa::(cs 3 (oF::oa::(cs 2 [])))))) (fun γ=>k2 (dT (G0 γ)) (k2 (dF γ.1.1.2) (k2 (dT γ.1.2) (Gb (dF γ.2))))) <|
  .sp ((x29.toNat:Int)=(45:Int))
  (.run [bf] (fun γ=>Gb (Gx (Gu γ.2))) <|
  .gd (GS .i64 ((↑k3:Int)+1)) <| .run [oc,ow,oc] (fun γ=>Gb γ.2) <|
  .leaf (.inl (k3+1)) [])
  (.run [bt,oc] (fun γ=>Gb (Gy (Gz γ.2))) <|
  .leaf (.inr (.inl ())) [])))
  (.run (oc::oa::oc::tc::oa::(cs 2 (oF::oa::oc::oF::(cs 5 (oa::(cs 2 [])))))) (fun γ=>k2 (dT γ.1.1.2) (k2 (dF γ.1.2) (Gb (dF γ.2)))) <|
  .sp ((x29.toNat:Int)=(45:Int))
  (.run [bf] (fun γ=>Gb (Gx (Gu γ.2))) <|
  .gd (GS .i64 ((↑k3:Int)+1)) <| .run [oc,ow,oc] (fun γ=>Gb γ.2) <|
  .leaf (.inl (k3+1)) [])
  (.run [bt,oc] (fun γ=>Gb (Gy (Gz γ.2))) <|
  .leaf (.inr (.inl ())) []))))
  (.sp ((x29.toNat:Int)≥(48:Int))
  (.sp ((x29.toNat:Int)≤(57:Int))
  (.run (oc::oa::oc::oF::(cs 4 (oa::oc::tc::oa::(cs 3 (tc::(cs 3 [bf])))))) (fun γ=>k2 (dF γ.1.1.2) (k2 (dT γ.1.2) (k2 (dT γ.2) (Gb fF)))) <|
  .gd (GS .i64 ((↑k3:Int)+1)) <| .run [oc,ow,oc] (fun γ=>Gb γ.2) <|
  .leaf (.inl (k3+1)) [])
  (.run (oc::oa::oc::oF::(cs 4 (oa::oc::tc::oa::(cs 3 (oF::oa::(cs 2 [])))))) (fun γ=>k2 (dF γ.1.1.2) (k2 (dT γ.1.2) (Gb (dF γ.2)))) <|
  .sp ((x29.toNat:Int)=(45:Int))
  (.run [bf] (fun γ=>Gb (Gx (Gu γ.2))) <|
  .gd (GS .i64 ((↑k3:Int)+1)) <| .run [oc,ow,oc] (fun γ=>Gb γ.2) <|
  .leaf (.inl (k3+1)) [])
  (.run [bt,oc] (fun γ=>Gb (Gy (Gz γ.2))) <|
  .leaf (.inr (.inl ())) [])))
  (.run (oc::oa::oc::oF::(cs 4 (oa::oc::oF::(cs 5 (oa::(cs 2 [])))))) (fun γ=>k2 (dF γ.1.2) (Gb (dF γ.2))) <|
  .sp ((x29.toNat:Int)=(45:Int))
  (.run [bf] (fun γ=>Gb (Gx (Gu γ.2))) <|
  .gd (GS .i64 ((↑k3:Int)+1)) <| .run [oc,ow,oc] (fun γ=>Gb γ.2) <|
  .leaf (.inl (k3+1)) [])
  (.run [bt,oc] (fun γ=>Gb (Gy (Gz γ.2))) <|
  .leaf (.inr (.inl ())) []))))
  (.run [bf] (fun γ=>Gb (dF γ.2)) <|
  .leaf (.inr (.inr (()))) [])
def Mc (s_0:(List UInt8)):Nat→Option (Nat⊕(Unit⊕Unit)):=fun s=>(Xa s_0 s).den
def Ghi (s_0:(List UInt8)):Nat→PS:=fun s=>(51,[(0,.str s_0),(3,jI (↑s:Int))],[])
def Ghk:(Unit⊕Unit)→Hm:=fun q=>match q with | Sum.inl o=>.ret | Sum.inr (o)=>(.exit 0)
def Ghj (s_0:(List UInt8)):(Unit⊕Unit)→List (Nat×AV):=fun q=>match q with | Sum.inl o=>[(2,.bool false)] | Sum.inr (o)=>[]
def Ghh (s_0:(List UInt8)):(Unit⊕Unit)→List Hb:=fun _=>[]
theorem GcJ (s_0:(List UInt8)) {s:Nat} {r:Unit⊕Unit} (h:lp (Mc s_0) s=some r):DT 0 (.loop (GK Tryz.prog 88 [1,1,0,1,0,0])) (Ghi s_0 s).st (Ghk r) (PS.st (51,Ghj s_0 r,Ghh s_0 r)):=
 GN.lp_ht 0 400 (Ghi s_0) Ghk (fun q=>(51,Ghj s_0 q,Ghh s_0 q)) (Xa s_0) (by intro k3; kernel_rfl) h
def Ghl (s_0:(List UInt8)):HT Bool True:=.run [oc] (fun _=>Hg) <|
  .sp ((↑s_0.length:Int)<(1:Int))
  (.run (cs 2 (oa::oc::tc::(cs 13 [bt,oc]))) (fun γ=>k2 (dT γ.2) (Gb tT)) <|
  .leaf false [])
  (.sp ((↑s_0.length:Int)>(12:Int))
  (.run (cs 2 (oa::oc::oF::oc::oa::(cs 2 (tc::(cs 8 [bt,oc]))))) (fun γ=>k2 (dF γ.1.2) (k2 (dT γ.2) (Gb tT))) <|
  .leaf false [])
  (.bd (s_0[0]?) fun x3=>.sp ((x3.toNat:Int)<(97:Int))
  (.run (cs 2 (oa::oc::oF::oc::oa::(cs 2 (oF::(oN (.i 0))::(.tr (.eqt (.t 15) (.int .u8 (x3.toNat:Int))))::oa::(cs 2 (tc::(cs 3 [bt,oc]))))))) (fun γ=>k2 (dF (G0 γ)) (k2 (dF γ.1.1.2) (k2 (ir γ.1.2) (k2 ((HB γ.1.2):(.int .u8 ((List.getD s_0 0 0).toNat:Int):AV)=.int .u8 (x3.toNat:Int)) (k2 (dT γ.2) (Gb tT)))))) <|
  .leaf false [])
  (.run (cs 2 (oa::oc::oF::oc::oa::(cs 2 (oF::(oN (.i 0))::(.tr (.eqt (.t 15) (.int .u8 (x3.toNat:Int))))::oa::(cs 2 [oF,oN (.i 0),.tr (.eqt (.t 20) (.int .u8 (x3.toNat:Int))),oa,oc]))))) (fun γ=>k2 (dF (G0 γ)) (k2 (dF γ.1.1.2) (k2 (ir γ.1.2) (k2 ((HB γ.1.2):(.int .u8 ((List.getD s_0 0 0).toNat:Int):AV)=.int .u8 (x3.toNat:Int)) (k2 (dF γ.2) (k2 (ir γ.1.2) (Gb ((HB γ.1.2):(.int .u8 ((List.getD s_0 0 0).toNat:Int):AV)=.int .u8 (x3.toNat:Int))))))))) <|
  .sp ((x3.toNat:Int)>(122:Int))
  (.run [bt,oc] (fun γ=>Gb (dT γ.2)) <|
  .leaf false [])
  (.run [bf,oc] (fun γ=>Gb (dF γ.2)) <|
  .bd (lp (Mc s_0) (0:Nat)) fun qq=>.cs qq (fun o7=>.run [.fcut 0 .ret [(2,.bool false)] [] [] [(0,.any),(3,jI (↑(0:Nat):Int))] []] (fun γ=>k2 (rfl:(jI 0:AV)=jI (↑(0:Nat):Int)) (Gb (GcJ s_0 (s:=(0:Nat)) (r:=Sum.inl o7) (eS γ.1.2 γ.2)))) <|
  .leaf false [])
  (fun o7=>.run [.fcut 0 (.exit 0) [] [] [] [(0,.any),(3,jI (↑(0:Nat):Int))] [],oc] (fun γ=>k2 (rfl:(jI 0:AV)=jI (↑(0:Nat):Int)) (Gb (GcJ s_0 (s:=(0:Nat)) (r:=Sum.inr (o7)) (eS γ.1.2 γ.2)))) <|
  .leaf true [])))))
def X7 (s_0:(List UInt8)):Option Bool:=(Ghl s_0).den
theorem Yx (s_0:(List UInt8)) (r:Bool) (h:X7 s_0=some r):RT 88 [.str s_0] (.bool r) []:=
 HA.of_ht 400 (Ghl s_0) (fun (r:Bool)=>.bool r) (fun (r:Bool)=>[]) (by kernel_rfl) h
end
set_option maxHeartbeats 4000000
noncomputable section
theorem GxA (s:List UInt8) (k:Nat) (h:k<s.length) (h2:k<(⟨s.toArray⟩:ByteArray).size):(⟨s.toArray⟩:ByteArray)[k]=s[k]:=by
 show s.toArray[k]=s[k]
 simp
theorem Gmf (s:List UInt8) (k:Nat) (h:k<s.length) (ha:s[k].toNat<128):dec s k=(s[k].toNat,1):=by
 have h2:k<(⟨s.toArray⟩:ByteArray).size:=by simpa [ByteArray.size] using h
 have:=Go.decode_ascii ⟨s.toArray⟩ k h2 (by rw [GxA s k h h2]; exact ha)
 rw [GxA s k h h2] at this
 exact this
theorem GsB (s:List UInt8) (k:Nat) (h:k<s.length) (ha:128≤s[k].toNat):128≤(dec s k).1:=by
 have h2:k<(⟨s.toArray⟩:ByteArray).size:=by simpa [ByteArray.size] using h
 exact (Go.decode_high ⟨s.toArray⟩ k h2 (by rw [GxA s k h h2]; exact ha)).1
def Gfs (k:Nat) (b:Nat):Prop:=(97≤b∧b≤122)∨(k≠0∧((48≤b∧b≤57)∨b=45))
instance (k b:Nat):Decidable (Gfs k b):=by unfold Gfs; infer_instance
def nmN (k:Nat) (x:UInt8):Option Unit:=if Gfs k x.toNat then none else some ()
def nm1 (k:Nat) (x:UInt8):Option Unit:=if Gfs 1 x.toNat then none else some ()
def HR (s:List UInt8):Bool:=decide (1≤s.length∧s.length≤12∧GJ nmN 0 s=none)
theorem JX (s:List UInt8):HS s=some (HR s):=by
 simp only [HS,Gh0,dA,eN,eM]
 have key:lp (Mm s) 0=some (HQ (GJ nmN 0 s)):=by
  refine GP (fun k x hx=>?_) ?_
  ·have hk:=Hl hx
   have hxe:=(List.getElem?_eq_some_iff.1 hx).2
   simp only [Mm,Xp,dA,eN,eM,hk,if_true,Hd]
   unfold nmN
   by_cases ha:x.toNat<128
   ·rw [show dec s k=(x.toNat,1) by rw [Gmf s k hk (by rw [hxe]; exact ha),hxe]]
    grind [K0,Gfs]
   ·have:=GsB s k hk (by rw [hxe]; omega)
    generalize dec s k=q at this
    grind [K0,Gfs]
  ·simp only [Mm,Xp,d1,d3,d6,Nat.lt_irrefl,if_false]
 rw [key]
 unfold HR
 cases s with
 | nil=>simp
 | cons c t=>cases GJ nmN 0 (c::t) <;> simp only [HQ,Hd,eN,eM,List.length_cons] <;> grind
theorem Ms (s:List UInt8):M8 s=some (HR s):=by
 simp only [M8,Gmr,dA,eN,eM]
 by_cases hs:s.length≤12
 ·have key:lp (Qo s) 0=some (HQ (GJ nmN 0 s)):=by
   refine GP (fun k x hx=>?_) ?_
   ·have hk:=Hl hx
    have i1:GS .i64 ((k:Int)+1):=Mh (by omega) (by omega)
    simp only [Qo,Gai,dA,eN,eM,hx,Hd,i1,if_true]
    clear i1
    unfold nmN
    grind [K0,Gfs]
   ·simp only [Qo,Gai,d1,d3,d6]
    rw [if_neg (by omega)]
  rw [key]
  unfold HR
  cases GJ nmN 0 s <;> simp only [HQ,Hd,eN,eM,List.length_cons] <;> grind
 ·unfold HR
  grind
theorem Gs7 {c:UInt8} {t:List UInt8} (h:Gfs 0 c.toNat):GJ nm1 0 (c::t)=GJ nmN 0 (c::t):=
 Gul fun i x hx=>by
  unfold nm1 nmN
  cases i with
  | zero=>simp only [List.getElem?_cons_zero,sJ] at hx; subst hx; grind [Gfs]
  | succ i=>grind [Gfs]
theorem Gyb {c:UInt8} {t:List UInt8} (h:¬ Gfs 0 c.toNat):GJ nmN 0 (c::t)=some ():=by
 unfold GJ nmN
 rw [if_neg h]
theorem GnL (s:List UInt8):Gij s=some (HR s):=by
 simp only [Gij,GgG,dA,eN,eM]
 by_cases hs:s.length≤12
 ·have key:lp (K8 s) 0=some (HQ (GJ nm1 0 s)):=by
   refine GP (fun k x hx=>?_) ?_
   ·have hk:=Hl hx
    have i1:GS .i64 ((k:Int)+1):=Mh (by omega) (by omega)
    simp only [K8,VY,dA,eN,eM,hx,Hd,i1,if_true]
    clear i1
    unfold nm1
    grind [K0,Gfs]
   ·simp only [K8,VY,d1,d3,d6]
    rw [if_neg (by omega)]
  rw [key]
  unfold HR
  cases s with
  | nil=>simp
  | cons c t=>
   by_cases h:Gfs 0 c.toNat
   ·rw [Gs7 h]
    cases GJ nmN 0 (c::t) <;> simp only [HQ,Hd,eN,eM,List.getElem?_cons_zero,List.length_cons] <;> grind [Gfs]
   ·rw [Gyb h]
    simp only [Hd,List.getElem?_cons_zero,List.length_cons]
    grind [Gfs]
 ·unfold HR
  grind
theorem U0 (s:List UInt8):X7 s=some (HR s):=by
 simp only [X7,Ghl,dA,eN,eM]
 by_cases hs:s.length≤12
 ·have key:lp (Mc s) 0=some (HQ (GJ nm1 0 s)):=by
   refine GP (fun k x hx=>?_) ?_
   ·have hk:=Hl hx
    have i1:GS .i64 ((k:Int)+1):=Mh (by omega) (by omega)
    simp only [Mc,Xa,dA,eN,eM,hx,Hd,i1,if_true]
    clear i1
    unfold nm1
    grind [K0,Gfs]
   ·simp only [Mc,Xa,d1,d3,d6]
    rw [if_neg (by omega)]
  rw [key]
  unfold HR
  cases s with
  | nil=>simp
  | cons c t=>
   by_cases h:Gfs 0 c.toNat
   ·rw [Gs7 h]
    cases GJ nmN 0 (c::t) <;> simp only [HQ,Hd,eN,eM,List.getElem?_cons_zero,List.length_cons] <;> grind [Gfs]
   ·rw [Gyb h]
    simp only [Hd,List.getElem?_cons_zero,List.length_cons]
    grind [Gfs]
 ·unfold HR
  grind
end
set_option maxHeartbeats 4000000
set_option maxRecDepth 100000
noncomputable section
open Go Go.Proofs
def RV (n_0:Gf):(Nat×(List ((List UInt8)×Bool)))→HT ((Nat×(List ((List UInt8)×Bool)))⊕((Int×(List ((List UInt8)×Bool)))⊕(List ((List UInt8)×Bool)))) True
 | (k24,b1)=>.run [oa] (fun _=>Hg) <|
  .sp ((↑k24:Int)<(↑n_0.Points.length:Int))
  (.run [bt] (fun γ=>Gb (dT γ.2)) <|
  .bd (n_0.Points[k24]?) fun x57=>.run ((oN (.i k24))::(oN (.v [.str x57.Name,jI x57.Kind,.str x57.System]))::(cs 2 [])) (fun γ=>k2 (ir γ.2) (k2 (GD (f:=Gr.enc) (z:=2) (fun _=>rfl) γ.2) (Gb (GX (f:=Gr.enc) (z:=3) (j:=k24) (fun _=>rfl) γ.2 rfl)))) <|
  .bd (HS x57.Name) fun r59=>.run (cs 2 ((rN [.any] (.bool r59) [])::(cs 2 []))) (fun γ=>Gb (Hh x57.Name r59 γ.2)) <|
  .sp (r59=true)
  (.run [bf] (fun γ=>Gb ((Gx γ.2):(!r59)=false)) <|
  .sp (((X8 fst b1 x57.Name).isSome)=true)
  (.bd (X8 fst b1 x57.Name) fun q63=>.run (cs 3 [oN (.v [.bool q63.2]),oc]) (fun γ=>Gb ((Mq HC (k:=x57.Name) (K3 x57.Name) γ.2):Jp (List.map Hs b1) (.str x57.Name)=some (.bool q63.2))) <|
  .sp (q63.2=true)
  (.run [bt,oc] (fun γ=>Gb γ.2) <|
  .leaf (.inr (.inl (9,b1))) [0,1])
  (.run [bf] (fun γ=>Gb ((Ja γ.2):q63.2=false)) <|
  .sp (x57.Kind<(1:Int))
  (.run (cs 2 (oa::oc::tc::(cs 4 [bt,oc]))) (fun γ=>k2 (dT γ.2) (Gb tT)) <|
  .leaf (.inr (.inl (1,b1))) [0,1])
  (.run (cs 2 (oa::oc::oF::oc::oa::(cs 2 []))) (fun γ=>Gb (dF γ.2)) <|
  .sp (x57.Kind>(4:Int))
  (.run [bt,oc] (fun γ=>Gb (dT γ.2)) <|
  .leaf (.inr (.inl (1,b1))) [0,1])
  (.run [bf] (fun γ=>Gb (dF γ.2)) <|
  .sp (x57.System=[])
  (.run (cs 2 (oa::oc::oF::(cs 5 (bf::(cs 4 [.tr (.mp 1 (List.map Hs (Jb fst b1 (x57.Name,true))))]))))) (fun γ=>k2 (Gx (Gu γ.2)) (k2 fF (Gb ((List.Perm.of_eq (YJ (κ:=fst) HC b1 (x57.Name,true))):List.Perm (ZD (List.map Hs b1) (.str x57.Name) (.bool true)) (List.map Hs (Jb fst b1 (x57.Name,true))))))) <|
  .gd (GS .i64 ((↑k24:Int)+1)) <| .run [ow,oc] (fun γ=>Gb γ.2) <|
  .leaf (.inl ((k24+1),(Jb fst b1 (x57.Name,true)))) [0,1])
  (.bd (HS x57.System) fun r70=>.run (cs 2 (oa::oc::tc::oc::(rN [.any] (.bool r70) [])::(cs 3 []))) (fun γ=>k2 (Gy (Gz γ.1.2)) (Gb (Hh x57.System r70 γ.2))) <|
  .sp (r70=true)
  (.run (bf::(cs 4 [.tr (.mp 1 (List.map Hs (Jb fst b1 (x57.Name,true))))])) (fun γ=>k2 ((Gx γ.2):(!r70)=false) (Gb ((List.Perm.of_eq (YJ (κ:=fst) HC b1 (x57.Name,true))):List.Perm (ZD (List.map Hs b1) (.str x57.Name) (.bool true)) (List.map Hs (Jb fst b1 (x57.Name,true)))))) <|
  .gd (GS .i64 ((↑k24:Int)+1)) <| .run [ow,oc] (fun γ=>Gb γ.2) <|
  .leaf (.inl ((k24+1),(Jb fst b1 (x57.Name,true)))) [0,1])
  (.run [bt,oc] (fun γ=>Gb ((Gy (Ja γ.2)):(!r70)=true)) <|
  .leaf (.inr (.inl (6,b1))) [0,1]))))))
  (.run (cs 3 [oN (.b false),oc,bf]) (fun γ=>k2 ((X9 HC (k:=x57.Name) (K3 x57.Name) (Gio γ.2)):Jp (List.map Hs b1) (.str x57.Name)=none) (Gb fF)) <|
  .sp (x57.Kind<(1:Int))
  (.run (cs 2 (oa::oc::tc::(cs 4 [bt,oc]))) (fun γ=>k2 (dT γ.2) (Gb tT)) <|
  .leaf (.inr (.inl (1,b1))) [0,1])
  (.run (cs 2 (oa::oc::oF::oc::oa::(cs 2 []))) (fun γ=>Gb (dF γ.2)) <|
  .sp (x57.Kind>(4:Int))
  (.run [bt,oc] (fun γ=>Gb (dT γ.2)) <|
  .leaf (.inr (.inl (1,b1))) [0,1])
  (.run [bf] (fun γ=>Gb (dF γ.2)) <|
  .sp (x57.System=[])
  (.run (cs 2 (oa::oc::oF::(cs 5 (bf::(cs 4 [.tr (.mp 1 (List.map Hs (Jb fst b1 (x57.Name,true))))]))))) (fun γ=>k2 (Gx (Gu γ.2)) (k2 fF (Gb ((List.Perm.of_eq (YJ (κ:=fst) HC b1 (x57.Name,true))):List.Perm (ZD (List.map Hs b1) (.str x57.Name) (.bool true)) (List.map Hs (Jb fst b1 (x57.Name,true))))))) <|
  .gd (GS .i64 ((↑k24:Int)+1)) <| .run [ow,oc] (fun γ=>Gb γ.2) <|
  .leaf (.inl ((k24+1),(Jb fst b1 (x57.Name,true)))) [0,1])
  (.bd (HS x57.System) fun r78=>.run (cs 2 (oa::oc::tc::oc::(rN [.any] (.bool r78) [])::(cs 3 []))) (fun γ=>k2 (Gy (Gz γ.1.2)) (Gb (Hh x57.System r78 γ.2))) <|
  .sp (r78=true)
  (.run (bf::(cs 4 [.tr (.mp 1 (List.map Hs (Jb fst b1 (x57.Name,true))))])) (fun γ=>k2 ((Gx γ.2):(!r78)=false) (Gb ((List.Perm.of_eq (YJ (κ:=fst) HC b1 (x57.Name,true))):List.Perm (ZD (List.map Hs b1) (.str x57.Name) (.bool true)) (List.map Hs (Jb fst b1 (x57.Name,true)))))) <|
  .gd (GS .i64 ((↑k24:Int)+1)) <| .run [ow,oc] (fun γ=>Gb γ.2) <|
  .leaf (.inl ((k24+1),(Jb fst b1 (x57.Name,true)))) [0,1])
  (.run [bt,oc] (fun γ=>Gb ((Gy (Ja γ.2)):(!r78)=true)) <|
  .leaf (.inr (.inl (6,b1))) [0,1]))))))
  (.run [bt,oc] (fun γ=>Gb ((Gy (Ja γ.2)):(!r59)=true)) <|
  .leaf (.inr (.inl (6,b1))) [0,1]))
  (.run [bf] (fun γ=>Gb (dF γ.2)) <|
  .leaf (.inr (.inr (b1))) [0,1])
def Jy (n_0:Gf):(Nat×(List ((List UInt8)×Bool)))→Option ((Nat×(List ((List UInt8)×Bool)))⊕((Int×(List ((List UInt8)×Bool)))⊕(List ((List UInt8)×Bool)))):=fun s=>(RV n_0 s).den
def GeP (n_0:Gf):(Nat×(List ((List UInt8)×Bool)))→PS:=fun s=>(117,[(1,.ptr 0 0),(3,.mapr 1),(22,.lst (fl Gr.enc n_0.Points) n_0.Points.length),(23,jI (↑n_0.Points.length:Int)),(24,jI (↑s.1:Int))],[(bT (Gf.enc n_0) 25),(bM .s (List.map Hs s.2))])
def GeR:((Int×(List ((List UInt8)×Bool)))⊕(List ((List UInt8)×Bool)))→Hm:=fun q=>match q with | Sum.inl o=>.ret | Sum.inr (o)=>(.exit 0)
def GeQ (n_0:Gf):((Int×(List ((List UInt8)×Bool)))⊕(List ((List UInt8)×Bool)))→List (Nat×AV):=fun q=>match q with | Sum.inl o=>[(2,jI o.1)] | Sum.inr (o)=>[(1,.ptr 0 0),(3,.mapr 1)]
def RU (n_0:Gf):((Int×(List ((List UInt8)×Bool)))⊕(List ((List UInt8)×Bool)))→List Hb:=fun q=>match q with | Sum.inl o=>[(bT (Gf.enc n_0) 25),(bM .s (List.map Hs o.2))] | Sum.inr (o)=>[(bT (Gf.enc n_0) 25),(bM .s (List.map Hs o))]
theorem Z4 (n_0:Gf) {s:(Nat×(List ((List UInt8)×Bool)))} {r:(Int×(List ((List UInt8)×Bool)))⊕(List ((List UInt8)×Bool))} (h:lp (Jy n_0) s=some r):DT 2 (.loop (GK Tryz.prog 203 [1,1,1,0,1,0,0])) (GeP n_0 s).st (GeR r) (PS.st (117,GeQ n_0 r,RU n_0 r)):=
 GN.lp_ht 2 400 (GeP n_0) GeR (fun q=>(117,GeQ n_0 q,RU n_0 q)) (RV n_0) (by rintro ⟨k24,b1⟩; kernel_rfl) h
def QT (n_0:Gf) (o3:(List ((List UInt8)×Bool))):(Nat×(List (G4×Bool)))→HT ((Nat×(List (G4×Bool)))⊕((Int×(List (G4×Bool)))⊕(List (G4×Bool)))) True
 | (k65,b4)=>.run [oa] (fun _=>Hg) <|
  .sp ((↑k65:Int)<(↑n_0.Links.length:Int))
  (.run [bt] (fun γ=>Gb (dT γ.2)) <|
  .bd (n_0.Links[k65]?) fun x132=>.run ((oN (.i k65))::(oN (.v [.str x132.From,.str x132.To,jI x132.Min,jI x132.Max]))::(cs 9 [])) (fun γ=>k2 (ir γ.2) (k2 (GD (f:=GW.enc) (z:=3) (fun _=>rfl) γ.2) (Gb (GX (f:=GW.enc) (z:=4) (j:=k65) (fun _=>rfl) γ.2 rfl)))) <|
  .sp (((X8 fst o3 x132.From).isSome)=true)
  (.bd (X8 fst o3 x132.From) fun q135=>.sp (q135.2=true)
  (.sp (((X8 fst o3 x132.To).isSome)=true)
  (.bd (X8 fst o3 x132.To) fun q139=>.sp (q139.2=true)
  (.run (cs 3 ((oN (.v [.bool q135.2]))::(cs 2 (oF::(cs 2 ((oN (.v [.bool q139.2]))::(cs 3 (oF::(cs 3 (oa::(cs 2 []))))))))))) (fun γ=>k2 ((Mq HC (k:=x132.From) (K3 x132.From) (HW γ)):Jp (List.map Hs o3) (.str x132.From)=some (.bool q135.2)) (k2 ((Gx (G0 γ)):(!q135.2)=false) (k2 ((Mq HC (k:=x132.To) (K3 x132.To) γ.1.2):Jp (List.map Hs o3) (.str x132.To)=some (.bool q139.2)) (Gb ((Gx γ.2):(!q139.2)=false))))) <|
  .sp (x132.From=x132.To)
  (.run [bt,oc] (fun γ=>Gb (Gu γ.2)) <|
  .leaf (.inr (.inl (16,b4))) [0,1])
  (.run [bf] (fun γ=>Gb (Gz γ.2)) <|
  .sp (((X8 fst b4 (⟨x132.From,x132.To⟩:G4)).isSome)=true)
  (.bd (X8 fst b4 (⟨x132.From,x132.To⟩:G4)) fun q144=>.run (cs 2 [oN (.v [.bool q144.2]),oc]) (fun γ=>Gb ((Mq Mi (k:=(⟨x132.From,x132.To⟩:G4)) (GeU (⟨x132.From,x132.To⟩:G4)) γ.2):Jp (List.map Hr b4) (.agg [.str x132.From,.str x132.To])=some (.bool q144.2))) <|
  .sp (q144.2=true)
  (.run [bt,oc] (fun γ=>Gb γ.2) <|
  .leaf (.inr (.inl (9,b4))) [0,1])
  (.run [bf] (fun γ=>Gb ((Ja γ.2):q144.2=false)) <|
  .sp (x132.Min<(1:Int))
  (.run (cs 2 (oa::oc::tc::(cs 11 [bt,oc]))) (fun γ=>k2 (dT γ.2) (Gb tT)) <|
  .leaf (.inr (.inl (12,b4))) [0,1])
  (.sp (x132.Min>x132.Max)
  (.run (cs 2 (oa::oc::oF::(cs 3 (oa::(cs 2 (tc::(cs 4 [bt,oc]))))))) (fun γ=>k2 (dF γ.1.2) (k2 (dT γ.2) (Gb tT))) <|
  .leaf (.inr (.inl (12,b4))) [0,1])
  (.run (cs 2 (oa::oc::oF::(cs 3 (oa::(cs 2 (oF::oc::oa::(cs 2 []))))))) (fun γ=>k2 (dF γ.1.2) (Gb (dF γ.2))) <|
  .sp (x132.Max>(2147483648:Int))
  (.run [bt,oc] (fun γ=>Gb (dT γ.2)) <|
  .leaf (.inr (.inl (12,b4))) [0,1])
  (.run (bf::(cs 3 [.tr (.mp 1 (List.map Hr (Jb fst b4 ((⟨x132.From,x132.To⟩:G4),true))))])) (fun γ=>k2 (dF γ.2) (Gb ((List.Perm.of_eq (YJ (κ:=fst) Mi b4 ((⟨x132.From,x132.To⟩:G4),true))):List.Perm (ZD (List.map Hr b4) (.agg [.str x132.From,.str x132.To]) (.bool true)) (List.map Hr (Jb fst b4 ((⟨x132.From,x132.To⟩:G4),true)))))) <|
  .gd (GS .i64 ((↑k65:Int)+1)) <| .run [ow,oc] (fun γ=>Gb γ.2) <|
  .leaf (.inl ((k65+1),(Jb fst b4 ((⟨x132.From,x132.To⟩:G4),true)))) [0,1])))))
  (.run (cs 2 [oN (.b false),oc,bf]) (fun γ=>k2 ((X9 Mi (k:=(⟨x132.From,x132.To⟩:G4)) (GeU (⟨x132.From,x132.To⟩:G4)) (Gio γ.2)):Jp (List.map Hr b4) (.agg [.str x132.From,.str x132.To])=none) (Gb fF)) <|
  .sp (x132.Min<(1:Int))
  (.run (cs 2 (oa::oc::tc::(cs 11 [bt,oc]))) (fun γ=>k2 (dT γ.2) (Gb tT)) <|
  .leaf (.inr (.inl (12,b4))) [0,1])
  (.sp (x132.Min>x132.Max)
  (.run (cs 2 (oa::oc::oF::(cs 3 (oa::(cs 2 (tc::(cs 4 [bt,oc]))))))) (fun γ=>k2 (dF γ.1.2) (k2 (dT γ.2) (Gb tT))) <|
  .leaf (.inr (.inl (12,b4))) [0,1])
  (.run (cs 2 (oa::oc::oF::(cs 3 (oa::(cs 2 (oF::oc::oa::(cs 2 []))))))) (fun γ=>k2 (dF γ.1.2) (Gb (dF γ.2))) <|
  .sp (x132.Max>(2147483648:Int))
  (.run [bt,oc] (fun γ=>Gb (dT γ.2)) <|
  .leaf (.inr (.inl (12,b4))) [0,1])
  (.run (bf::(cs 3 [.tr (.mp 1 (List.map Hr (Jb fst b4 ((⟨x132.From,x132.To⟩:G4),true))))])) (fun γ=>k2 (dF γ.2) (Gb ((List.Perm.of_eq (YJ (κ:=fst) Mi b4 ((⟨x132.From,x132.To⟩:G4),true))):List.Perm (ZD (List.map Hr b4) (.agg [.str x132.From,.str x132.To]) (.bool true)) (List.map Hr (Jb fst b4 ((⟨x132.From,x132.To⟩:G4),true)))))) <|
  .gd (GS .i64 ((↑k65:Int)+1)) <| .run [ow,oc] (fun γ=>Gb γ.2) <|
  .leaf (.inl ((k65+1),(Jb fst b4 ((⟨x132.From,x132.To⟩:G4),true)))) [0,1]))))))
  (.run (cs 3 ((oN (.v [.bool q135.2]))::(cs 2 (oF::(cs 2 ((oN (.v [.bool q139.2]))::(cs 3 (tc::(cs 6 [bt,oc]))))))))) (fun γ=>k2 ((Mq HC (k:=x132.From) (K3 x132.From) (HW γ)):Jp (List.map Hs o3) (.str x132.From)=some (.bool q135.2)) (k2 ((Gx (G0 γ)):(!q135.2)=false) (k2 ((Mq HC (k:=x132.To) (K3 x132.To) γ.1.2):Jp (List.map Hs o3) (.str x132.To)=some (.bool q139.2)) (k2 ((Gy (Ja γ.2)):(!q139.2)=true) (Gb tT))))) <|
  .leaf (.inr (.inl (16,b4))) [0,1]))
  (.run (cs 3 ((oN (.v [.bool q135.2]))::(cs 2 (oF::(cs 2 ((oN (.b false))::(cs 10 [bt,oc]))))))) (fun γ=>k2 ((Mq HC (k:=x132.From) (K3 x132.From) γ.1.1.2):Jp (List.map Hs o3) (.str x132.From)=some (.bool q135.2)) (k2 ((Gx γ.1.2):(!q135.2)=false) (k2 ((X9 HC (k:=x132.To) (K3 x132.To) (Gio γ.2)):Jp (List.map Hs o3) (.str x132.To)=none) (Gb tT)))) <|
  .leaf (.inr (.inl (16,b4))) [0,1]))
  (.run (cs 3 ((oN (.v [.bool q135.2]))::(cs 2 (tc::(cs 13 [bt,oc]))))) (fun γ=>k2 ((Mq HC (k:=x132.From) (K3 x132.From) γ.1.2):Jp (List.map Hs o3) (.str x132.From)=some (.bool q135.2)) (k2 ((Gy (Ja γ.2)):(!q135.2)=true) (Gb tT))) <|
  .leaf (.inr (.inl (16,b4))) [0,1]))
  (.run (cs 3 ((oN (.b false))::(cs 16 [bt,oc]))) (fun γ=>k2 ((X9 HC (k:=x132.From) (K3 x132.From) (Gio γ.2)):Jp (List.map Hs o3) (.str x132.From)=none) (Gb tT)) <|
  .leaf (.inr (.inl (16,b4))) [0,1]))
  (.run [bf] (fun γ=>Gb (dF γ.2)) <|
  .leaf (.inr (.inr (b4))) [0,1])
def Jk (n_0:Gf) (o3:(List ((List UInt8)×Bool))):(Nat×(List (G4×Bool)))→Option ((Nat×(List (G4×Bool)))⊕((Int×(List (G4×Bool)))⊕(List (G4×Bool)))):=fun s=>(QT n_0 o3 s).den
def GcX (n_0:Gf) (o3:(List ((List UInt8)×Bool))):(Nat×(List (G4×Bool)))→PS:=fun s=>(117,[(3,.mapr 0),(6,.mapr 1),(63,.lst (fl GW.enc n_0.Links) n_0.Links.length),(64,jI (↑n_0.Links.length:Int)),(65,jI (↑s.1:Int))],[(bM .s (List.map Hs o3)),(bM (.g [.s,.s]) (List.map Hr s.2))])
def GcZ:((Int×(List (G4×Bool)))⊕(List (G4×Bool)))→Hm:=fun q=>match q with | Sum.inl o=>.ret | Sum.inr (o)=>(.exit 3)
def GcY (n_0:Gf) (o3:(List ((List UInt8)×Bool))):((Int×(List (G4×Bool)))⊕(List (G4×Bool)))→List (Nat×AV):=fun q=>match q with | Sum.inl o=>[(2,jI o.1)] | Sum.inr (o)=>[]
def QS (n_0:Gf) (o3:(List ((List UInt8)×Bool))):((Int×(List (G4×Bool)))⊕(List (G4×Bool)))→List Hb:=fun q=>match q with | Sum.inl o=>[(bM .s (List.map Hs o3)),(bM (.g [.s,.s]) (List.map Hr o.2))] | Sum.inr (o)=>[(bM .s (List.map Hs o3)),(bM (.g [.s,.s]) (List.map Hr o))]
theorem Y2 (n_0:Gf) (o3:(List ((List UInt8)×Bool))) {s:(Nat×(List (G4×Bool)))} {r:(Int×(List (G4×Bool)))⊕(List (G4×Bool))} (h:lp (Jk n_0 o3) s=some r):DT 2 (.loop (GK Tryz.prog 203 [1,1,1,1,1,0,1,0,0])) (GcX n_0 o3 s).st (GcZ r) (PS.st (117,GcY n_0 o3 r,QS n_0 o3 r)):=
 GN.lp_ht 2 400 (GcX n_0 o3) GcZ (fun q=>(117,GcY n_0 o3 q,QS n_0 o3 q)) (QT n_0 o3) (by rintro ⟨k65,b4⟩; kernel_rfl) h
def GdQ (n_0:Gf):HT Int True:=.run (cs 2 []) (fun _=>Hg) <|
  .sp ((↑n_0.Points.length:Int)>(64:Int))
  (.run (cs 3 (oa::oc::tc::(cs 4 [bt,oc]))) (fun γ=>k2 (dT γ.2) (Gb tT)) <|
  .leaf 3 [])
  (.run (cs 3 (oa::oc::oF::(cs 2 [oa,oc]))) (fun γ=>Gb (dF γ.2)) <|
  .sp ((↑n_0.Links.length:Int)>(128:Int))
  (.run [bt,oc] (fun γ=>Gb (dT γ.2)) <|
  .leaf 3 [])
  (.run (bf::(cs 6 [])) (fun γ=>Gb (dF γ.2)) <|
  .bd (lp (Jy n_0) ((0:Nat),([]:List ((List UInt8)×Bool)))) fun qq=>.cs qq (fun o3=>.run [.fcut 2 .ret [(2,jI o3.1)] (RU n_0 (Sum.inl o3)) [0,1] [(1,.any),(3,.any),(22,.any),(23,.any),(24,jI (↑(0:Nat):Int))] [bS,bS]] (fun γ=>k2 (rfl:(jI 0:AV)=jI (↑(0:Nat):Int)) (Gb (Z4 n_0 (s:=((0:Nat),([]:List ((List UInt8)×Bool)))) (r:=Sum.inl o3) (eS γ.1.2 γ.2)))) <|
  .leaf o3.1 [])
  (fun o3=>.run ((.fcut 2 (.exit 0) [(1,.ptr 0 0),(3,.mapr 1)] (RU n_0 (Sum.inr (o3))) [0,1] [(1,.any),(3,.any),(22,.any),(23,.any),(24,jI (↑(0:Nat):Int))] [bS,bS])::(cs 6 [])) (fun γ=>k2 (rfl:(jI 0:AV)=jI (↑(0:Nat):Int)) (Gb (Z4 n_0 (s:=((0:Nat),([]:List ((List UInt8)×Bool)))) (r:=Sum.inr (o3)) (eS γ.1.2 γ.2)))) <|
  .bd (lp (Jk n_0 o3) ((0:Nat),([]:List (G4×Bool)))) fun qq=>.cs qq (fun o82=>.run [.fcut 2 .ret [(2,jI o82.1)] (QS n_0 o3 (Sum.inl o82)) [1,4] [(3,.any),(6,.any),(63,.any),(64,.any),(65,jI (↑(0:Nat):Int))] [bS,bS]] (fun γ=>k2 (rfl:(jI 0:AV)=jI (↑(0:Nat):Int)) (Gb (Y2 n_0 o3 (s:=((0:Nat),([]:List (G4×Bool)))) (r:=Sum.inl o82) (eS γ.1.2 γ.2)))) <|
  .leaf o82.1 [])
  (fun o82=>.run [.fcut 2 (.exit 3) [] (QS n_0 o3 (Sum.inr (o82))) [1,4] [(3,.any),(6,.any),(63,.any),(64,.any),(65,jI (↑(0:Nat):Int))] [bS,bS],oc] (fun γ=>k2 (rfl:(jI 0:AV)=jI (↑(0:Nat):Int)) (Gb (Y2 n_0 o3 (s:=((0:Nat),([]:List (G4×Bool)))) (r:=Sum.inr (o82)) (eS γ.1.2 γ.2)))) <|
  .leaf 0 []))))
def Y1 (n_0:Gf):Option Int:=(GdQ n_0).den
theorem GfN (n_0:Gf) (r:Int) (h:Y1 n_0=some r):RT 203 [.agg (Gf.enc n_0)] (jI r) []:=
 HA.of_ht 400 (GdQ n_0) (fun (r:Int)=>jI r) (fun (r:Int)=>[]) (by kernel_rfl) h
def Qv (l_0:(List Gr)) (n_1:Int) (name_2:(List UInt8)):Nat→HT (Nat⊕(Int⊕Unit)) True
 | k7=>.sp ((↑k7:Int)<n_1)
  (.run (cs 2 (oa::oc::tc::(cs 2 [oa,oc]))) (fun γ=>Gb (dT γ.2)) <|
  .sp ((↑k7:Int)<(↑l_0.length:Int))
  (.run [bt] (fun γ=>Gb (dT γ.2)) <|
  .bd (l_0[k7]?) fun x10=>.run (cs 2 [oN (.i k7),oc,oN (.v [.str x10.Name]),oc,oa]) (fun γ=>k2 (ir γ.2) (k2 (GD (f:=Gr.enc) (z:=2) (fun _=>rfl) γ.2) (Gb (GL (f:=Gr.enc) (z:=3) (j:=k7) (a:=0) (n:=1) (fun _=>rfl) γ.2 (by decide) rfl)))) <|
  .sp (x10.Name=name_2)
  (.run (bt::(cs 2 [])) (fun γ=>Gb (Gu γ.2)) <|
  .leaf (.inr (.inl (↑k7:Int))) [])
  (.run [bf] (fun γ=>Gb (Gz γ.2)) <|
  .gd (GS .i64 ((↑k7:Int)+1)) <| .run [oc,ow,oc] (fun γ=>Gb γ.2) <|
  .leaf (.inl (k7+1)) []))
  (.run [bf] (fun γ=>Gb (dF γ.2)) <|
  .leaf (.inr (.inr (()))) []))
  (.run (cs 2 (oa::oc::oF::(cs 4 [bf]))) (fun γ=>k2 (dF γ.2) (Gb fF)) <|
  .leaf (.inr (.inr (()))) [])
def Jj (l_0:(List Gr)) (n_1:Int) (name_2:(List UInt8)):Nat→Option (Nat⊕(Int⊕Unit)):=fun s=>(Qv l_0 n_1 name_2 s).den
def GiH (l_0:(List Gr)) (n_1:Int) (name_2:(List UInt8)):Nat→PS:=fun s=>(27,[(0,.lst (fl Gr.enc l_0) l_0.length),(1,jI n_1),(2,.str name_2),(7,jI (↑s:Int))],[])
def GiJ:(Int⊕Unit)→Hm:=fun q=>match q with | Sum.inl o=>.ret | Sum.inr (o)=>(.exit 0)
def GiI (l_0:(List Gr)) (n_1:Int) (name_2:(List UInt8)):(Int⊕Unit)→List (Nat×AV):=fun q=>match q with | Sum.inl o=>[(6,jI o)] | Sum.inr (o)=>[]
def GiG (l_0:(List Gr)) (n_1:Int) (name_2:(List UInt8)):(Int⊕Unit)→List Hb:=fun _=>[]
theorem Gea (l_0:(List Gr)) (n_1:Int) (name_2:(List UInt8)) {s:Nat} {r:Int⊕Unit} (h:lp (Jj l_0 n_1 name_2) s=some r):DT 0 (.loop (GK Tryz.prog 156 [1,0,1,0,0])) (GiH l_0 n_1 name_2 s).st (GiJ r) (PS.st (27,GiI l_0 n_1 name_2 r,GiG l_0 n_1 name_2 r)):=
 GN.lp_ht 0 400 (GiH l_0 n_1 name_2) GiJ (fun q=>(27,GiI l_0 n_1 name_2 q,GiG l_0 n_1 name_2 q)) (Qv l_0 n_1 name_2) (by intro k7; kernel_rfl) h
def Gfh (l_0:(List Gr)) (n_1:Int) (name_2:(List UInt8)):HT Int True:=.run (cs 2 []) (fun _=>Hg) <|
  .bd (lp (Jj l_0 n_1 name_2) (0:Nat)) fun qq=>.cs qq (fun o1=>.run [.fcut 0 .ret [(6,jI o1)] [] [] [(0,.any),(1,.any),(2,.any),(7,jI (↑(0:Nat):Int))] []] (fun γ=>k2 (rfl:(jI 0:AV)=jI (↑(0:Nat):Int)) (Gb (Gea l_0 n_1 name_2 (s:=(0:Nat)) (r:=Sum.inl o1) (eS γ.1.2 γ.2)))) <|
  .leaf o1 [])
  (fun o1=>.run [.fcut 0 (.exit 0) [] [] [] [(0,.any),(1,.any),(2,.any),(7,jI (↑(0:Nat):Int))] [],oc] (fun γ=>k2 (rfl:(jI 0:AV)=jI (↑(0:Nat):Int)) (Gb (Gea l_0 n_1 name_2 (s:=(0:Nat)) (r:=Sum.inr (o1)) (eS γ.1.2 γ.2)))) <|
  .leaf (-1) [])
def Rl (l_0:(List Gr)) (n_1:Int) (name_2:(List UInt8)):Option Int:=(Gfh l_0 n_1 name_2).den
theorem M9 (l_0:(List Gr)) (n_1:Int) (name_2:(List UInt8)) (r:Int) (h:Rl l_0 n_1 name_2=some r):RT 156 [.lst (fl Gr.enc l_0) l_0.length,jI n_1,.str name_2] (jI r) []:=
 HA.of_ht 400 (Gfh l_0 n_1 name_2) (fun (r:Int)=>jI r) (fun (r:Int)=>[]) (by kernel_rfl) h
def Yn (n_0:Gf):Nat→HT (Nat⊕(Int⊕Unit)) True
 | k3=>.run (cs 4 [oa]) (fun _=>Hg) <|
  .sp ((↑k3:Int)<(↑n_0.Points.length:Int))
  (.run [bt] (fun γ=>Gb (dT γ.2)) <|
  .bd (n_0.Points[k3]?) fun x22=>.run (cs 3 ((oN (.i k3))::(oN (.v [.str x22.Name,jI x22.Kind,.str x22.System]))::(cs 2 []))) (fun γ=>k2 (ir γ.2) (k2 (GD (f:=Gr.enc) (z:=2) (fun _=>rfl) γ.2) (Gb (GX (f:=Gr.enc) (z:=3) (j:=k3) (fun _=>rfl) γ.2 rfl)))) <|
  .bd (M8 x22.Name) fun r24=>.run (cs 2 [rN [.any] (.bool r24) [],oc]) (fun γ=>Gb (Jc x22.Name r24 γ.2)) <|
  .sp (r24=true)
  (.run [bf] (fun γ=>Gb ((Gx γ.2):(!r24)=false)) <|
  .bd (Rl n_0.Points (↑k3:Int) x22.Name) fun r27=>.run (cs 5 [rN [.any,.any,.any] (jI r27) [],oa]) (fun γ=>Gb (M9 n_0.Points (↑k3:Int) x22.Name r27 γ.2)) <|
  .sp (r27≥(0:Int))
  (.run [bt,oc] (fun γ=>Gb (dT γ.2)) <|
  .leaf (.inr (.inl 9)) [0])
  (.run [bf] (fun γ=>Gb (dF γ.2)) <|
  .sp (x22.Kind<(1:Int))
  (.run (cs 2 (oa::oc::tc::(cs 3 [bt,oc]))) (fun γ=>k2 (dT γ.2) (Gb tT)) <|
  .leaf (.inr (.inl 1)) [0])
  (.run (cs 2 [oa,oc,oF,oc,oa,oc]) (fun γ=>Gb (dF γ.2)) <|
  .sp (x22.Kind>(4:Int))
  (.run [bt,oc] (fun γ=>Gb (dT γ.2)) <|
  .leaf (.inr (.inl 1)) [0])
  (.run [bf] (fun γ=>Gb (dF γ.2)) <|
  .sp (x22.System=[])
  (.run (cs 2 (oa::oc::oF::(cs 4 [bf]))) (fun γ=>k2 (Gx (Gu γ.2)) (Gb fF)) <|
  .gd (GS .i64 ((↑k3:Int)+1)) <| .run [oc,ow,oc] (fun γ=>Gb γ.2) <|
  .leaf (.inl (k3+1)) [0])
  (.bd (M8 x22.System) fun r34=>.run (cs 2 (oa::oc::tc::oc::(rN [.any] (.bool r34) [])::(cs 2 []))) (fun γ=>k2 (Gy (Gz γ.1.2)) (Gb (Jc x22.System r34 γ.2))) <|
  .sp (r34=true)
  (.run [bf] (fun γ=>Gb ((Gx γ.2):(!r34)=false)) <|
  .gd (GS .i64 ((↑k3:Int)+1)) <| .run [oc,ow,oc] (fun γ=>Gb γ.2) <|
  .leaf (.inl (k3+1)) [0])
  (.run [bt,oc] (fun γ=>Gb ((Gy (Ja γ.2)):(!r34)=true)) <|
  .leaf (.inr (.inl 6)) [0]))))))
  (.run [bt,oc] (fun γ=>Gb ((Gy (Ja γ.2)):(!r24)=true)) <|
  .leaf (.inr (.inl 6)) [0]))
  (.run [bf] (fun γ=>Gb (dF γ.2)) <|
  .leaf (.inr (.inr (()))) [0])
def MO (n_0:Gf):Nat→Option (Nat⊕(Int⊕Unit)):=fun s=>(Yn n_0 s).den
def GiD (n_0:Gf):Nat→PS:=fun s=>(131,[(1,.ptr 0 0),(3,jI (↑s:Int))],[(bT (Gf.enc n_0) 25)])
def GiF:(Int⊕Unit)→Hm:=fun q=>match q with | Sum.inl o=>.ret | Sum.inr (o)=>(.exit 0)
def GiE (n_0:Gf):(Int⊕Unit)→List (Nat×AV):=fun q=>match q with | Sum.inl o=>[(2,jI o)] | Sum.inr (o)=>[(1,.ptr 0 0)]
def GiC (n_0:Gf):(Int⊕Unit)→List Hb:=fun _=>[(bT (Gf.enc n_0) 25)]
theorem Gd9 (n_0:Gf) {s:Nat} {r:Int⊕Unit} (h:lp (MO n_0) s=some r):DT 1 (.loop (GK Tryz.prog 94 [1,1,0,1,0,0])) (GiD n_0 s).st (GiF r) (PS.st (131,GiE n_0 r,GiC n_0 r)):=
 GN.lp_ht 1 400 (GiD n_0) GiF (fun q=>(131,GiE n_0 q,GiC n_0 q)) (Yn n_0) (by intro k3; kernel_rfl) h
def VW (n_0:Gf) (k5:Nat) (x69:GW):Nat→HT (Nat⊕(Unit⊕Unit)) True
 | k7=>.run (cs 2 [oa]) (fun _=>Hg) <|
  .sp ((↑k7:Int)<(↑k5:Int))
  (.run [bt] (fun γ=>Gb (dT γ.2)) <|
  .bd (n_0.Links[k7]?) fun x87=>.sp (x87.From=x69.From)
  (.run (cs 3 ((oN (.i k7))::oc::(oN (.v [.str x87.From]))::(cs 2 [oa,oc,tc,tc,tc,.op (some true) (.i k7),tc,.op (some true) (.v [.str x87.To]),tc,tc,ta,oN (.b true)]))) (fun γ=>k2 (ir γ.1.2) (k2 (GD (f:=GW.enc) (z:=3) (fun _=>rfl) γ.1.2) (k2 (GL (f:=GW.enc) (z:=4) (j:=k7) (a:=0) (n:=1) (fun _=>rfl) γ.1.2 (by decide) rfl) (k2 (Gu γ.2) (k2 (Gu γ.2) (k2 (Gu γ.2) (k2 (Gu γ.2) (k2 (ir γ.1.2) (k2 (GD (f:=GW.enc) (z:=3) (fun _=>rfl) γ.1.2) (k2 (Gu γ.2) (k2 (Gu γ.2) (k2 (GL (f:=GW.enc) (z:=4) (j:=k7) (a:=1) (n:=1) (fun _=>rfl) γ.1.2 (by decide) rfl) (k2 (Gu γ.2) (k2 (Gu γ.2) (k2 (Gu γ.2) (Gb (Gu γ.2))))))))))))))))) <|
  .sp (x87.To=x69.To)
  (.run [bt,oc] (fun γ=>Gb (Gu γ.2)) <|
  .leaf (.inr (.inl ())) [0,1])
  (.run [bf] (fun γ=>Gb (Gz γ.2)) <|
  .gd (GS .i64 ((↑k7:Int)+1)) <| .run [oc,ow,oc] (fun γ=>Gb γ.2) <|
  .leaf (.inl (k7+1)) [0,1]))
  (.run (cs 3 ((oN (.i k7))::oc::(oN (.v [.str x87.From]))::(cs 2 [oa,oc,oF,oF,oF,oF,oF,oF,oF,oF,oF,oN (.b false),bf]))) (fun γ=>k2 (ir γ.1.2) (k2 (GD (f:=GW.enc) (z:=3) (fun _=>rfl) γ.1.2) (k2 (GL (f:=GW.enc) (z:=4) (j:=k7) (a:=0) (n:=1) (fun _=>rfl) γ.1.2 (by decide) rfl) (k2 (Gz γ.2) (k2 (Gz γ.2) (k2 (Gz γ.2) (k2 (Gz γ.2) (k2 (Gz γ.2) (k2 (Gz γ.2) (k2 (Gz γ.2) (k2 (Gz γ.2) (k2 (Gz γ.2) (k2 (Gz γ.2) (Gb fF)))))))))))))) <|
  .gd (GS .i64 ((↑k7:Int)+1)) <| .run [oc,ow,oc] (fun γ=>Gb γ.2) <|
  .leaf (.inl (k7+1)) [0,1]))
  (.run [bf] (fun γ=>Gb (dF γ.2)) <|
  .leaf (.inr (.inr (()))) [0,1])
def K6 (n_0:Gf) (k5:Nat) (x69:GW):Nat→Option (Nat⊕(Unit⊕Unit)):=fun s=>(VW n_0 k5 x69 s).den
def Ggw (n_0:Gf) (k5:Nat) (x69:GW):Nat→PS:=fun s=>(131,[(1,.ptr 0 0),(5,jI (↑k5:Int)),(6,.ptr 1 0),(7,jI (↑s:Int))],[(bT (Gf.enc n_0) 25),(bT (GW.enc x69) 162)])
def Ggx:(Unit⊕Unit)→Hm:=fun q=>match q with | Sum.inl o=>.ret | Sum.inr (o)=>(.exit 4)
def Ga1 (n_0:Gf) (k5:Nat) (x69:GW):(Unit⊕Unit)→List (Nat×AV):=fun q=>match q with | Sum.inl o=>[(2,jI 9)] | Sum.inr (o)=>[(1,.ptr 0 0),(5,jI (↑k5:Int)),(6,.ptr 1 0)]
def VV (n_0:Gf) (k5:Nat) (x69:GW):(Unit⊕Unit)→List Hb:=fun _=>[(bT (Gf.enc n_0) 25),(bT (GW.enc x69) 162)]
theorem Gcp (n_0:Gf) (k5:Nat) (x69:GW) {s:Nat} {r:Unit⊕Unit} (h:lp (K6 n_0 k5 x69) s=some r):DT 2 (.loop (GK Tryz.prog 94 [1,1,1,0,1,0,0,1,0,0,1,1,0,1,0,0])) (Ggw n_0 k5 x69 s).st (Ggx r) (PS.st (131,Ga1 n_0 k5 x69 r,VV n_0 k5 x69 r)):=
 GN.lp_ht 2 400 (Ggw n_0 k5 x69) Ggx (fun q=>(131,Ga1 n_0 k5 x69 q,VV n_0 k5 x69 q)) (VW n_0 k5 x69) (by intro k7; kernel_rfl) h
def VU (n_0:Gf):Nat→HT (Nat⊕(Int⊕Unit)) True
 | k5=>.run (cs 4 [oa]) (fun _=>Hg) <|
  .sp ((↑k5:Int)<(↑n_0.Links.length:Int))
  (.run [bt] (fun γ=>Gb (dT γ.2)) <|
  .bd (n_0.Links[k5]?) fun x69=>.run (cs 3 ((oN (.i k5))::(oN (.v [.str x69.From,.str x69.To,jI x69.Min,jI x69.Max]))::(cs 2 []))) (fun γ=>k2 (ir γ.2) (k2 (GD (f:=GW.enc) (z:=3) (fun _=>rfl) γ.2) (Gb (GX (f:=GW.enc) (z:=4) (j:=k5) (fun _=>rfl) γ.2 rfl)))) <|
  .bd (Rl n_0.Points 64 x69.From) fun r71=>.sp (r71<(0:Int))
  (.run (cs 4 ((rN [.any,.any,.any] (jI r71) [])::oa::oc::tc::(cs 13 [bt,oc]))) (fun γ=>k2 (M9 n_0.Points 64 x69.From r71 γ.1.2) (k2 (dT γ.2) (Gb tT))) <|
  .leaf (.inr (.inl 16)) [0])
  (.bd (Rl n_0.Points 64 x69.To) fun r74=>.sp (r74<(0:Int))
  (.run (cs 4 ((rN [.any,.any,.any] (jI r71) [])::oa::oc::oF::(cs 3 ((rN [.any,.any,.any] (jI r74) [])::oa::(cs 2 (tc::(cs 5 [bt,oc]))))))) (fun γ=>k2 (M9 n_0.Points 64 x69.From r71 (G0 γ)) (k2 (dF γ.1.1.2) (k2 (M9 n_0.Points 64 x69.To r74 γ.1.2) (k2 (dT γ.2) (Gb tT))))) <|
  .leaf (.inr (.inl 16)) [0])
  (.run (cs 4 ((rN [.any,.any,.any] (jI r71) [])::oa::oc::oF::(cs 3 ((rN [.any,.any,.any] (jI r74) [])::oa::(cs 2 (oF::(cs 3 [oa,oc]))))))) (fun γ=>k2 (M9 n_0.Points 64 x69.From r71 (G0 γ)) (k2 (dF γ.1.1.2) (k2 (M9 n_0.Points 64 x69.To r74 γ.1.2) (Gb (dF γ.2))))) <|
  .sp (x69.From=x69.To)
  (.run [bt,oc] (fun γ=>Gb (Gu γ.2)) <|
  .leaf (.inr (.inl 16)) [0])
  (.run [bf,oc] (fun γ=>Gb (Gz γ.2)) <|
  .bd (lp (K6 n_0 k5 x69) (0:Nat)) fun qq=>.cs qq (fun o78=>.run [.fcut 2 .ret [(2,jI 9)] (VV n_0 k5 x69 (Sum.inl o78)) [0,1] [(1,.any),(5,.any),(6,.any),(7,jI (↑(0:Nat):Int))] [bS,bS]] (fun γ=>k2 (rfl:(jI 0:AV)=jI (↑(0:Nat):Int)) (Gb (Gcp n_0 k5 x69 (s:=(0:Nat)) (r:=Sum.inl o78) (eS γ.1.2 γ.2)))) <|
  .leaf (.inr (.inl 9)) [0])
  (fun o78=>.run [.fcut 2 (.exit 4) (Ga1 n_0 k5 x69 (Sum.inr (o78))) (VV n_0 k5 x69 (Sum.inr (o78))) [0,1] [(1,.any),(5,.any),(6,.any),(7,jI (↑(0:Nat):Int))] [bS,bS]] (fun γ=>k2 (rfl:(jI 0:AV)=jI (↑(0:Nat):Int)) (Gb (Gcp n_0 k5 x69 (s:=(0:Nat)) (r:=Sum.inr (o78)) (eS γ.1.2 γ.2)))) <|
  .sp (x69.Min<(1:Int))
  (.run (cs 2 (oa::oc::tc::(cs 10 [bt,oc]))) (fun γ=>k2 (dT γ.2) (Gb tT)) <|
  .leaf (.inr (.inl 12)) [0])
  (.sp (x69.Max<x69.Min)
  (.run (cs 2 (oa::oc::oF::(cs 3 (oa::(cs 2 (tc::(cs 3 [bt,oc]))))))) (fun γ=>k2 (dF γ.1.2) (k2 (dT γ.2) (Gb tT))) <|
  .leaf (.inr (.inl 12)) [0])
  (.run (cs 2 (oa::oc::oF::(cs 3 (oa::(cs 2 [oF,oc,oa,oc]))))) (fun γ=>k2 (dF γ.1.2) (Gb (dF γ.2))) <|
  .sp (x69.Max>(2147483648:Int))
  (.run [bt,oc] (fun γ=>Gb (dT γ.2)) <|
  .leaf (.inr (.inl 12)) [0])
  (.run [bf] (fun γ=>Gb (dF γ.2)) <|
  .gd (GS .i64 ((↑k5:Int)+1)) <| .run [oc,ow,oc] (fun γ=>Gb γ.2) <|
  .leaf (.inl (k5+1)) [0]))))))))
  (.run [bf] (fun γ=>Gb (dF γ.2)) <|
  .leaf (.inr (.inr (()))) [0])
def K5 (n_0:Gf):Nat→Option (Nat⊕(Int⊕Unit)):=fun s=>(VU n_0 s).den
def Ggt (n_0:Gf):Nat→PS:=fun s=>(131,[(1,.ptr 0 0),(5,jI (↑s:Int))],[(bT (Gf.enc n_0) 25)])
def Ggv:(Int⊕Unit)→Hm:=fun q=>match q with | Sum.inl o=>.ret | Sum.inr (o)=>(.exit 2)
def Ggu (n_0:Gf):(Int⊕Unit)→List (Nat×AV):=fun q=>match q with | Sum.inl o=>[(2,jI o)] | Sum.inr (o)=>[]
def Ggs (n_0:Gf):(Int⊕Unit)→List Hb:=fun _=>[(bT (Gf.enc n_0) 25)]
theorem Gco (n_0:Gf) {s:Nat} {r:Int⊕Unit} (h:lp (K5 n_0) s=some r):DT 1 (.loop (GK Tryz.prog 94 [1,1,1,0,1,0,0])) (Ggt n_0 s).st (Ggv r) (PS.st (131,Ggu n_0 r,Ggs n_0 r)):=
 GN.lp_ht 1 400 (Ggt n_0) Ggv (fun q=>(131,Ggu n_0 q,Ggs n_0 q)) (VU n_0) (by intro k5; kernel_rfl) h
def Gj4 (n_0:Gf):HT Int True:=.run (cs 2 []) (fun _=>Hg) <|
  .sp ((↑n_0.Points.length:Int)>(64:Int))
  (.run (cs 3 (oa::oc::tc::(cs 4 [bt,oc]))) (fun γ=>k2 (dT γ.2) (Gb tT)) <|
  .leaf 3 [])
  (.run (cs 3 (oa::oc::oF::(cs 2 [oa,oc]))) (fun γ=>Gb (dF γ.2)) <|
  .sp ((↑n_0.Links.length:Int)>(128:Int))
  (.run [bt,oc] (fun γ=>Gb (dT γ.2)) <|
  .leaf 3 [])
  (.run [bf,oc] (fun γ=>Gb (dF γ.2)) <|
  .bd (lp (MO n_0) (0:Nat)) fun qq=>.cs qq (fun o3=>.run [.fcut 1 .ret [(2,jI o3)] [(bT (Gf.enc n_0) 25)] [0] [(1,.any),(3,jI (↑(0:Nat):Int))] [bS]] (fun γ=>k2 (rfl:(jI 0:AV)=jI (↑(0:Nat):Int)) (Gb (Gd9 n_0 (s:=(0:Nat)) (r:=Sum.inl o3) (eS γ.1.2 γ.2)))) <|
  .leaf o3 [])
  (fun o3=>.run [.fcut 1 (.exit 0) [(1,.ptr 0 0)] [(bT (Gf.enc n_0) 25)] [0] [(1,.any),(3,jI (↑(0:Nat):Int))] [bS],oc] (fun γ=>k2 (rfl:(jI 0:AV)=jI (↑(0:Nat):Int)) (Gb (Gd9 n_0 (s:=(0:Nat)) (r:=Sum.inr (o3)) (eS γ.1.2 γ.2)))) <|
  .bd (lp (K5 n_0) (0:Nat)) fun qq=>.cs qq (fun o38=>.run [.fcut 1 .ret [(2,jI o38)] [(bT (Gf.enc n_0) 25)] [0] [(1,.any),(5,jI (↑(0:Nat):Int))] [bS]] (fun γ=>k2 (rfl:(jI 0:AV)=jI (↑(0:Nat):Int)) (Gb (Gco n_0 (s:=(0:Nat)) (r:=Sum.inl o38) (eS γ.1.2 γ.2)))) <|
  .leaf o38 [])
  (fun o38=>.run [.fcut 1 (.exit 2) [] [(bT (Gf.enc n_0) 25)] [0] [(1,.any),(5,jI (↑(0:Nat):Int))] [bS],oc] (fun γ=>k2 (rfl:(jI 0:AV)=jI (↑(0:Nat):Int)) (Gb (Gco n_0 (s:=(0:Nat)) (r:=Sum.inr (o38)) (eS γ.1.2 γ.2)))) <|
  .leaf 0 []))))
def Ggr (n_0:Gf):Option Int:=(Gj4 n_0).den
theorem Gk3 (n_0:Gf) (r:Int) (h:Ggr n_0=some r):RT 94 [.agg (Gf.enc n_0)] (jI r) []:=
 HA.of_ht 400 (Gj4 n_0) (fun (r:Int)=>jI r) (fun (r:Int)=>[]) (by kernel_rfl) h
end
set_option maxHeartbeats 4000000
noncomputable section
theorem Gqm {K V:Type} [DecidableEq K] (x:K×V) (k:K):∀ m:List (K×V),X8 fst (Jb fst m x) k=if x.1=k then some x else X8 fst m k
 | []=>by simp only [Jb,X8]
 | y::m=>by
  have ih:=Gqm x k m
  simp only [Jb,X8]
  grind [X8]
def GaO {K:Type} [DecidableEq K] (b:List (K×Bool)) (p:K→Bool):Prop:=∀ k,X8 fst b k=if p k then some (k,true) else none
theorem GaO.nil {K:Type} [DecidableEq K] {p:K→Bool} (h:∀ k,p k=false):GaO ([]:List (K×Bool)) p:=fun k=>by simp [X8,h k]
theorem GaO.put {K:Type} [DecidableEq K] {b:List (K×Bool)} {p p':K→Bool} {x:K} (h:GaO b p) (hp:∀ k,p' k=(p k||decide (x=k))):GaO (Jb fst b (x,true)) p':=fun k=>by
 rw [Gqm,h k,hp k]
 by_cases e:x=k
 ·subst e; simp
 ·simp [e]
theorem Ggi {α:Type} {l:List α} {k:Nat} {x:α} (hx:l[k]?=some x) (p:α→Bool):(l.take (k+1)).any p=((l.take k).any p||p x):=by
 rw [List.take_add_one,hx]
 simp
def Zy (l:List Gr) (name:List UInt8):Bool:=l.any fun y=>decide (y.Name=name)
def ptR (l:List Gr) (k:Nat) (x:Gr):Option Int:=
 if HR x.Name=false then some 6 else if Zy (l.take k) x.Name then some 9 else if x.Kind<1∨x.Kind>4 then some 1 else if x.System≠[]∧HR x.System=false then some 6 else none
def Gux (l:List GW) (a b:List UInt8):Bool:=l.any fun y=>decide (y.From=a∧y.To=b)
def lkR (n:Gf) (k:Nat) (x:GW):Option Int:=
 if Zy n.Points x.From=false∨Zy n.Points x.To=false∨x.From=x.To then some 16 else if Gux (n.Links.take k) x.From x.To then some 9 else if x.Min<1∨x.Max<x.Min∨x.Max>2147483648 then some 12 else none
def Gf9 (n:Gf):Int:=
 if n.Points.length>64∨n.Links.length>128 then 3 else ((GJ (ptR n.Points) 0 n.Points).or (GJ (lkR n) 0 n.Links)).getD 0
theorem Gqo (n:Gf) (hl:n.Points.length≤64):
  (∀ r,GJ (ptR n.Points) 0 n.Points=some r→∃ q,lp (Jy n) (0,[])=some (.inl q)∧q.1=r)∧
  (GJ (ptR n.Points) 0 n.Points=none→∃ q,lp (Jy n) (0,[])=some (.inr q)∧GaO q (Zy n.Points)):=by
 refine GlH (l:=n.Points) (mk:=fun k b=>(k,b)) fst (fun _ _ r b=>(r,b)) (fun k x b=>Jb fst b (x.Name,true)) (fun _ _ _ _=>rfl) (fun k b=>GaO b (Zy (n.Points.take k))) (fun k x b hx hb=>⟨?_,hb.put fun y=>by unfold Zy; rw [Ggi hx]⟩) (fun b hb=>?_) (GaO.nil fun k=>rfl)
 ·have hk:=Hl hx
  have i1:GS .i64 ((k:Int)+1):=Mh (by omega) (by omega)
  have hkl:(k:Int)<(n.Points.length:Int):=by omega
  simp only [Jy,RV,dA,eN,eM,hx,Hd,JX,i1,if_true,hkl,hb x.Name,ptR]
  clear i1 hkl hb
  rcases Hk (Zy (n.Points.take k) x.Name) with hh | hh <;> simp only [hh,if_true,if_false,Bool.false_eq_true,Option.isSome_some,Option.isSome_none,Hd] <;> grind [GwU]
 ·rw [List.take_length] at hb
  refine ⟨b,?_,hb⟩
  simp only [Jy,RV,d3,d6,d1]
  rw [if_neg (by omega)]
theorem Gqn (n:Gf) (hl:n.Links.length≤128) (o:List (List UInt8×Bool)) (ho:GaO o (Zy n.Points)):
  (∀ r,GJ (lkR n) 0 n.Links=some r→∃ q,lp (Jk n o) (0,[])=some (.inl q)∧q.1=r)∧
  (GJ (lkR n) 0 n.Links=none→∃ q,lp (Jk n o) (0,[])=some (.inr q)∧True):=by
 refine GlH (l:=n.Links) (mk:=fun k b=>(k,b)) fst (fun _ _ r b=>(r,b)) (fun k x b=>Jb fst b ((⟨x.From,x.To⟩:G4),true)) (fun _ _ _ _=>rfl) (fun k b=>GaO b (fun e=>Gux (n.Links.take k) e.uf0 e.uf1)) (fun k x b hx hb=>⟨?_,hb.put fun y=>?_⟩) (fun b hb=>?_) (GaO.nil fun k=>rfl)
 ·have hk:=Hl hx
  have i1:GS .i64 ((k:Int)+1):=Mh (by omega) (by omega)
  have hkl:(k:Int)<(n.Links.length:Int):=by omega
  have hb0:=hb ⟨x.From,x.To⟩
  simp only at hb0
  simp only [Jk,QT,dA,eN,eM,hx,Hd,i1,if_true,hkl,ho x.From,ho x.To,hb0,lkR]
  clear i1 hkl hb hb0 ho
  rcases Hk (Zy n.Points x.From) with h1 | h1 <;> rcases Hk (Zy n.Points x.To) with h2 | h2 <;> rcases Hk (Gux (n.Links.take k) x.From x.To) with hh | hh <;>
   simp only [h1,h2,hh,if_true,if_false,Bool.false_eq_true,Option.isSome_some,Option.isSome_none,Hd] <;> grind [GwU]
 ·unfold Gux
  rw [Ggi hx]
  congr 1
  exact decide_eq_decide.2 ⟨fun h=>by obtain ⟨h1,h2⟩:=h; cases y; simp_all,fun h=>by subst h; exact ⟨rfl,rfl⟩⟩
 ·refine ⟨b,?_,trivial⟩
  simp only [Jk,QT,d3,d6,d1]
  rw [if_neg (by omega)]
theorem GhJ (n:Gf):Y1 n=some (Gf9 n):=by
 simp only [Y1,GdQ,dA,eN,eM]
 unfold Gf9
 by_cases h1:n.Points.length>64
 ·rw [if_pos (by omega),if_pos (.inl h1)]
 by_cases h2:n.Links.length>128
 ·rw [if_neg (by omega),if_pos (by omega),if_pos (.inr h2)]
 rw [if_neg (by omega),if_neg (by omega),if_neg (by omega)]
 cases he:GJ (ptR n.Points) 0 n.Points with
 | some r=>
  obtain ⟨q,h3,h4⟩:=(Gqo n (by omega)).1 r he
  rw [h3]; simp only [Hd,eN,d1,Option.some_or,Option.getD_some,h4]
 | none=>
  obtain ⟨o,h3,ho⟩:=(Gqo n (by omega)).2 he
  rw [h3]; simp only [Hd,eM,Option.none_or]
  cases he2:GJ (lkR n) 0 n.Links with
  | some r=>
   obtain ⟨q,h5,h6⟩:=(Gqn n (by omega) o ho).1 r he2
   rw [h5]; simp only [Hd,eN,d1,Option.getD_some,h6]
  | none=>
   obtain ⟨q,h5,_⟩:=(Gqn n (by omega) o ho).2 he2
   rw [h5]; simp only [Hd,eM,d1,Option.getD_none]
theorem GbG (l:List Gr) (n:Nat) (hn:n≤1000) (hl:Sm l) (name:List UInt8):∃ r,Rl l n name=some r∧(0≤r↔Zy (l.take n) name=true):=by
 simp only [Rl,Gfh,dA,eN,eM]
 have key:lp (Jj l n name) 0=some (HQ (GJ (fun k x=>if x.Name=name then some (k:Int) else none) 0 (l.take n))):=by
  have hlen:(l.take n).length=min n l.length:=List.length_take
  refine GP (fun k x hx=>?_) ?_
  ·have hk:=Hl hx
   rw [hlen] at hk
   rw [List.getElem?_take,if_pos (by omega)] at hx
   have i1:GS .i64 ((k:Int)+1):=sm1 hl (by omega)
   have h1:(k:Int)<(n:Int):=by omega
   have h2:(k:Int)<(l.length:Int):=by omega
   simp only [Jj,Qv,dA,eN,eM,hx,Hd,i1,if_true,h1,h2]
   by_cases e:x.Name=name <;> simp only [e,if_true,if_false,K0]
  ·simp only [Jj,Qv,d3,d6,d1,d5]
   by_cases h:n≤l.length
   ·rw [if_neg (by omega)]
   ·rw [if_pos (by omega),if_neg (by omega)]
 rw [key]
 have gen:∀ (m:List Gr) (k:Nat),match GJ (fun k x=>if x.Name=name then some (k:Int) else none) k m with | some r=>0≤r∧Zy m name=true | none=>Zy m name=false:=by
  intro m
  induction m with
  | nil=>intro k; rfl
  | cons x m ih=>
   intro k
   have:=ih (k+1)
   unfold GJ
   by_cases e:x.Name=name
   ·simp [e,Zy]
   ·simp only [e,if_false,Zy,List.any_cons,decide_false,Bool.false_or]
    exact this
 have:=gen (l.take n) 0
 cases he:GJ (fun k x=>if x.Name=name then some (k:Int) else none) 0 (l.take n) with
 | some r=>rw [he] at this; exact ⟨r,rfl,by simp only at this; grind⟩
 | none=>rw [he] at this; exact ⟨-1,rfl,by simp only at this; grind⟩
theorem GhQ (n:Gf):Ggr n=some (Gf9 n):=by
 simp only [Ggr,Gj4,dA,eN,eM]
 unfold Gf9
 by_cases h1:n.Points.length>64
 ·rw [if_pos (by omega),if_pos (.inl h1)]
 by_cases h2:n.Links.length>128
 ·rw [if_neg (by omega),if_pos (by omega),if_pos (.inr h2)]
 rw [if_neg (by omega),if_neg (by omega),if_neg (by omega)]
 have hsm:Sm n.Points:=by show _≤_; omega
 have hsl:Sm n.Links:=by show _≤_; omega
 have k1:lp (MO n) 0=some (HQ (GJ (ptR n.Points) 0 n.Points)):=by
  refine GP (fun k x hx=>?_) ?_
  ·have hk:=Hl hx
   have i1:GS .i64 ((k:Int)+1):=sm1 hsm hk
   have hkl:(k:Int)<(n.Points.length:Int):=by omega
   obtain ⟨r,hr,hr2⟩:=GbG n.Points k (by omega) hsm x.Name
   simp only [MO,Yn,dA,eN,eM,hx,Hd,Ms,hr,i1,if_true,hkl,ptR]
   clear i1 hsm hsl
   rcases Hk (Zy (n.Points.take k) x.Name) with hh | hh <;> rw [hh] at hr2 <;> simp only [hh] <;> grind [K0]
  ·simp only [MO,Yn,d3,d6,d1]
   rw [if_neg (by omega)]
 have k2:lp (K5 n) 0=some (HQ (GJ (lkR n) 0 n.Links)):=by
  refine GP (fun k x hx=>?_) ?_
  ·have hk:=Hl hx
   have i1:GS .i64 ((k:Int)+1):=sm1 hsl hk
   have hkl:(k:Int)<(n.Links.length:Int):=by omega
   have hall:n.Points.take 64=n.Points:=List.take_of_length_le (by omega)
   obtain ⟨r,hr,hr2⟩:=GbG n.Points 64 (by omega) hsm x.From
   obtain ⟨q,hq,hq2⟩:=GbG n.Points 64 (by omega) hsm x.To
   rw [hall] at hr2 hq2
   have hd:lp (K6 n k x) 0=some (HQ (if Gux (n.Links.take k) x.From x.To then some () else none)):=by
    unfold Gux
    rw [← Hq (n.Links.take k) 0]
    refine JW (l:=n.Links) (n:=k) (by omega) (fun j y hj hy=>?_) ?_
    ·have i2:GS .i64 ((j:Int)+1):=sm1 hsl (by omega)
     have hjk:(j:Int)<(k:Int):=by omega
     simp only [K6,VW,dA,eN,eM,hy,Hd,i2,if_true,hjk]
     clear i2 i1 hsm hsl
     grind [K0]
    ·simp only [K6,VW,d3,d6,d1]
     rw [if_neg (by omega)]
   have hr':Rl n.Points 64 x.From=some r:=hr
   have hq':Rl n.Points 64 x.To=some q:=hq
   simp only [K5,VU,dA,eN,eM,hx,Hd,hr',hq',hd,i1,if_true,hkl,lkR]
   clear i1 hsm hsl hd hr hq hr' hq'
   rcases Hk (Zy n.Points x.From) with h1 | h1 <;> rcases Hk (Zy n.Points x.To) with h2 | h2 <;> rcases Hk (Gux (n.Links.take k) x.From x.To) with hh | hh <;> rw [h1] at hr2 <;> rw [h2] at hq2 <;>
    simp only [h1,h2,hh,HQ,Hd,eN,eM,d1,d3,d4,d6,if_true,if_false,Bool.false_eq_true] <;> grind [K0]
  ·simp only [K5,VU,d3,d6,d1]
   rw [if_neg (by omega)]
 rw [k1]
 cases GJ (ptR n.Points) 0 n.Points with
 | some r=>rfl
 | none=>
  simp only [HQ,Hd,eM,k2,Option.none_or]
  cases GJ (lkR n) 0 n.Links <;> rfl
end
end Go.Proofs.YtdifanfcaemokaaGreatDoor.Av
