import Derived.Shelf.Small.Strs
import Derived.Test.YtdifanfcaemokaaGreatDoorPEd
open Prod (fst)
open Int (tdiv tmod)
set_option linter.unusedVariables false
set_option linter.unusedSimpArgs false
namespace Go.Proofs.YtdifanfcaemokaaGreatDoor.Av
noncomputable section
open Go Go.Proofs Go.Shelf
def GuQ:Go.Shelf.Ren:=⟨(fun n=>if n=106 then 202 else if n=213 then 275 else if n=265 then 363 else 0),(fun n=>if n=3 then 3 else if n=9 then 9 else 0),(fun n=>0)⟩
theorem Gz7:Lays.n106 Tryz.prog GuQ:=⟨(by kernel_rfl),(by kernel_rfl),(by kernel_rfl),(by kernel_rfl),(by kernel_rfl),(fun w=>by kernel_rfl),(fun w=>by kernel_rfl),(fun w=>by kernel_rfl),(by kernel_rfl),(fun w=>by kernel_rfl),(fun w=>by kernel_rfl),(fun w=>by kernel_rfl)⟩
def GzV (a b:List UInt8):Option Int:=some (Go.Lib.compareBytes a b)
theorem UT (a b:List UInt8) (r:Int) (h:GzV a b=some r):HA Tryz.prog GT 202 [.str a,.str b] (jI r) []:=by
 obtain rfl:=Option.some.inj h
 refine HA.of_calls fun ro w vs hlt hr hg=>?_
 obtain ⟨x,y,rfl,hx,hy⟩:=Gyl hr
 cases hx with
 | str h1=>
 cases hy with
 | str h2=>
 subst h1; subst h2
 refine (Any.strings_Compare Gz7 _ _ w).mono ?_
 rintro e w' ⟨rfl,rfl⟩
 exact ⟨⟨_,rfl,fun _ _ _=>.int⟩,0,#[],by simp [Go.World.drewN]⟩
end
set_option maxHeartbeats 4000000
set_option maxRecDepth 100000
noncomputable section
open Go Go.Proofs
def ZE (s_0:(List UInt8)) (n_1:Int):Nat→HT (Nat⊕(Unit⊕Unit)) True
 | p0=>.sp (p0<s_0.length)
  (.bd (some (dec s_0 p0)) fun r13=>.run ((oN (.m r13.1 r13.2))::oc::bt::(cs 2 [])) (fun γ=>k2 γ.1.2 (k2 ((Option.some.inj γ.2):Utf8.decode ⟨s_0.toArray⟩ p0=(r13.1,r13.2)) (Gb tT))) <|
  .sp ((↑r13.1:Int)<(48:Int))
  (.run (oc::oa::oc::tc::(cs 2 [bt,oc])) (fun γ=>k2 (dT γ.2) (Gb tT)) <|
  .leaf (.inr (.inl ())) [])
  (.run [oc,oa,oc,oF,oa,oc] (fun γ=>Gb (dF γ.2)) <|
  .sp ((↑r13.1:Int)>(57:Int))
  (.run [bt,oc] (fun γ=>Gb (dT γ.2)) <|
  .leaf (.inr (.inl ())) [])
  (.run [bf] (fun γ=>Gb (dF γ.2)) <|
  .leaf (.inl (p0+r13.2)) [0])))
  (.run [oN (.b false),oc,bf] (fun γ=>k2 γ.2 (Gb fF)) <|
  .leaf (.inr (.inr (()))) [])
def Qg (s_0:(List UInt8)) (n_1:Int):Nat→Option (Nat⊕(Unit⊕Unit)):=fun s=>(ZE s_0 n_1 s).den
def GfU (s_0:(List UInt8)) (n_1:Int):Nat→PS:=fun s=>(22,[(0,.str s_0),(1,jI n_1),(8,.ptr 0 0)],[{ c:=[],e:=0,ext:=false,fz:=0,pl:=true,o:=false,it:=some (.str s_0 s) }])
def GfW:(Unit⊕Unit)→Hm:=fun q=>match q with | Sum.inl o=>.ret | Sum.inr (o)=>(.exit 0)
def GfV (s_0:(List UInt8)) (n_1:Int):(Unit⊕Unit)→List (Nat×AV):=fun q=>match q with | Sum.inl o=>[(4,.bool false)] | Sum.inr (o)=>[(0,.str s_0),(1,jI n_1)]
def GfT (s_0:(List UInt8)) (n_1:Int):(Unit⊕Unit)→List Hb:=fun _=>[]
theorem GbO (s_0:(List UInt8)) (n_1:Int) {s:Nat} {r:Unit⊕Unit} (h:lp (Qg s_0 n_1) s=some r):DT 0 (.loop (GK Tryz.prog 280 [1,0,1,0,0])) (GfU s_0 n_1 s).st (GfW r) (PS.st (22,GfV s_0 n_1 r,GfT s_0 n_1 r)):=
 GN.lp_ht 0 400 (GfU s_0 n_1) GfW (fun q=>(22,GfV s_0 n_1 q,GfT s_0 n_1 q)) (ZE s_0 n_1) (by intro p0; kernel_rfl) h
def Gfx (s_0:(List UInt8)) (n_1:Int):HT Bool True:=.run (cs 3 []) (fun _=>Hg) <|
  .bd (lp (Qg s_0 n_1) (0:Nat)) fun qq=>.cs qq (fun o1=>.run [.fcut 0 .ret [(4,.bool false)] [] [0] [(0,.any),(1,.any),(8,.any)] [{ c:=[],e:=0,ext:=false,fz:=0,pl:=true,o:=false,it:=some (.str s_0 (0:Nat)) }]] (fun γ=>k2 (⟨rfl,rfl⟩:s_0=s_0∧0=(0:Nat)) (Gb (GbO s_0 n_1 (s:=(0:Nat)) (r:=Sum.inl o1) (eS γ.1.2 γ.2)))) <|
  .leaf false [])
  (fun o1=>.run ((.fcut 0 (.exit 0) [(0,.str s_0),(1,jI n_1)] [] [0] [(0,.any),(1,.any),(8,.any)] [{ c:=[],e:=0,ext:=false,fz:=0,pl:=true,o:=false,it:=some (.str s_0 (0:Nat)) }])::(cs 3 [oa,oc])) (fun γ=>k2 (⟨rfl,rfl⟩:s_0=s_0∧0=(0:Nat)) (Gb (GbO s_0 n_1 (s:=(0:Nat)) (r:=Sum.inr (o1)) (eS γ.1.2 γ.2)))) <|
  .leaf ((↑s_0.length:Int)==n_1) [])
def Gfw (s_0:(List UInt8)) (n_1:Int):Option Bool:=(Gfx s_0 n_1).den
theorem GhV (s_0:(List UInt8)) (n_1:Int) (r:Bool) (h:Gfw s_0 n_1=some r):RT 280 [.str s_0,jI n_1] (.bool r) []:=
 HA.of_ht 400 (Gfx s_0 n_1) (fun (r:Bool)=>.bool r) (fun (r:Bool)=>[]) (by kernel_rfl) h
def GdV (s_0:(List UInt8)):(Int×Nat)→HT ((Int×Nat)⊕Int) True
 | (v3,p0)=>.sp (p0<s_0.length)
  (.bd (some (dec s_0 p0)) fun r25=>.run ((oN (.m r25.1 r25.2))::oc::bt::(cs 4 [])) (fun γ=>k2 γ.1.2 (k2 ((Option.some.inj γ.2):Utf8.decode ⟨s_0.toArray⟩ p0=(r25.1,r25.2)) (Gb tT))) <|
  .gd (GS .i32 ((↑r25.1:Int) - 48)) <| .gd (GS .i64 ((↑r25.1:Int) - 48)) <| .run (oc::ow::ow::(cs 2 [oa,oa])) (fun γ=>k2 γ.1.2 (k2 γ.2 (Gb ((by decide):2≠(0:Int))))) <|
  .sp ((tmod (↑p0:Int) 2)=(0:Int))
  (.run [bt] (fun γ=>Gb (Gu γ.2)) <|
  .gd (GS .i64 (((↑r25.1:Int) - 48)*2)) <| .run (oc::ow::(cs 2 [oa])) (fun γ=>Gb γ.2) <|
  .sp ((((↑r25.1:Int) - 48)*2)>(9:Int))
  (.run [bt] (fun γ=>Gb (dT γ.2)) <|
  .gd (GS .i64 ((((↑r25.1:Int) - 48)*2) - 9)) <| .run [oc,ow,oc] (fun γ=>Gb γ.2) <|
  .gd (GS .i64 (v3+((((↑r25.1:Int) - 48)*2) - 9))) <| .run (cs 2 [ow,oc]) (fun γ=>Gb γ.2) <|
  .leaf (.inl ((v3+((((↑r25.1:Int) - 48)*2) - 9)),(p0+r25.2))) [0])
  (.run [bf] (fun γ=>Gb (dF γ.2)) <|
  .gd (GS .i64 (v3+(((↑r25.1:Int) - 48)*2))) <| .run (cs 2 [ow,oc]) (fun γ=>Gb γ.2) <|
  .leaf (.inl ((v3+(((↑r25.1:Int) - 48)*2)),(p0+r25.2))) [0]))
  (.run [bf] (fun γ=>Gb (Gz γ.2)) <|
  .gd (GS .i64 (v3+((↑r25.1:Int) - 48))) <| .run (cs 2 [ow,oc]) (fun γ=>Gb γ.2) <|
  .leaf (.inl ((v3+((↑r25.1:Int) - 48)),(p0+r25.2))) [0]))
  (.run [oN (.b false),oc,bf] (fun γ=>k2 γ.2 (Gb fF)) <|
  .leaf (.inr v3) [])
def R3 (s_0:(List UInt8)):(Int×Nat)→Option ((Int×Nat)⊕Int):=fun s=>(GdV s_0 s).den
def GjR (s_0:(List UInt8)):(Int×Nat)→PS:=fun s=>(29,[(3,jI s.1),(8,.ptr 0 0)],[{ c:=[],e:=0,ext:=false,fz:=0,pl:=true,o:=false,it:=some (.str s_0 s.2) }])
def GjT:Int→Hm:=fun o=>(.exit 0)
def GjS (s_0:(List UInt8)):Int→List (Nat×AV):=fun o=>[(3,jI o)]
def GjQ (s_0:(List UInt8)):Int→List Hb:=fun o=>[]
theorem GmR (s_0:(List UInt8)) {s:(Int×Nat)} {r:Int} (h:lp (R3 s_0) s=some r):DT 0 (.loop (GK Tryz.prog 281 [1,1,0,1,0,0])) (GjR s_0 s).st (GjT r) (PS.st (29,GjS s_0 r,GjQ s_0 r)):=
 GN.lp_ht 0 400 (GjR s_0) GjT (fun q=>(29,GjS s_0 q,GjQ s_0 q)) (GdV s_0) (by rintro ⟨v3,p0⟩; kernel_rfl) h
def Gkz (s_0:(List UInt8)):HT Int True:=.run (cs 4 []) (fun _=>Hg) <|
  .bd (lp (R3 s_0) ((0:Int),(0:Nat))) fun o1=>.run ((.fcut 0 (.exit 0) [(3,jI o1)] [] [0] [(3,jI (0:Int)),(8,.any)] [{ c:=[],e:=0,ext:=false,fz:=0,pl:=true,o:=false,it:=some (.str s_0 (0:Nat)) }])::(cs 2 [])) (fun γ=>k2 (rfl:(jI 0:AV)=jI (0:Int)) (k2 (⟨rfl,rfl⟩:s_0=s_0∧0=(0:Nat)) (Gb (GmR s_0 (s:=((0:Int),(0:Nat))) (r:=o1) γ.2)))) <|
  .leaf o1 []
def Gl1 (s_0:(List UInt8)):Option Int:=(Gkz s_0).den
theorem Gr7 (s_0:(List UInt8)) (r:Int) (h:Gl1 s_0=some r):RT 281 [.str s_0] (jI r) []:=
 HA.of_ht 400 (Gkz s_0) (fun (r:Int)=>jI r) (fun (r:Int)=>[]) (by kernel_rfl) h
def GhU (s_0:(List UInt8)):HT Int True:=.run [oc] (fun _=>Hg) <|
  .bd (Gfw s_0 12) fun r1=>.sp (r1=true)
  (.bd (Gl1 s_0) fun r4=>.run (oc::(rN [.any,.any] (.bool r1) [])::(cs 2 [oF,rN [.any] (jI r4) [],oa,oa,oc])) (fun γ=>k2 (GhV s_0 12 r1 γ.1.1.2) (k2 ((Gx γ.1.2):(!r1)=false) (k2 (Gr7 s_0 r4 γ.2) (Gb ((by decide):10≠(0:Int)))))) <|
  .sp ((tmod r4 10)=(0:Int))
  (.run [bf,oc] (fun γ=>Gb (Gx (Gu γ.2))) <|
  .leaf 0 [])
  (.run [bt,oc] (fun γ=>Gb (Gy (Gz γ.2))) <|
  .leaf 18 []))
  (.run (oc::(rN [.any,.any] (.bool r1) [])::(cs 2 (tc::(cs 4 [bt,oc])))) (fun γ=>k2 (GhV s_0 12 r1 γ.1.2) (k2 ((Gy (Ja γ.2)):(!r1)=true) (Gb tT))) <|
  .leaf 18 [])
def Ge0 (s_0:(List UInt8)):Option Int:=(GhU s_0).den
theorem GjP (s_0:(List UInt8)) (r:Int) (h:Ge0 s_0=some r):RT 211 [.str s_0] (jI r) []:=
 HA.of_ht 400 (GhU s_0) (fun (r:Int)=>jI r) (fun (r:Int)=>[]) (by kernel_rfl) h
def GdU (a_0:Gs) (b_1:Gs):HT Int True:=.run (cs 3 []) (fun _=>Hg) <|
  .bd (GzV a_0.Tag b_1.Tag) fun r1=>.sp (a_0.From=a_0.From)
  (.sp (b_1.From=b_1.From)
  (.sp (a_0.From<b_1.From)
  (.sp (r1=(0:Int))
  (.run (cs 4 ((rN [.any,.any] (jI r1) [])::(cs 11 (oa::(cs 7 (oa::(cs 3 (bf::oc::bf::(cs 2 (oa::bt::(cs 9 (bt::(cs 5 (oa::bf::(cs 3 (bt::(cs 6 (bt::(cs 3 []))))))))))))))))))) (fun γ=>k2 (UT a_0.Tag b_1.Tag r1 (HW γ)) (k2 (Gx (Gu (G0 γ))) (k2 (Gx (Gu γ.1.1.2)) (k2 (dT γ.1.2) (k2 tT (k2 (Gx (Gu γ.2)) (k2 tT (k2 tT (Gb (⟨rfl,trivial⟩:(some (Ob.blk (bT [jI r1,jI (-1)] 3))=some (Ob.blk (bT [jI r1,jI (-1)] 3)))∧True)))))))))) <|
  .leaf (-1) [])
  (.run (cs 4 ((rN [.any,.any] (jI r1) [])::(cs 11 (oa::(cs 7 (oa::(cs 3 (bf::oc::bf::(cs 2 (oa::bt::(cs 9 (bt::(cs 5 (oa::bt::(cs 3 []))))))))))))))) (fun γ=>k2 (UT a_0.Tag b_1.Tag r1 (HW γ)) (k2 (Gx (Gu (G0 γ))) (k2 (Gx (Gu γ.1.1.2)) (k2 (dT γ.1.2) (k2 tT (k2 (Gy (Gz γ.2)) (Gb (⟨rfl,trivial⟩:(some (Ob.blk (bT [jI r1,jI (-1)] 3))=some (Ob.blk (bT [jI r1,jI (-1)] 3)))∧True)))))))) <|
  .leaf r1 []))
  (.sp (a_0.From>b_1.From)
  (.sp (r1=(0:Int))
  (.run (cs 4 ((rN [.any,.any] (jI r1) [])::(cs 11 (oa::(cs 7 (oa::(cs 3 (bf::oc::bf::(cs 2 (oa::bf::(cs 2 (oa::bt::(cs 9 (bt::(cs 5 (oa::bf::(cs 3 (bt::(cs 6 (bt::(cs 3 []))))))))))))))))))))) (fun γ=>k2 (UT a_0.Tag b_1.Tag r1 (RA γ)) (k2 (Gx (Gu (HW γ))) (k2 (Gx (Gu (G0 γ))) (k2 (dF γ.1.1.2) (k2 (dT γ.1.2) (k2 tT (k2 (Gx (Gu γ.2)) (k2 tT (k2 tT (Gb (⟨rfl,trivial⟩:(some (Ob.blk (bT [jI r1,jI 1] 3))=some (Ob.blk (bT [jI r1,jI 1] 3)))∧True))))))))))) <|
  .leaf 1 [])
  (.run (cs 4 ((rN [.any,.any] (jI r1) [])::(cs 11 (oa::(cs 7 (oa::(cs 3 (bf::oc::bf::(cs 2 (oa::bf::(cs 2 (oa::bt::(cs 9 (bt::(cs 5 (oa::bt::(cs 3 []))))))))))))))))) (fun γ=>k2 (UT a_0.Tag b_1.Tag r1 (RA γ)) (k2 (Gx (Gu (HW γ))) (k2 (Gx (Gu (G0 γ))) (k2 (dF γ.1.1.2) (k2 (dT γ.1.2) (k2 tT (k2 (Gy (Gz γ.2)) (Gb (⟨rfl,trivial⟩:(some (Ob.blk (bT [jI r1,jI 1] 3))=some (Ob.blk (bT [jI r1,jI 1] 3)))∧True))))))))) <|
  .leaf r1 []))
  (.sp (r1=(0:Int))
  (.run (cs 4 ((rN [.any,.any] (jI r1) [])::(cs 11 (oa::(cs 7 (oa::(cs 3 (bf::oc::bf::(cs 2 (oa::bf::(cs 2 (oa::bf::(cs 9 (bt::(cs 5 (oa::bf::(cs 3 (bt::(cs 6 (bf::(cs 3 (bf::(cs 3 []))))))))))))))))))))))) (fun γ=>k2 (UT a_0.Tag b_1.Tag r1 (RA γ)) (k2 (Gx (Gu (HW γ))) (k2 (Gx (Gu (G0 γ))) (k2 (dF γ.1.1.2) (k2 (dF γ.1.2) (k2 tT (k2 (Gx (Gu γ.2)) (k2 tT (k2 fF (k2 fF (Gb (⟨rfl,trivial⟩:(some (Ob.blk (bT [jI r1,jI 0] 3))=some (Ob.blk (bT [jI r1,jI 0] 3)))∧True)))))))))))) <|
  .leaf 0 [])
  (.run (cs 4 ((rN [.any,.any] (jI r1) [])::(cs 11 (oa::(cs 7 (oa::(cs 3 (bf::oc::bf::(cs 2 (oa::bf::(cs 2 (oa::bf::(cs 9 (bt::(cs 5 (oa::bt::(cs 3 []))))))))))))))))) (fun γ=>k2 (UT a_0.Tag b_1.Tag r1 (RA γ)) (k2 (Gx (Gu (HW γ))) (k2 (Gx (Gu (G0 γ))) (k2 (dF γ.1.1.2) (k2 (dF γ.1.2) (k2 tT (k2 (Gy (Gz γ.2)) (Gb (⟨rfl,trivial⟩:(some (Ob.blk (bT [jI r1,jI 0] 3))=some (Ob.blk (bT [jI r1,jI 0] 3)))∧True))))))))) <|
  .leaf r1 []))))
  (.sp (r1=(0:Int))
  (.run (cs 4 ((rN [.any,.any] (jI r1) [])::(cs 11 (oa::(cs 7 (oa::(cs 3 (bf::oc::bt::(cs 9 (bt::(cs 5 (oa::bf::(cs 3 (bt::(cs 6 (bt::(cs 3 []))))))))))))))))) (fun γ=>k2 (UT a_0.Tag b_1.Tag r1 (G0 γ)) (k2 (Gx (Gu γ.1.1.2)) (k2 (Gy (Gz γ.1.2)) (k2 tT (k2 (Gx (Gu γ.2)) (k2 tT (k2 tT (Gb (⟨rfl,trivial⟩:(some (Ob.blk (bT [jI r1,jI 1] 3))=some (Ob.blk (bT [jI r1,jI 1] 3)))∧True))))))))) <|
  .leaf 1 [])
  (.run (cs 4 ((rN [.any,.any] (jI r1) [])::(cs 11 (oa::(cs 7 (oa::(cs 3 (bf::oc::bt::(cs 9 (bt::(cs 5 (oa::bt::(cs 3 []))))))))))))) (fun γ=>k2 (UT a_0.Tag b_1.Tag r1 (G0 γ)) (k2 (Gx (Gu γ.1.1.2)) (k2 (Gy (Gz γ.1.2)) (k2 tT (k2 (Gy (Gz γ.2)) (Gb (⟨rfl,trivial⟩:(some (Ob.blk (bT [jI r1,jI 1] 3))=some (Ob.blk (bT [jI r1,jI 1] 3)))∧True))))))) <|
  .leaf r1 [])))
  (.sp (b_1.From=b_1.From)
  (.sp (r1=(0:Int))
  (.run (cs 4 ((rN [.any,.any] (jI r1) [])::(cs 11 (oa::(cs 7 (oa::(cs 3 (bt::oc::bf::(cs 9 (bt::(cs 5 (oa::bf::(cs 3 (bt::(cs 6 (bt::(cs 3 []))))))))))))))))) (fun γ=>k2 (UT a_0.Tag b_1.Tag r1 (G0 γ)) (k2 (Gy (Gz γ.1.1.2)) (k2 (Gx (Gu γ.1.2)) (k2 tT (k2 (Gx (Gu γ.2)) (k2 tT (k2 tT (Gb (⟨rfl,trivial⟩:(some (Ob.blk (bT [jI r1,jI (-1)] 3))=some (Ob.blk (bT [jI r1,jI (-1)] 3)))∧True))))))))) <|
  .leaf (-1) [])
  (.run (cs 4 ((rN [.any,.any] (jI r1) [])::(cs 11 (oa::(cs 7 (oa::(cs 3 (bt::oc::bf::(cs 9 (bt::(cs 5 (oa::bt::(cs 3 []))))))))))))) (fun γ=>k2 (UT a_0.Tag b_1.Tag r1 (G0 γ)) (k2 (Gy (Gz γ.1.1.2)) (k2 (Gx (Gu γ.1.2)) (k2 tT (k2 (Gy (Gz γ.2)) (Gb (⟨rfl,trivial⟩:(some (Ob.blk (bT [jI r1,jI (-1)] 3))=some (Ob.blk (bT [jI r1,jI (-1)] 3)))∧True))))))) <|
  .leaf r1 []))
  (.sp (r1=(0:Int))
  (.run (cs 4 ((rN [.any,.any] (jI r1) [])::(cs 11 (oa::(cs 7 (oa::(cs 3 (bt::oc::bt::(cs 9 (bt::(cs 5 (oa::bf::(cs 3 (bt::(cs 6 (bf::(cs 3 (bf::(cs 3 []))))))))))))))))))) (fun γ=>k2 (UT a_0.Tag b_1.Tag r1 (G0 γ)) (k2 (Gy (Gz γ.1.1.2)) (k2 (Gy (Gz γ.1.2)) (k2 tT (k2 (Gx (Gu γ.2)) (k2 tT (k2 fF (k2 fF (Gb (⟨rfl,trivial⟩:(some (Ob.blk (bT [jI r1,jI 0] 3))=some (Ob.blk (bT [jI r1,jI 0] 3)))∧True)))))))))) <|
  .leaf 0 [])
  (.run (cs 4 ((rN [.any,.any] (jI r1) [])::(cs 11 (oa::(cs 7 (oa::(cs 3 (bt::oc::bt::(cs 9 (bt::(cs 5 (oa::bt::(cs 3 []))))))))))))) (fun γ=>k2 (UT a_0.Tag b_1.Tag r1 (G0 γ)) (k2 (Gy (Gz γ.1.1.2)) (k2 (Gy (Gz γ.1.2)) (k2 tT (k2 (Gy (Gz γ.2)) (Gb (⟨rfl,trivial⟩:(some (Ob.blk (bT [jI r1,jI 0] 3))=some (Ob.blk (bT [jI r1,jI 0] 3)))∧True))))))) <|
  .leaf r1 [])))
def Gdo (a_0:Gs) (b_1:Gs):Option Int:=(GdU a_0 b_1).den
theorem GnV (a_0:Gs) (b_1:Gs) (r:Int) (h:Gdo a_0 b_1=some r):RT 212 [.agg (Gs.enc a_0),.agg (Gs.enc b_1)] (jI r) []:=
 HA.of_ht 400 (GdU a_0 b_1) (fun (r:Int)=>jI r) (fun (r:Int)=>[]) (by kernel_rfl) h
def Q0 (l_0:(List Gs)):Nat→HT (Nat⊕(Int⊕Unit)) True
 | k11=>.run [oa] (fun _=>Hg) <|
  .sp ((↑k11:Int)<(↑l_0.length:Int))
  (.run [bt] (fun γ=>Gb (dT γ.2)) <|
  .bd (l_0[k11]?) fun x24=>.run (oc::(oN (.i k11))::(oN (.v [.str x24.Tag,jI x24.From,jI x24.State]))::(cs 3 [])) (fun γ=>k2 (ir γ.2) (k2 (GD (f:=Gs.enc) (z:=2) (fun _=>rfl) γ.2) (Gb (GX (f:=Gs.enc) (z:=3) (j:=k11) (fun _=>rfl) γ.2 rfl)))) <|
  .bd (Ge0 x24.Tag) fun r26=>.run (cs 2 ((rN [.any] (jI r26) [])::(cs 2 [oa]))) (fun γ=>Gb (GjP x24.Tag r26 γ.2)) <|
  .sp (r26=(0:Int))
  (.run [bf] (fun γ=>Gb (Gx (Gu γ.2))) <|
  .sp (x24.From<(0:Int))
  (.run (cs 2 (oa::oc::tc::(cs 4 [bt,oc]))) (fun γ=>k2 (dT γ.2) (Gb tT)) <|
  .leaf (.inr (.inl 12)) [])
  (.run (cs 2 (oa::oc::oF::oc::oa::(cs 2 []))) (fun γ=>Gb (dF γ.2)) <|
  .sp (x24.From≥(68719476736:Int))
  (.run [bt,oc] (fun γ=>Gb (dT γ.2)) <|
  .leaf (.inr (.inl 12)) [])
  (.run [bf] (fun γ=>Gb (dF γ.2)) <|
  .sp (x24.State<(1:Int))
  (.run (cs 2 (oa::oc::tc::(cs 4 [bt,oc]))) (fun γ=>k2 (dT γ.2) (Gb tT)) <|
  .leaf (.inr (.inl 1)) [])
  (.run (cs 2 (oa::oc::oF::oc::oa::(cs 2 []))) (fun γ=>Gb (dF γ.2)) <|
  .sp (x24.State>(3:Int))
  (.run [bt,oc] (fun γ=>Gb (dT γ.2)) <|
  .leaf (.inr (.inl 1)) [])
  (.run [bf] (fun γ=>Gb (dF γ.2)) <|
  .sp ((↑k11:Int)>(0:Int))
  (.gd (GS .i64 ((↑k11:Int) - 1)) <| .gd ((0:Int)≤((↑k11:Int) - 1)) <| .bd (l_0[(Int.toNat ((↑k11:Int) - 1))]?) fun x36=>.bd (Gdo x36 x24) fun r38=>.run [oc,oa,oc,tc,tc,tw,.op (some true) (.i (Int.toNat ((↑k11:Int) - 1))),.op (some true) (.v [.str x36.Tag,jI x36.From,jI x36.State]),tc,.ret (some true) [.any,.any] (jI r38) [],ta,oN (.b true),oc] (fun γ=>k2 (dT (HW γ)) (k2 (dT (HW γ)) (k2 (dT (HW γ)) (k2 (G0 γ) (k2 (dT (HW γ)) (k2 (ix γ.1.1.2 γ.1.2) (k2 (GD (f:=Gs.enc) (z:=2) (fun _=>rfl) γ.1.2) (k2 (dT (HW γ)) (k2 (GX (f:=Gs.enc) (z:=3) (j:=(Int.toNat ((↑k11:Int) - 1))) (fun _=>rfl) γ.1.2 rfl) (k2 (dT (HW γ)) (k2 (dT (HW γ)) (k2 (GnV x36 x24 r38 γ.2) (k2 (dT (HW γ)) (Gb (dT (HW γ)))))))))))))))) <|
  .sp (r38≥(0:Int))
  (.run [bt,oc] (fun γ=>Gb (dT γ.2)) <|
  .leaf (.inr (.inl 15)) [])
  (.run [bf] (fun γ=>Gb (dF γ.2)) <|
  .gd (GS .i64 ((↑k11:Int)+1)) <| .run [ow,oc] (fun γ=>Gb γ.2) <|
  .leaf (.inl (k11+1)) []))
  (.run [oc,oa,oc,oF,oF,oF,oF,oF,oF,oF,oF,oN (.b false),oc,bf] (fun γ=>k2 (dF γ.2) (k2 (dF γ.2) (k2 (dF γ.2) (k2 (dF γ.2) (k2 (dF γ.2) (k2 (dF γ.2) (k2 (dF γ.2) (k2 (dF γ.2) (k2 (dF γ.2) (Gb fF)))))))))) <|
  .gd (GS .i64 ((↑k11:Int)+1)) <| .run [ow,oc] (fun γ=>Gb γ.2) <|
  .leaf (.inl (k11+1)) []))))))
  (.run (bt::(cs 2 [])) (fun γ=>Gb (Gy (Gz γ.2))) <|
  .leaf (.inr (.inl r26)) []))
  (.run [bf] (fun γ=>Gb (dF γ.2)) <|
  .leaf (.inr (.inr (()))) [])
def Kb (l_0:(List Gs)):Nat→Option (Nat⊕(Int⊕Unit)):=fun s=>(Q0 l_0 s).den
def Gdl (l_0:(List Gs)):Nat→PS:=fun s=>(54,[(0,.lst (fl Gs.enc l_0) l_0.length),(9,.lst (fl Gs.enc l_0) l_0.length),(10,jI (↑l_0.length:Int)),(11,jI (↑s:Int))],[])
def Gdn:(Int⊕Unit)→Hm:=fun q=>match q with | Sum.inl o=>.ret | Sum.inr (o)=>(.exit 0)
def Gdm (l_0:(List Gs)):(Int⊕Unit)→List (Nat×AV):=fun q=>match q with | Sum.inl o=>[(2,jI o)] | Sum.inr (o)=>[]
def Gdk (l_0:(List Gs)):(Int⊕Unit)→List Hb:=fun _=>[]
theorem Zf (l_0:(List Gs)) {s:Nat} {r:Int⊕Unit} (h:lp (Kb l_0) s=some r):DT 0 (.loop (GK Tryz.prog 134 [1,1,0,1,0,0])) (Gdl l_0 s).st (Gdn r) (PS.st (54,Gdm l_0 r,Gdk l_0 r)):=
 GN.lp_ht 0 400 (Gdl l_0) Gdn (fun q=>(54,Gdm l_0 q,Gdk l_0 q)) (Q0 l_0) (by intro k11; kernel_rfl) h
def GbN (l_0:(List Gs)):HT Int True:=.run (cs 3 [oa]) (fun _=>Hg) <|
  .sp ((↑l_0.length:Int)>(1024:Int))
  (.run [bt,oc] (fun γ=>Gb (dT γ.2)) <|
  .leaf 3 [])
  (.run (bf::(cs 3 [])) (fun γ=>Gb (dF γ.2)) <|
  .bd (lp (Kb l_0) (0:Nat)) fun qq=>.cs qq (fun o2=>.run [.fcut 0 .ret [(2,jI o2)] [] [] [(0,.any),(9,.any),(10,.any),(11,jI (↑(0:Nat):Int))] []] (fun γ=>k2 (rfl:(jI 0:AV)=jI (↑(0:Nat):Int)) (Gb (Zf l_0 (s:=(0:Nat)) (r:=Sum.inl o2) (eS γ.1.2 γ.2)))) <|
  .leaf o2 [])
  (fun o2=>.run [.fcut 0 (.exit 0) [] [] [] [(0,.any),(9,.any),(10,.any),(11,jI (↑(0:Nat):Int))] [],oc] (fun γ=>k2 (rfl:(jI 0:AV)=jI (↑(0:Nat):Int)) (Gb (Zf l_0 (s:=(0:Nat)) (r:=Sum.inr (o2)) (eS γ.1.2 γ.2)))) <|
  .leaf 0 []))
def GaB (l_0:(List Gs)):Option Int:=(GbN l_0).den
theorem Ge1 (l_0:(List Gs)) (r:Int) (h:GaB l_0=some r):RT 134 [.lst (fl Gs.enc l_0) l_0.length] (jI r) []:=
 HA.of_ht 400 (GbN l_0) (fun (r:Int)=>jI r) (fun (r:Int)=>[]) (by kernel_rfl) h
def GgQ (s_0:(List UInt8)):(Int×Nat)→HT ((Int×Nat)⊕(Unit⊕Int)) True
 | (v3,k4)=>.run (cs 3 [oa]) (fun _=>Hg) <|
  .sp ((↑k4:Int)<(↑s_0.length:Int))
  (.run [bt] (fun γ=>Gb (dT γ.2)) <|
  .bd (s_0[k4]?) fun x24=>.sp ((x24.toNat:Int)<(48:Int))
  (.run (cs 2 ((oN (.i k4))::(.tr (.eqt (.t 14) (.int .u8 (x24.toNat:Int))))::oa::oc::tc::(cs 4 [bt,oc]))) (fun γ=>k2 (ir γ.1.2) (k2 ((HB γ.1.2):(.int .u8 ((List.getD s_0 k4 0).toNat:Int):AV)=.int .u8 (x24.toNat:Int)) (k2 (dT γ.2) (Gb tT)))) <|
  .leaf (.inr (.inl ())) [])
  (.run (cs 2 [oN (.i k4),.tr (.eqt (.t 14) (.int .u8 (x24.toNat:Int))),oa,oc,oF,oc,oN (.i k4),.tr (.eqt (.t 19) (.int .u8 (x24.toNat:Int))),oa,oc]) (fun γ=>k2 (ir γ.1.2) (k2 ((HB γ.1.2):(.int .u8 ((List.getD s_0 k4 0).toNat:Int):AV)=.int .u8 (x24.toNat:Int)) (k2 (dF γ.2) (k2 (ir γ.1.2) (Gb ((HB γ.1.2):(.int .u8 ((List.getD s_0 k4 0).toNat:Int):AV)=.int .u8 (x24.toNat:Int))))))) <|
  .sp ((x24.toNat:Int)>(57:Int))
  (.run [bt,oc] (fun γ=>Gb (dT γ.2)) <|
  .leaf (.inr (.inl ())) [])
  (.run [bf] (fun γ=>Gb (dF γ.2)) <|
  .gd (GS .u8 ((x24.toNat:Int) - 48)) <| .gd (GS .i64 ((x24.toNat:Int) - 48)) <| .run (cs 2 ((oN (.i k4))::(.tr (.eqt (.t 24) (.int .u8 (x24.toNat:Int))))::ow::ow::(cs 2 [oa,oa]))) (fun γ=>k2 (ir (HW γ)) (k2 ((HB (HW γ)):(.int .u8 ((List.getD s_0 k4 0).toNat:Int):AV)=.int .u8 (x24.toNat:Int)) (k2 γ.1.2 (k2 γ.2 (Gb ((by decide):2≠(0:Int))))))) <|
  .sp ((tmod (↑k4:Int) 2)=(0:Int))
  (.run [bt] (fun γ=>Gb (Gu γ.2)) <|
  .gd (GS .i64 (2*((x24.toNat:Int) - 48))) <| .run (oc::ow::(cs 2 [oa])) (fun γ=>Gb γ.2) <|
  .sp ((2*((x24.toNat:Int) - 48))>(9:Int))
  (.run [bt] (fun γ=>Gb (dT γ.2)) <|
  .gd (GS .i64 ((2*((x24.toNat:Int) - 48)) - 9)) <| .run [oc,ow,oc] (fun γ=>Gb γ.2) <|
  .gd (GS .i64 (v3+((2*((x24.toNat:Int) - 48)) - 9))) <| .run (cs 2 [ow,oc]) (fun γ=>Gb γ.2) <|
  .gd (GS .i64 ((↑k4:Int)+1)) <| .run [oc,ow,oc] (fun γ=>Gb γ.2) <|
  .leaf (.inl ((v3+((2*((x24.toNat:Int) - 48)) - 9)),(k4+1))) [])
  (.run [bf] (fun γ=>Gb (dF γ.2)) <|
  .gd (GS .i64 (v3+(2*((x24.toNat:Int) - 48)))) <| .run (cs 2 [ow,oc]) (fun γ=>Gb γ.2) <|
  .gd (GS .i64 ((↑k4:Int)+1)) <| .run [oc,ow,oc] (fun γ=>Gb γ.2) <|
  .leaf (.inl ((v3+(2*((x24.toNat:Int) - 48))),(k4+1))) []))
  (.run [bf,oc,oa] (fun γ=>Gb (Gz γ.2)) <|
  .sp (((x24.toNat:Int) - 48)>(9:Int))
  (.run [bt] (fun γ=>Gb (dT γ.2)) <|
  .gd (GS .i64 (((x24.toNat:Int) - 48) - 9)) <| .run [oc,ow,oc] (fun γ=>Gb γ.2) <|
  .gd (GS .i64 (v3+(((x24.toNat:Int) - 48) - 9))) <| .run (cs 2 [ow,oc]) (fun γ=>Gb γ.2) <|
  .gd (GS .i64 ((↑k4:Int)+1)) <| .run [oc,ow,oc] (fun γ=>Gb γ.2) <|
  .leaf (.inl ((v3+(((x24.toNat:Int) - 48) - 9)),(k4+1))) [])
  (.run [bf] (fun γ=>Gb (dF γ.2)) <|
  .gd (GS .i64 (v3+((x24.toNat:Int) - 48))) <| .run (cs 2 [ow,oc]) (fun γ=>Gb γ.2) <|
  .gd (GS .i64 ((↑k4:Int)+1)) <| .run [oc,ow,oc] (fun γ=>Gb γ.2) <|
  .leaf (.inl ((v3+((x24.toNat:Int) - 48)),(k4+1))) [])))))
  (.run [bf] (fun γ=>Gb (dF γ.2)) <|
  .leaf (.inr (.inr (v3))) [])
def VZ (s_0:(List UInt8)):(Int×Nat)→Option ((Int×Nat)⊕(Unit⊕Int)):=fun s=>(GgQ s_0 s).den
def Gnh (s_0:(List UInt8)):(Int×Nat)→PS:=fun s=>(40,[(0,.str s_0),(3,jI s.1),(4,jI (↑s.2:Int))],[])
def Gnj:(Unit⊕Int)→Hm:=fun q=>match q with | Sum.inl o=>.ret | Sum.inr (o)=>(.exit 0)
def Gni (s_0:(List UInt8)):(Unit⊕Int)→List (Nat×AV):=fun q=>match q with | Sum.inl o=>[(2,jI (-1))] | Sum.inr (o)=>[(3,jI o)]
def Gng (s_0:(List UInt8)):(Unit⊕Int)→List Hb:=fun _=>[]
theorem GgR (s_0:(List UInt8)) {s:(Int×Nat)} {r:Unit⊕Int} (h:lp (VZ s_0) s=some r):DT 0 (.loop (GK Tryz.prog 160 [1,1,0,1,0,0])) (Gnh s_0 s).st (Gnj r) (PS.st (40,Gni s_0 r,Gng s_0 r)):=
 GN.lp_ht 0 400 (Gnh s_0) Gnj (fun q=>(40,Gni s_0 q,Gng s_0 q)) (GgQ s_0) (by rintro ⟨v3,k4⟩; kernel_rfl) h
def GoE (s_0:(List UInt8)):HT Int True:=.run (cs 3 []) (fun _=>Hg) <|
  .bd (lp (VZ s_0) ((0:Int),(0:Nat))) fun qq=>.cs qq (fun o1=>.run [.fcut 0 .ret [(2,jI (-1))] [] [] [(0,.any),(3,jI (0:Int)),(4,jI (↑(0:Nat):Int))] []] (fun γ=>k2 (rfl:(jI 0:AV)=jI (0:Int)) (k2 (rfl:(jI 0:AV)=jI (↑(0:Nat):Int)) (Gb (GgR s_0 (s:=((0:Int),(0:Nat))) (r:=Sum.inl o1) (eS γ.1.2 γ.2))))) <|
  .leaf (-1) [])
  (fun o1=>.run ((.fcut 0 (.exit 0) [(3,jI o1)] [] [] [(0,.any),(3,jI (0:Int)),(4,jI (↑(0:Nat):Int))] [])::(cs 2 [])) (fun γ=>k2 (rfl:(jI 0:AV)=jI (0:Int)) (k2 (rfl:(jI 0:AV)=jI (↑(0:Nat):Int)) (Gb (GgR s_0 (s:=((0:Int),(0:Nat))) (r:=Sum.inr (o1)) (eS γ.1.2 γ.2))))) <|
  .leaf o1 [])
def Grv (s_0:(List UInt8)):Option Int:=(GoE s_0).den
theorem Gus (s_0:(List UInt8)) (r:Int) (h:Grv s_0=some r):RT 160 [.str s_0] (jI r) []:=
 HA.of_ht 400 (GoE s_0) (fun (r:Int)=>jI r) (fun (r:Int)=>[]) (by kernel_rfl) h
def Gj7 (s_0:(List UInt8)):HT Int True:=.run (cs 3 [oa]) (fun _=>Hg) <|
  .sp ((↑s_0.length:Int)=(12:Int))
  (.run [bf] (fun γ=>Gb (Gx (Gu γ.2))) <|
  .bd (Grv s_0) fun r2=>.run [oc,rN [.any] (jI r2) [],oc] (fun γ=>Gb (Gus s_0 r2 γ.2)) <|
  .sp (r2<(0:Int))
  (.run (oc::oa::oc::tc::(cs 3 [bt,oc])) (fun γ=>k2 (dT γ.2) (Gb tT)) <|
  .leaf 18 [])
  (.run [oc,oa,oc,oF,oa,oa,oc] (fun γ=>k2 (dF γ.2) (Gb ((by decide):10≠(0:Int)))) <|
  .sp ((tmod r2 10)=(0:Int))
  (.run [bf,oc] (fun γ=>Gb (Gx (Gu γ.2))) <|
  .leaf 0 [])
  (.run [bt,oc] (fun γ=>Gb (Gy (Gz γ.2))) <|
  .leaf 18 [])))
  (.run [bt,oc] (fun γ=>Gb (Gy (Gz γ.2))) <|
  .leaf 18 [])
def GgP (s_0:(List UInt8)):Option Int:=(Gj7 s_0).den
theorem Gla (s_0:(List UInt8)) (r:Int) (h:GgP s_0=some r):RT 100 [.str s_0] (jI r) []:=
 HA.of_ht 400 (Gj7 s_0) (fun (r:Int)=>jI r) (fun (r:Int)=>[]) (by kernel_rfl) h
def Gj8 (a_0:Gs) (b_1:Gs):HT Bool True:=.run (cs 7 [oa]) (fun _=>Hg) <|
  .sp (a_0.Tag=b_1.Tag)
  (.run (bf::(cs 4 [oa,oc])) (fun γ=>Gb (Gx (Gu γ.2))) <|
  .leaf (decide (a_0.From>b_1.From)) [])
  (.run (bt::(cs 4 [oa,oc])) (fun γ=>Gb (Gy (Gz γ.2))) <|
  .leaf (!(Op.bytesLess a_0.Tag b_1.Tag||a_0.Tag==b_1.Tag)) [])
def Glb (a_0:Gs) (b_1:Gs):Option Bool:=(Gj8 a_0 b_1).den
theorem Gru (a_0:Gs) (b_1:Gs) (r:Bool) (h:Glb a_0 b_1=some r):RT 101 [.agg (Gs.enc a_0),.agg (Gs.enc b_1)] (.bool r) []:=
 HA.of_ht 400 (Gj8 a_0 b_1) (fun (r:Bool)=>.bool r) (fun (r:Bool)=>[]) (by kernel_rfl) h
def RJ (l_0:(List Gs)):Nat→HT (Nat⊕(Int⊕Unit)) True
 | k3=>.run (cs 3 [oa]) (fun _=>Hg) <|
  .sp ((↑k3:Int)<(↑l_0.length:Int))
  (.run [bt] (fun γ=>Gb (dT γ.2)) <|
  .bd (l_0[k3]?) fun x24=>.run (cs 2 ((oN (.i k3))::(oN (.v [.str x24.Tag,jI x24.From,jI x24.State]))::(cs 2 []))) (fun γ=>k2 (ir γ.2) (k2 (GD (f:=Gs.enc) (z:=2) (fun _=>rfl) γ.2) (Gb (GX (f:=Gs.enc) (z:=3) (j:=k3) (fun _=>rfl) γ.2 rfl)))) <|
  .bd (GgP x24.Tag) fun r26=>.run (cs 2 [rN [.any] (jI r26) [],oa]) (fun γ=>Gb (Gla x24.Tag r26 γ.2)) <|
  .sp (r26=(0:Int))
  (.run [bf] (fun γ=>Gb (Gx (Gu γ.2))) <|
  .sp (x24.From<(0:Int))
  (.run (cs 2 (oa::oc::tc::(cs 3 [bt,oc]))) (fun γ=>k2 (dT γ.2) (Gb tT)) <|
  .leaf (.inr (.inl 12)) [])
  (.run (cs 2 [oa,oc,oF,oc,oa,oc]) (fun γ=>Gb (dF γ.2)) <|
  .sp (x24.From≥(68719476736:Int))
  (.run [bt,oc] (fun γ=>Gb (dT γ.2)) <|
  .leaf (.inr (.inl 12)) [])
  (.run [bf] (fun γ=>Gb (dF γ.2)) <|
  .sp (x24.State<(1:Int))
  (.run (cs 2 (oa::oc::tc::(cs 3 [bt,oc]))) (fun γ=>k2 (dT γ.2) (Gb tT)) <|
  .leaf (.inr (.inl 1)) [])
  (.run (cs 2 [oa,oc,oF,oc,oa,oc]) (fun γ=>Gb (dF γ.2)) <|
  .sp (x24.State>(3:Int))
  (.run [bt,oc] (fun γ=>Gb (dT γ.2)) <|
  .leaf (.inr (.inl 1)) [])
  (.run [bf] (fun γ=>Gb (dF γ.2)) <|
  .sp ((↑k3:Int)>(0:Int))
  (.gd (GS .i64 ((↑k3:Int) - 1)) <| .gd ((0:Int)≤((↑k3:Int) - 1)) <| .bd (l_0[(Int.toNat ((↑k3:Int) - 1))]?) fun x36=>.bd (Glb x24 x36) fun r38=>.run [oc,oa,oc,tc,tc,tc,tw,.op (some true) (.i (Int.toNat ((↑k3:Int) - 1))),.op (some true) (.v [.str x36.Tag,jI x36.From,jI x36.State]),.ret (some true) [.any,.any] (.bool r38) [],tc,oN (.b true)] (fun γ=>k2 (dT (HW γ)) (k2 (dT (HW γ)) (k2 (dT (HW γ)) (k2 (dT (HW γ)) (k2 (G0 γ) (k2 (dT (HW γ)) (k2 (ix γ.1.1.2 γ.1.2) (k2 (GD (f:=Gs.enc) (z:=2) (fun _=>rfl) γ.1.2) (k2 (dT (HW γ)) (k2 (GX (f:=Gs.enc) (z:=3) (j:=(Int.toNat ((↑k3:Int) - 1))) (fun _=>rfl) γ.1.2 rfl) (k2 (dT (HW γ)) (k2 (Gru x24 x36 r38 γ.2) (k2 (dT (HW γ)) (Gb (dT (HW γ)))))))))))))))) <|
  .sp (r38=true)
  (.run [bf] (fun γ=>Gb ((Gx γ.2):(!r38)=false)) <|
  .gd (GS .i64 ((↑k3:Int)+1)) <| .run [oc,ow,oc] (fun γ=>Gb γ.2) <|
  .leaf (.inl (k3+1)) [])
  (.run [bt,oc] (fun γ=>Gb ((Gy (Ja γ.2)):(!r38)=true)) <|
  .leaf (.inr (.inl 15)) []))
  (.run [oc,oa,oc,oF,oF,oF,oF,oF,oF,oF,oF,oN (.b false),bf] (fun γ=>k2 (dF γ.2) (k2 (dF γ.2) (k2 (dF γ.2) (k2 (dF γ.2) (k2 (dF γ.2) (k2 (dF γ.2) (k2 (dF γ.2) (k2 (dF γ.2) (k2 (dF γ.2) (Gb fF)))))))))) <|
  .gd (GS .i64 ((↑k3:Int)+1)) <| .run [oc,ow,oc] (fun γ=>Gb γ.2) <|
  .leaf (.inl (k3+1)) []))))))
  (.run [bt,oc] (fun γ=>Gb (Gy (Gz γ.2))) <|
  .leaf (.inr (.inl 18)) []))
  (.run [bf] (fun γ=>Gb (dF γ.2)) <|
  .leaf (.inr (.inr (()))) [])
def Kr (l_0:(List Gs)):Nat→Option (Nat⊕(Int⊕Unit)):=fun s=>(RJ l_0 s).den
def Gei (l_0:(List Gs)):Nat→PS:=fun s=>(50,[(0,.lst (fl Gs.enc l_0) l_0.length),(3,jI (↑s:Int))],[])
def Gek:(Int⊕Unit)→Hm:=fun q=>match q with | Sum.inl o=>.ret | Sum.inr (o)=>(.exit 0)
def Gej (l_0:(List Gs)):(Int⊕Unit)→List (Nat×AV):=fun q=>match q with | Sum.inl o=>[(2,jI o)] | Sum.inr (o)=>[]
def Geh (l_0:(List Gs)):(Int⊕Unit)→List Hb:=fun _=>[]
theorem ZZ (l_0:(List Gs)) {s:Nat} {r:Int⊕Unit} (h:lp (Kr l_0) s=some r):DT 0 (.loop (GK Tryz.prog 32 [1,1,0,1,0,0])) (Gei l_0 s).st (Gek r) (PS.st (50,Gej l_0 r,Geh l_0 r)):=
 GN.lp_ht 0 400 (Gei l_0) Gek (fun q=>(50,Gej l_0 q,Geh l_0 q)) (RJ l_0) (by intro k3; kernel_rfl) h
def GdH (l_0:(List Gs)):HT Int True:=.run (cs 3 [oa]) (fun _=>Hg) <|
  .sp ((↑l_0.length:Int)>(1024:Int))
  (.run [bt,oc] (fun γ=>Gb (dT γ.2)) <|
  .leaf 3 [])
  (.run [bf,oc] (fun γ=>Gb (dF γ.2)) <|
  .bd (lp (Kr l_0) (0:Nat)) fun qq=>.cs qq (fun o2=>.run [.fcut 0 .ret [(2,jI o2)] [] [] [(0,.any),(3,jI (↑(0:Nat):Int))] []] (fun γ=>k2 (rfl:(jI 0:AV)=jI (↑(0:Nat):Int)) (Gb (ZZ l_0 (s:=(0:Nat)) (r:=Sum.inl o2) (eS γ.1.2 γ.2)))) <|
  .leaf o2 [])
  (fun o2=>.run [.fcut 0 (.exit 0) [] [] [] [(0,.any),(3,jI (↑(0:Nat):Int))] [],oc] (fun γ=>k2 (rfl:(jI 0:AV)=jI (↑(0:Nat):Int)) (Gb (ZZ l_0 (s:=(0:Nat)) (r:=Sum.inr (o2)) (eS γ.1.2 γ.2)))) <|
  .leaf 0 []))
def Gcv (l_0:(List Gs)):Option Int:=(GdH l_0).den
theorem UU (l_0:(List Gs)) (r:Int) (h:Gcv l_0=some r):RT 32 [.lst (fl Gs.enc l_0) l_0.length] (jI r) []:=
 HA.of_ht 400 (GdH l_0) (fun (r:Int)=>jI r) (fun (r:Int)=>[]) (by kernel_rfl) h
end
set_option maxHeartbeats 4000000
noncomputable section
open Go Go.Proofs
theorem GuW {σ ρ:Type} {step:σ→Option (σ⊕ρ)} (I:σ→Prop) (m:σ→Nat) (Q:ρ→Prop)
  (h:∀ s,I s→(∃ s',step s=some (.inl s')∧I s'∧m s'<m s)∨(∃ r,step s=some (.inr r)∧Q r)) (s:σ) (hs:I s):∃ r,lp step s=some r∧Q r:=by
 generalize hn:m s=n
 induction n using Nat.strongRecOn generalizing s with
 | ind n ih=>
  rcases h s hs with ⟨s',h1,h2,h3⟩ | ⟨r,h1,h2⟩
  ·rw [GoW h1]; exact ih _ (by omega) s' h2 rfl
  ·exact ⟨r,Gbl h1,h2⟩
theorem Gy7 {σ ρ:Type} {step:σ→Option (σ⊕ρ)} (I:σ→Prop) (m:σ→Nat) (r:ρ)
  (h:∀ s,I s→(∃ s',step s=some (.inl s')∧I s'∧m s'<m s)∨step s=some (.inr r)) (s:σ) (hs:I s):lp step s=some r:=by
 obtain ⟨r',h1,rfl⟩:=GuW I m (fun x=>x=r) (fun s hs=>(h s hs).imp_right fun h=>⟨r,h,rfl⟩) s hs
 exact h1
def dg (c:UInt8):Bool:=decide (48≤c.toNat)&&decide (c.toNat≤57)
theorem Gfa {c:UInt8}:dg c=true↔48≤c.toNat∧c.toNat≤57:=by simp [dg]
def lv (i:Nat) (c:UInt8):Int:=if i % 2=0 then (if ((c.toNat:Int) - 48)*2>9 then ((c.toNat:Int) - 48)*2 - 9 else ((c.toNat:Int) - 48)*2) else (c.toNat:Int) - 48
def ls:Nat→List UInt8→Int
 | _,[]=>0
 | i,c::l=>lv i c+ls (i+1) l
theorem GAj (a:List UInt8):∀ (i:Nat) (b:List UInt8),ls i (a++b)=ls i a+ls (i+a.length) b:=by
 induction a with
 | nil=>intro i b; simp [ls]
 | cons c a ih=>
  intro i b
  simp only [List.cons_append,ls,ih,List.length_cons]
  rw [show i+1+a.length=i+(a.length+1) by omega]; omega
theorem Gya {i:Nat} {c:UInt8} (h:dg c=true):0≤lv i c∧lv i c≤9:=by
 have:=Gfa.1 h
 unfold lv
 split
 ·split <;> omega
 ·omega
theorem GlI (l:List UInt8):∀ (i:Nat),(∀ c ∈ l,dg c=true)→0≤ls i l∧ls i l≤9*l.length:=by
 induction l with
 | nil=>intro i _; simp [ls]
 | cons c l ih=>
  intro i h
  have h1:=Gya (i:=i) (h c List.mem_cons_self)
  have h2:=ih (i+1) (fun x hx=>h x (List.mem_cons_of_mem _ hx))
  simp only [ls,List.length_cons]; omega
theorem GvM (s:List UInt8) (k:Nat) (c:UInt8) (h:s[k]?=some c):ls 0 (s.take (k+1))=ls 0 (s.take k)+lv k c:=by
 have hk:k<s.length:=(List.getElem?_eq_some_iff.1 h).1
 rw [List.take_add_one,h,Option.toList_some,GAj,List.length_take]
 simp only [ls]
 rw [show 0+min k s.length=k by omega]; omega
theorem Gwe (s:List UInt8) (n:Int):Gfw s n=some (s.all dg&&((s.length:Int)==n)):=by
 simp only [Gfw,Gfx,dA]
 have key:=GuW (step:=Qg s n) (fun k:Nat=>k≤s.length∧∀ c ∈ s.take k,dg c=true) (fun k=>s.length - k) (fun r=>(r=.inl ()∧s.all dg=false)∨(r=.inr ()∧s.all dg=true)) ?_ 0 ⟨Nat.zero_le _,by simp⟩
 ·obtain ⟨r,h,hq⟩:=key
  rw [h,Hd]
  rcases hq with ⟨rfl,hq⟩ | ⟨rfl,hq⟩
  ·rw [hq]; first | done | rfl
  ·rw [hq]; first | done | rfl
 intro k ⟨h1,h2⟩
 simp only [Qg,ZE,dA]
 by_cases hk:k<s.length
 ·rw [if_pos hk,Hd]
  by_cases ha:s[k].toNat<128
  ·rw [Gmf s k hk ha]
   dsimp only
   by_cases h48:(s[k].toNat:Int)<48
   ·rw [if_pos h48]
    refine .inr ⟨_,rfl,.inl ⟨rfl,?_⟩⟩
    rw [List.all_eq_false]
    exact ⟨s[k],List.getElem_mem hk,by rw [Gfa]; omega⟩
   ·rw [if_neg h48]
    by_cases h57:(s[k].toNat:Int)>57
    ·rw [if_pos h57]
     refine .inr ⟨_,rfl,.inl ⟨rfl,?_⟩⟩
     rw [List.all_eq_false]
     exact ⟨s[k],List.getElem_mem hk,by rw [Gfa]; omega⟩
    ·rw [if_neg h57]
     refine .inl ⟨_,rfl,⟨hk,?_⟩,by omega⟩
     intro c hc
     rw [List.take_add_one,List.getElem?_eq_getElem hk,Option.toList_some,List.mem_append,List.mem_singleton] at hc
     rcases hc with hc | rfl
     ·exact h2 c hc
     ·rw [Gfa]; omega
  ·have hd:=GsB s k hk (by omega)
   rw [if_neg (by omega),if_pos (by omega)]
   refine .inr ⟨_,rfl,.inl ⟨rfl,?_⟩⟩
   rw [List.all_eq_false]
   exact ⟨s[k],List.getElem_mem hk,by rw [Gfa]; omega⟩
 ·rw [if_neg hk]
  refine .inr ⟨_,rfl,.inr ⟨rfl,?_⟩⟩
  rw [List.take_of_length_le (by omega)] at h2
  rw [List.all_eq_true]; exact h2
theorem Gy8 (s:List UInt8) (hs:s.length≤1000) (hd:∀ c ∈ s,dg c=true):Gl1 s=some (ls 0 s):=by
 simp only [Gl1,Gkz,dA]
 rw [Gy7 (step:=R3 s) (fun p:Int×Nat=>p.2≤s.length∧p.1=ls 0 (s.take p.2)) (fun p=>s.length - p.2) (ls 0 s) ?_ (0,0) ⟨Nat.zero_le _,by simp [ls]⟩]; rfl
 rintro ⟨v,k⟩ ⟨h1,h2⟩
 dsimp only at h1 h2
 simp only [R3,GdV,dA]
 by_cases hk:k<s.length
 ·have hx:s[k]?=some s[k]:=List.getElem?_eq_getElem hk
  have hc:=Gfa.1 (hd _ (List.getElem_mem hk))
  have hb:=GlI (s.take k) 0 (fun c hc=>hd c (List.mem_of_mem_take hc))
  rw [List.length_take] at hb
  have ht:=GvM s k _ hx
  rw [if_pos hk,Gmf s k hk (by omega),Hd]
  dsimp only
  have i32:GS .i32 ((s[k].toNat:Int) - 48):=Gy1.2 (by omega)
  rw [if_pos i32,if_pos (RY.2 (by omega)),show tmod (k:Int) 2=((k % 2:Nat):Int) by rw [Int.tmod_eq_emod_of_nonneg (by omega)]; omega]
  unfold lv at ht
  by_cases hp:k % 2=0
  ·rw [if_pos hp] at ht
   rw [if_pos (by omega),if_pos (RY.2 (by omega))]
   by_cases h9:((s[k].toNat:Int) - 48)*2>9
   ·rw [if_pos h9] at ht ⊢
    rw [if_pos (RY.2 (by omega)),if_pos (RY.2 (by omega))]
    exact .inl ⟨_,rfl,⟨hk,by dsimp only; omega⟩,by dsimp only; omega⟩
   ·rw [if_neg h9] at ht ⊢
    rw [if_pos (RY.2 (by omega))]
    exact .inl ⟨_,rfl,⟨hk,by dsimp only; omega⟩,by dsimp only; omega⟩
  ·rw [if_neg hp] at ht
   rw [if_neg (by omega),if_pos (RY.2 (by omega))]
   exact .inl ⟨_,rfl,⟨hk,by dsimp only; omega⟩,by dsimp only; omega⟩
 ·rw [if_neg hk]
  rw [List.take_of_length_le (by omega)] at h2
  exact .inr (by rw [h2])
theorem Gzp (s:List UInt8) (hs:s.length≤1000):Grv s=some (if s.all dg=true then ls 0 s else -1):=by
 simp only [Grv,GoE,dA]
 have key:=GuW (step:=VZ s) (fun p:Int×Nat=>p.2≤s.length∧p.1=ls 0 (s.take p.2)∧∀ c ∈ s.take p.2,dg c=true) (fun p=>s.length - p.2)
  (fun r=>(r=.inl ()∧s.all dg=false)∨(r=.inr (ls 0 s)∧s.all dg=true)) ?_ (0,0) ⟨Nat.zero_le _,by simp [ls],by simp⟩
 ·obtain ⟨r,h,hq⟩:=key
  rw [h,Hd]
  rcases hq with ⟨rfl,hq⟩ | ⟨rfl,hq⟩
  ·rw [hq]; first | done | rfl
  ·rw [hq]; first | done | rfl
 rintro ⟨v,k⟩ ⟨h1,h2,h3⟩
 dsimp only at h1 h2 h3
 simp only [VZ,GgQ,dA]
 by_cases hk:k<s.length
 ·have hx:s[k]?=some s[k]:=List.getElem?_eq_getElem hk
  rw [if_pos (by omega),hx,Hd]
  by_cases h48:(s[k].toNat:Int)<48
  ·rw [if_pos h48]
   refine .inr ⟨_,rfl,.inl ⟨rfl,?_⟩⟩
   rw [List.all_eq_false]
   exact ⟨s[k],List.getElem_mem hk,by rw [Gfa]; omega⟩
  rw [if_neg h48]
  by_cases h57:(s[k].toNat:Int)>57
  ·rw [if_pos h57]
   refine .inr ⟨_,rfl,.inl ⟨rfl,?_⟩⟩
   rw [List.all_eq_false]
   exact ⟨s[k],List.getElem_mem hk,by rw [Gfa]; omega⟩
  rw [if_neg h57]
  have hb:=GlI (s.take k) 0 h3
  rw [List.length_take] at hb
  have ht:=GvM s k _ hx
  have hall:∀ c ∈ s.take (k+1),dg c=true:=by
   intro c hc
   rw [List.take_add_one,hx,Option.toList_some,List.mem_append,List.mem_singleton] at hc
   rcases hc with hc | rfl
   ·exact h3 c hc
   ·rw [Gfa]; omega
  have i8:GS .u8 ((s[k].toNat:Int) - 48):=Gx1.2 (by omega)
  have ik:GS .i64 ((k:Int)+1):=RY.2 (by omega)
  rw [if_pos i8,if_pos (RY.2 (by omega)),show tmod (k:Int) 2=((k % 2:Nat):Int) by rw [Int.tmod_eq_emod_of_nonneg (by omega)]; omega]
  unfold lv at ht
  by_cases hp:k % 2=0
  ·rw [if_pos hp] at ht
   rw [if_pos (by omega),if_pos (RY.2 (by omega))]
   by_cases h9:((s[k].toNat:Int) - 48)*2>9
   ·rw [if_pos h9] at ht
    rw [if_pos (show 2*((s[k].toNat:Int) - 48)>9 by omega),if_pos (RY.2 (by omega)),if_pos (RY.2 (by omega)),if_pos ik]
    exact .inl ⟨_,rfl,⟨hk,by dsimp only; omega,hall⟩,by dsimp only; omega⟩
   ·rw [if_neg h9] at ht
    rw [if_neg (show ¬ 2*((s[k].toNat:Int) - 48)>9 by omega),if_pos (RY.2 (by omega)),if_pos ik]
    exact .inl ⟨_,rfl,⟨hk,by dsimp only; omega,hall⟩,by dsimp only; omega⟩
  ·rw [if_neg hp] at ht
   rw [if_neg (by omega),if_neg (by omega),if_pos (RY.2 (by omega)),if_pos ik]
   exact .inl ⟨_,rfl,⟨hk,by dsimp only; omega,hall⟩,by dsimp only; omega⟩
 ·rw [if_neg (by omega)]
  rw [List.take_of_length_le (by omega)] at h2 h3
  exact .inr ⟨_,rfl,.inr ⟨by rw [h2],List.all_eq_true.2 h3⟩⟩
def chk (s:List UInt8):Int:=if (s.all dg&&decide (s.length=12)&&decide (ls 0 s % 10=0))=true then 0 else 18
theorem Gsy (s:List UInt8):Ge0 s=some (chk s):=by
 simp only [Ge0,GhU,chk,dA]
 rw [Gwe,Hd]
 cases hd:s.all dg with
 | false=>rfl
 | true=>
  have hd':=List.all_eq_true.1 hd
  by_cases hl:s.length=12
  ·have hb:=GlI s 0 hd'
   rw [if_pos (by rw [hl]; rfl),Gy8 s (by omega) hd',Hd,Int.tmod_eq_emod_of_nonneg hb.1]
   by_cases h0:ls 0 s % 10=0
   ·rw [if_pos h0,if_pos (by simp [hl,h0])]
   ·rw [if_neg h0,if_neg (by simp [h0])]
  ·rw [if_neg (by simp; omega),if_neg (by simp [hl])]
theorem GqB (s:List UInt8):GgP s=some (chk s):=by
 simp only [GgP,Gj7,chk,dA]
 by_cases hl:s.length=12
 ·rw [if_pos (by omega),Gzp s (by omega),Hd]
  cases hd:s.all dg with
  | false=>rfl
  | true=>
   have hb:=GlI s 0 (List.all_eq_true.1 hd)
   rw [if_pos rfl,if_neg (by omega),Int.tmod_eq_emod_of_nonneg hb.1]
   by_cases h0:ls 0 s % 10=0
   ·rw [if_pos h0,if_pos (by simp [hl,h0])]
   ·rw [if_neg h0,if_neg (by simp [h0])]
 ·rw [if_neg (by omega),if_neg (by simp [hl])]
theorem GxK (s:List UInt8):chk s=0∨chk s=18:=by
 unfold chk; split <;> simp
theorem GxI:∀ (a b:List UInt8),(Go.Lib.compareBytes a b=0∧a=b)∨(Go.Lib.compareBytes a b = -1∧a≠b∧Op.bytesLess b a=false)∨(Go.Lib.compareBytes a b=1∧a≠b∧Op.bytesLess b a=true)
 | [],[]=>.inl ⟨rfl,rfl⟩
 | [],b::l=>.inr (.inl ⟨rfl,by simp,rfl⟩)
 | a::l,[]=>.inr (.inr ⟨rfl,by simp,rfl⟩)
 | a::x,b::y=>by
  unfold Go.Lib.compareBytes Op.bytesLess
  by_cases h1:a<b
  ·have h2:¬ b<a:=by rw [UInt8.lt_iff_toNat_lt] at *; omega
   have h3:a≠b:=by rintro rfl; rw [UInt8.lt_iff_toNat_lt] at h1; omega
   rw [if_pos h1]
   refine .inr (.inl ⟨rfl,fun h=>h3 (List.cons.inj h).1,?_⟩)
   simp [h2,Ne.symm h3]
  ·rw [if_neg h1]
   by_cases h2:b<a
   ·rw [if_pos h2]
    have h3:a≠b:=by rintro rfl; exact h1 h2
    exact .inr (.inr ⟨rfl,fun h=>h3 (List.cons.inj h).1,by simp [h2]⟩)
   ·rw [if_neg h2]
    have h3:a=b:=by
     apply UInt8.toNat_inj.1
     rw [UInt8.lt_iff_toNat_lt] at h1 h2; omega
    subst h3
    rcases GxI x y with ⟨h,rfl⟩ | ⟨h,h4,h5⟩ | ⟨h,h4,h5⟩
    ·exact .inl ⟨h,rfl⟩
    ·exact .inr (.inl ⟨h,fun e=>h4 (List.cons.inj e).2,by simp [h2,h5]⟩)
    ·exact .inr (.inr ⟨h,fun e=>h4 (List.cons.inj e).2,by simp [h5]⟩)
def GpI (a b:Gs):Int:=if Go.Lib.compareBytes a.Tag b.Tag=0 then (if a.From<b.From then -1 else if a.From>b.From then 1 else 0) else Go.Lib.compareBytes a.Tag b.Tag
theorem Gud (a b:Gs):Gdo a b=some (GpI a b):=by
 simp only [Gdo,GdU,GzV,GpI,dA]
 rw [Hd,if_pos trivial,if_pos trivial]
 by_cases h1:a.From<b.From
 ·rw [if_pos h1,if_pos h1]; split <;> rfl
 ·rw [if_neg h1,if_neg h1]
  by_cases h2:a.From>b.From
  ·rw [if_pos h2,if_pos h2]; split <;> rfl
  ·rw [if_neg h2,if_neg h2]; split <;> rfl
theorem Gxx (x p:Gs):Glb x p=some (decide (GpI p x<0)):=by
 simp only [Glb,Gj8,dA]
 rcases GxI p.Tag x.Tag with ⟨h,e⟩ | ⟨h,e,l⟩ | ⟨h,e,l⟩
 ·rw [if_pos e.symm]
  have:GpI p x=if p.From<x.From then -1 else if p.From>x.From then 1 else 0:=by unfold GpI; rw [if_pos h]
  rw [this]
  by_cases h1:p.From<x.From
  ·rw [if_pos h1]; simp [h1]
  ·rw [if_neg h1]
   by_cases h2:p.From>x.From
   ·rw [if_pos h2]; simp; omega
   ·rw [if_neg h2]; simp; omega
 ·have:GpI p x = -1:=by unfold GpI; rw [h]; rfl
  rw [if_neg (Ne.symm e),this,l]
  simp [Ne.symm e]
 ·have:GpI p x=1:=by unfold GpI; rw [h]; rfl
  rw [if_neg (Ne.symm e),this,l]
  rfl
def Gva (l:List Gs) (k:Nat) (x:Gs):Option Int:=
 if chk x.Tag≠0 then some 18 else if x.From<0∨x.From≥68719476736 then some 12 else if x.State<1∨x.State>3 then some 1
 else if 0<k∧0≤((l[k - 1]?).map (GpI · x)).getD 0 then some 15 else none
def Gr6 (l:List Gs):Int:=if l.length>1024 then 3 else (GJ (Gva l) 0 l).getD 0
theorem GnU (l:List Gs):GaB l=some (Gr6 l):=by
 simp only [GaB,GbN,dA,Gr6]
 by_cases hl:l.length>1024
 ·rw [if_pos (by omega),if_pos hl]
 rw [if_neg (by omega),if_neg hl]
 have hs:Sm l:=by show _≤_; omega
 have key:lp (Kb l) 0=some (HQ (GJ (Gva l) 0 l)):=by
  refine GP (fun k x hx=>?_) ?_
  ·have hk:=Hl hx
   have i1:=sm1 hs hk
   have i2:GS .i64 ((k:Int) - 1):=Mh (by omega) (by omega)
   have hkl:(k:Int)<(l.length:Int):=by omega
   have h1:l[k - 1]?=some l[k - 1]:=List.getElem?_eq_getElem (by omega)
   have h2:((k:Int) - 1).toNat=k - 1:=by omega
   simp only [Kb,Q0,dA,hx,Hd,Gsy,Gud,h2,h1,i1,i2,if_true,hkl,Gva,Option.map_some,Option.getD_some]
   clear i1 i2 hs
   rcases GxK x.Tag with h | h <;> simp only [h] <;> grind [K0]
  ·simp only [Kb,Q0,d3,d6,d1]
   rw [if_neg (by omega)]
 rw [key]
 cases GJ (Gva l) 0 l <;> rfl
theorem GlP (l:List Gs):Gcv l=some (Gr6 l):=by
 simp only [Gcv,GdH,dA,Gr6]
 by_cases hl:l.length>1024
 ·rw [if_pos (by omega),if_pos hl]
 rw [if_neg (by omega),if_neg hl]
 have hs:Sm l:=by show _≤_; omega
 have key:lp (Kr l) 0=some (HQ (GJ (Gva l) 0 l)):=by
  refine GP (fun k x hx=>?_) ?_
  ·have hk:=Hl hx
   have i1:=sm1 hs hk
   have i2:GS .i64 ((k:Int) - 1):=Mh (by omega) (by omega)
   have hkl:(k:Int)<(l.length:Int):=by omega
   have h1:l[k - 1]?=some l[k - 1]:=List.getElem?_eq_getElem (by omega)
   have h2:((k:Int) - 1).toNat=k - 1:=by omega
   simp only [Kr,RJ,dA,hx,Hd,GqB,Gxx,h2,h1,i1,i2,if_true,hkl,Gva,Option.map_some,Option.getD_some]
   clear i1 i2 hs
   rcases GxK x.Tag with h | h <;> simp only [h] <;> grind [K0]
  ·simp only [Kr,RJ,d3,d6,d1]
   rw [if_neg (by omega)]
 rw [key]
 cases GJ (Gva l) 0 l <;> rfl
end
set_option maxHeartbeats 4000000
set_option maxRecDepth 100000
noncomputable section
open Go Go.Proofs
def GjZ (n_0:Int):HT Bool True:=.run [oc] (fun _=>Hg) <|
  .sp (n_0≥(1:Int))
  (.run (oc::oa::oc::tc::oa::(cs 2 [])) (fun γ=>Gb (dT γ.2)) <|
  .leaf (decide (n_0≤(9:Int))) [])
  (.run (oc::oa::oc::oF::(cs 3 [])) (fun γ=>Gb (dF γ.2)) <|
  .leaf false [])
def GkN (n_0:Int):Option Bool:=(GjZ n_0).den
theorem Gre (n_0:Int) (r:Bool) (h:GkN n_0=some r):RT 210 [jI n_0] (.bool r) []:=
 HA.of_ht 400 (GjZ n_0) (fun (r:Bool)=>.bool r) (fun (r:Bool)=>[]) (by kernel_rfl) h
def RF (l_0:(List Gk)):(Nat×(List Bool))→HT ((Nat×(List Bool))⊕((Int×(List Bool))⊕(List Bool))) True
 | (k11,b0)=>.run [oa] (fun _=>Hg) <|
  .sp ((↑k11:Int)<(↑l_0.length:Int))
  (.run [bt] (fun γ=>Gb (dT γ.2)) <|
  .bd (l_0[k11]?) fun x58=>.run (oc::(oN (.i k11))::(oN (.v [jI x58.From,jI x58.To,jI x58.Class]))::(cs 3 [])) (fun γ=>k2 (ir γ.2) (k2 (GD (f:=Gk.enc) (z:=2) (fun _=>rfl) γ.2) (Gb (GX (f:=Gk.enc) (z:=3) (j:=k11) (fun _=>rfl) γ.2 rfl)))) <|
  .sp (x58.From<(1:Int))
  (.run (cs 2 (oa::oc::tc::(cs 11 [bt,oc]))) (fun γ=>k2 (dT γ.2) (Gb tT)) <|
  .leaf (.inr (.inl (1,b0))) [0])
  (.sp (x58.From>x58.To)
  (.run (cs 2 (oa::oc::oF::(cs 3 (oa::(cs 2 (tc::(cs 4 [bt,oc]))))))) (fun γ=>k2 (dF γ.1.2) (k2 (dT γ.2) (Gb tT))) <|
  .leaf (.inr (.inl (1,b0))) [0])
  (.run (cs 2 (oa::oc::oF::(cs 3 (oa::(cs 2 (oF::oc::oa::(cs 2 []))))))) (fun γ=>k2 (dF γ.1.2) (Gb (dF γ.2))) <|
  .sp (x58.To>(20:Int))
  (.run [bt,oc] (fun γ=>Gb (dT γ.2)) <|
  .leaf (.inr (.inl (1,b0))) [0])
  (.run [bf] (fun γ=>Gb (dF γ.2)) <|
  .bd (GkN x58.Class) fun r63=>.run (cs 2 ((rN [.any] (.bool r63) [])::(cs 2 []))) (fun γ=>Gb (Gre x58.Class r63 γ.2)) <|
  .sp (r63=true)
  (.run [bf] (fun γ=>Gb ((Gx γ.2):(!r63)=false)) <|
  .sp ((↑k11:Int)>(0:Int))
  (.gd (GS .i64 ((↑k11:Int) - 1)) <| .gd ((0:Int)≤((↑k11:Int) - 1)) <| .bd (l_0[(Int.toNat ((↑k11:Int) - 1))]?) fun x69=>.run [oc,oa,oc,tc,tc,tc,tc,tw,.op (some true) (.i (Int.toNat ((↑k11:Int) - 1))),tc,.op (some true) (.v [jI x69.To]),ta,oN (.b true),oc] (fun γ=>k2 (dT (G0 γ)) (k2 (dT (G0 γ)) (k2 (dT (G0 γ)) (k2 (dT (G0 γ)) (k2 (dT (G0 γ)) (k2 γ.1.1.2 (k2 (dT (G0 γ)) (k2 (ix γ.1.2 γ.2) (k2 (GD (f:=Gk.enc) (z:=2) (fun _=>rfl) γ.2) (k2 (dT (G0 γ)) (k2 (dT (G0 γ)) (k2 (GL (f:=Gk.enc) (z:=3) (j:=(Int.toNat ((↑k11:Int) - 1))) (a:=1) (n:=1) (fun _=>rfl) γ.2 (by decide) rfl) (k2 (dT (G0 γ)) (Gb (dT (G0 γ)))))))))))))))) <|
  .sp (x58.From≤x69.To)
  (.run [bt,oc] (fun γ=>Gb (dT γ.2)) <|
  .leaf (.inr (.inl (15,b0))) [0])
  (.run [bf] (fun γ=>Gb (dF γ.2)) <|
  .gd ((0:Int)≤x58.Class) <| .gd ((Int.toNat x58.Class)<10) <| .bd (b0[(Int.toNat x58.Class)]?) fun x74=>.run (cs 2 [oN (.i (Int.toNat x58.Class)),oN (.v [.bool x74]),oc]) (fun γ=>k2 (iy γ.1.1.2 γ.1.2) (Gb (Gu7 γ.2))) <|
  .sp (x74=true)
  (.run [bt,oc] (fun γ=>Gb γ.2) <|
  .leaf (.inr (.inl (9,b0))) [0])
  (.run (bf::(cs 2 [oN (.i (Int.toNat x58.Class)),oa,.tr (.eqc 0 (fl Kn (List.set b0 (Int.toNat x58.Class) true)))])) (fun γ=>k2 ((Ja γ.2):x74=false) (k2 (iy (G0 γ) γ.1.1.2) (k2 (Gr2 γ.1.2) (Gb (Gr3 true γ.1.2))))) <|
  .gd (GS .i64 ((↑k11:Int)+1)) <| .run [ow,oc] (fun γ=>Gb γ.2) <|
  .leaf (.inl ((k11+1),(List.set b0 (Int.toNat x58.Class) true))) [0])))
  (.run [oc,oa,oc,oF,oF,oF,oF,oF,oF,oF,oF,oF,oN (.b false),oc,bf] (fun γ=>k2 (dF γ.2) (k2 (dF γ.2) (k2 (dF γ.2) (k2 (dF γ.2) (k2 (dF γ.2) (k2 (dF γ.2) (k2 (dF γ.2) (k2 (dF γ.2) (k2 (dF γ.2) (k2 (dF γ.2) (Gb fF))))))))))) <|
  .gd ((0:Int)≤x58.Class) <| .gd ((Int.toNat x58.Class)<10) <| .bd (b0[(Int.toNat x58.Class)]?) fun x80=>.run (cs 2 [oN (.i (Int.toNat x58.Class)),oN (.v [.bool x80]),oc]) (fun γ=>k2 (iy γ.1.1.2 γ.1.2) (Gb (Gu7 γ.2))) <|
  .sp (x80=true)
  (.run [bt,oc] (fun γ=>Gb γ.2) <|
  .leaf (.inr (.inl (9,b0))) [0])
  (.run (bf::(cs 2 [oN (.i (Int.toNat x58.Class)),oa,.tr (.eqc 0 (fl Kn (List.set b0 (Int.toNat x58.Class) true)))])) (fun γ=>k2 ((Ja γ.2):x80=false) (k2 (iy (G0 γ) γ.1.1.2) (k2 (Gr2 γ.1.2) (Gb (Gr3 true γ.1.2))))) <|
  .gd (GS .i64 ((↑k11:Int)+1)) <| .run [ow,oc] (fun γ=>Gb γ.2) <|
  .leaf (.inl ((k11+1),(List.set b0 (Int.toNat x58.Class) true))) [0])))
  (.run [bt,oc] (fun γ=>Gb ((Gy (Ja γ.2)):(!r63)=true)) <|
  .leaf (.inr (.inl (20,b0))) [0])))))
  (.run [bf] (fun γ=>Gb (dF γ.2)) <|
  .leaf (.inr (.inr (b0))) [0])
def Kp (l_0:(List Gk)):(Nat×(List Bool))→Option ((Nat×(List Bool))⊕((Int×(List Bool))⊕(List Bool))):=fun s=>(RF l_0 s).den
def Gd5 (l_0:(List Gk)):(Nat×(List Bool))→PS:=fun s=>(60,[(0,.lst (fl Gk.enc l_0) l_0.length),(3,.ptr 0 0),(9,.lst (fl Gk.enc l_0) l_0.length),(10,jI (↑l_0.length:Int)),(11,jI (↑s.1:Int))],[(bT (fl Kn s.2) 366)])
def Gd7:((Int×(List Bool))⊕(List Bool))→Hm:=fun q=>match q with | Sum.inl o=>.ret | Sum.inr (o)=>(.exit 0)
def Gd6 (l_0:(List Gk)):((Int×(List Bool))⊕(List Bool))→List (Nat×AV):=fun q=>match q with | Sum.inl o=>[(2,jI o.1)] | Sum.inr (o)=>[]
def Gd4 (l_0:(List Gk)):((Int×(List Bool))⊕(List Bool))→List Hb:=fun q=>match q with | Sum.inl o=>[(bT (fl Kn o.2) 366)] | Sum.inr (o)=>[(bT (fl Kn o) 366)]
theorem ZL (l_0:(List Gk)) {s:(Nat×(List Bool))} {r:(Int×(List Bool))⊕(List Bool)} (h:lp (Kp l_0) s=some r):DT 1 (.loop (GK Tryz.prog 132 [1,1,1,0,1,0,0])) (Gd5 l_0 s).st (Gd7 r) (PS.st (60,Gd6 l_0 r,Gd4 l_0 r)):=
 GN.lp_ht 1 400 (Gd5 l_0) Gd7 (fun q=>(60,Gd6 l_0 q,Gd4 l_0 q)) (RF l_0) (by rintro ⟨k11,b0⟩; kernel_rfl) h
def GdC (l_0:(List Gk)):HT Int True:=.run (cs 3 [oa]) (fun _=>Hg) <|
  .sp ((↑l_0.length:Int)>(9:Int))
  (.run [bt,oc] (fun γ=>Gb (dT γ.2)) <|
  .leaf 3 [])
  (.run (bf::(cs 4 [])) (fun γ=>Gb (dF γ.2)) <|
  .bd (lp (Kp l_0) ((0:Nat),([false,false,false,false,false,false,false,false,false,false]:(List Bool)))) fun qq=>.cs qq (fun o2=>.run [.fcut 1 .ret [(2,jI o2.1)] [(bT (fl Kn o2.2) 366)] [0] [(0,.any),(3,.any),(9,.any),(10,.any),(11,jI (↑(0:Nat):Int))] [(bT (fl Kn ([false,false,false,false,false,false,false,false,false,false]:(List Bool))) 366)]] (fun γ=>k2 (rfl:(jI 0:AV)=jI (↑(0:Nat):Int)) (k2 (rfl:((bT [.bool false,.bool false,.bool false,.bool false,.bool false,.bool false,.bool false,.bool false,.bool false,.bool false] 366):Hb)=KO [0] (bT (fl Kn ([false,false,false,false,false,false,false,false,false,false]:(List Bool))) 366)) (Gb (ZL l_0 (s:=((0:Nat),([false,false,false,false,false,false,false,false,false,false]:(List Bool)))) (r:=Sum.inl o2) (eS γ.1.2 γ.2))))) <|
  .leaf o2.1 [])
  (fun o2=>.run [.fcut 1 (.exit 0) [] [(bT (fl Kn o2) 366)] [0] [(0,.any),(3,.any),(9,.any),(10,.any),(11,jI (↑(0:Nat):Int))] [(bT (fl Kn ([false,false,false,false,false,false,false,false,false,false]:(List Bool))) 366)],oc] (fun γ=>k2 (rfl:(jI 0:AV)=jI (↑(0:Nat):Int)) (k2 (rfl:((bT [.bool false,.bool false,.bool false,.bool false,.bool false,.bool false,.bool false,.bool false,.bool false,.bool false] 366):Hb)=KO [0] (bT (fl Kn ([false,false,false,false,false,false,false,false,false,false]:(List Bool))) 366)) (Gb (ZL l_0 (s:=((0:Nat),([false,false,false,false,false,false,false,false,false,false]:(List Bool)))) (r:=Sum.inr (o2)) (eS γ.1.2 γ.2))))) <|
  .leaf 0 []))
def YQ (l_0:(List Gk)):Option Int:=(GdC l_0).den
theorem Zv (l_0:(List Gk)) (r:Int) (h:YQ l_0=some r):RT 132 [.lst (fl Gk.enc l_0) l_0.length] (jI r) []:=
 HA.of_ht 400 (GdC l_0) (fun (r:Int)=>jI r) (fun (r:Int)=>[]) (by kernel_rfl) h
def Gka (class_0:Int):HT Bool True:=.run [oc] (fun _=>Hg) <|
  .sp (class_0≥(1:Int))
  (.run (oc::oa::oc::tc::oa::(cs 2 [])) (fun γ=>Gb (dT γ.2)) <|
  .leaf (decide (class_0≤(9:Int))) [])
  (.run (oc::oa::oc::oF::(cs 3 [])) (fun γ=>Gb (dF γ.2)) <|
  .leaf false [])
def Glc (class_0:Int):Option Bool:=(Gka class_0).den
theorem Grw (class_0:Int) (r:Bool) (h:Glc class_0=some r):RT 99 [jI class_0] (.bool r) []:=
 HA.of_ht 400 (Gka class_0) (fun (r:Bool)=>.bool r) (fun (r:Bool)=>[]) (by kernel_rfl) h
def V0 (l_0:(List Gk)) (k3:Nat):Nat→HT (Nat⊕(Unit⊕Unit)) True
 | k4=>.run (cs 2 [oa]) (fun _=>Hg) <|
  .sp ((↑k4:Int)<(↑k3:Int))
  (.run [bt] (fun γ=>Gb (dT γ.2)) <|
  .bd (l_0[k4]?) fun x74=>.bd (l_0[k3]?) fun x76=>.run (cs 2 ((oN (.i k4))::oc::(oN (.v [jI x74.Class]))::(cs 2 [oN (.i k3),oc,oN (.v [jI x76.Class]),oa]))) (fun γ=>k2 (ir γ.1.2) (k2 (GD (f:=Gk.enc) (z:=2) (fun _=>rfl) γ.1.2) (k2 (GL (f:=Gk.enc) (z:=3) (j:=k4) (a:=2) (n:=1) (fun _=>rfl) γ.1.2 (by decide) rfl) (k2 (ir γ.2) (k2 (GD (f:=Gk.enc) (z:=2) (fun _=>rfl) γ.2) (Gb (GL (f:=Gk.enc) (z:=3) (j:=k3) (a:=2) (n:=1) (fun _=>rfl) γ.2 (by decide) rfl))))))) <|
  .sp (x74.Class=x76.Class)
  (.run [bt,oc] (fun γ=>Gb (Gu γ.2)) <|
  .leaf (.inr (.inl ())) [])
  (.run [bf] (fun γ=>Gb (Gz γ.2)) <|
  .gd (GS .i64 ((↑k4:Int)+1)) <| .run [oc,ow,oc] (fun γ=>Gb γ.2) <|
  .leaf (.inl (k4+1)) []))
  (.run [bf] (fun γ=>Gb (dF γ.2)) <|
  .leaf (.inr (.inr (()))) [])
def Ki (l_0:(List Gk)) (k3:Nat):Nat→Option (Nat⊕(Unit⊕Unit)):=fun s=>(V0 l_0 k3 s).den
def GgU (l_0:(List Gk)) (k3:Nat):Nat→PS:=fun s=>(80,[(0,.lst (fl Gk.enc l_0) l_0.length),(3,jI (↑k3:Int)),(4,jI (↑s:Int))],[])
def GgV:(Unit⊕Unit)→Hm:=fun q=>match q with | Sum.inl o=>.ret | Sum.inr (o)=>(.exit 2)
def V1 (l_0:(List Gk)) (k3:Nat):(Unit⊕Unit)→List (Nat×AV):=fun q=>match q with | Sum.inl o=>[(2,jI 9)] | Sum.inr (o)=>[(0,.lst (fl Gk.enc l_0) l_0.length),(3,jI (↑k3:Int))]
def GgT (l_0:(List Gk)) (k3:Nat):(Unit⊕Unit)→List Hb:=fun _=>[]
theorem QL (l_0:(List Gk)) (k3:Nat) {s:Nat} {r:Unit⊕Unit} (h:lp (Ki l_0 k3) s=some r):DT 0 (.loop (GK Tryz.prog 31 [1,1,0,1,0,0,1,0,0,1,1,1,1,0,0])) (GgU l_0 k3 s).st (GgV r) (PS.st (80,V1 l_0 k3 r,GgT l_0 k3 r)):=
 GN.lp_ht 0 400 (GgU l_0 k3) GgV (fun q=>(80,V1 l_0 k3 q,GgT l_0 k3 q)) (V0 l_0 k3) (by intro k4; kernel_rfl) h
def Yp (l_0:(List Gk)):Nat→HT (Nat⊕(Int⊕Unit)) True
 | k3=>.run (cs 3 [oa]) (fun _=>Hg) <|
  .sp ((↑k3:Int)<(↑l_0.length:Int))
  (.run [bt] (fun γ=>Gb (dT γ.2)) <|
  .bd (l_0[k3]?) fun x51=>.sp (x51.From<(1:Int))
  (.run (cs 2 ((oN (.i k3))::oc::(oN (.v [jI x51.From]))::oa::oc::tc::tc::tc::tc::tc::tc::tc::tc::tc::tc::tc::(oN (.b true))::(cs 8 [bt,oc]))) (fun γ=>k2 (ir γ.1.2) (k2 (GD (f:=Gk.enc) (z:=2) (fun _=>rfl) γ.1.2) (k2 (GL (f:=Gk.enc) (z:=3) (j:=k3) (a:=0) (n:=1) (fun _=>rfl) γ.1.2 (by decide) rfl) (k2 (dT γ.2) (k2 (dT γ.2) (k2 (dT γ.2) (k2 (dT γ.2) (k2 (dT γ.2) (k2 (dT γ.2) (k2 (dT γ.2) (k2 (dT γ.2) (k2 (dT γ.2) (k2 (dT γ.2) (k2 (dT γ.2) (k2 (dT γ.2) (Gb tT)))))))))))))))) <|
  .leaf (.inr (.inl 1)) [])
  (.sp (x51.To<x51.From)
  (.run (cs 2 [oN (.i k3),oc,oN (.v [jI x51.From]),oa,oc,oF,oF,.op (some false) (.i k3),oF,.op (some false) (.v [jI x51.To]),oF,oF,.op (some false) (.i k3),oF,.op (some false) (.v [jI x51.From]),oG,oN (.b false),oc,tc,tc,tc,tc,tc,tc,oN (.b true),bt,oc]) (fun γ=>k2 (ir γ.1.1.2) (k2 (GD (f:=Gk.enc) (z:=2) (fun _=>rfl) γ.1.1.2) (k2 (GL (f:=Gk.enc) (z:=3) (j:=k3) (a:=0) (n:=1) (fun _=>rfl) γ.1.1.2 (by decide) rfl) (k2 (dF γ.1.2) (k2 (dF γ.1.2) (k2 (dF γ.1.2) (k2 (ir γ.1.1.2) (k2 (GD (f:=Gk.enc) (z:=2) (fun _=>rfl) γ.1.1.2) (k2 (dF γ.1.2) (k2 (dF γ.1.2) (k2 (GL (f:=Gk.enc) (z:=3) (j:=k3) (a:=1) (n:=1) (fun _=>rfl) γ.1.1.2 (by decide) rfl) (k2 (dF γ.1.2) (k2 (dF γ.1.2) (k2 (dF γ.1.2) (k2 (ir γ.1.1.2) (k2 (GD (f:=Gk.enc) (z:=2) (fun _=>rfl) γ.1.1.2) (k2 (dF γ.1.2) (k2 (dF γ.1.2) (k2 (GL (f:=Gk.enc) (z:=3) (j:=k3) (a:=0) (n:=1) (fun _=>rfl) γ.1.1.2 (by decide) rfl) (k2 (dF γ.1.2) (k2 (dF γ.1.2) (k2 (dT γ.2) (k2 (dT γ.2) (k2 (dT γ.2) (k2 (dT γ.2) (k2 (dT γ.2) (k2 (dT γ.2) (k2 (dT γ.2) (Gb tT))))))))))))))))))))))))))))) <|
  .leaf (.inr (.inl 1)) [])
  (.run (cs 2 [oN (.i k3),oc,oN (.v [jI x51.From]),oa,oc,oF,oF,.op (some false) (.i k3),oF,.op (some false) (.v [jI x51.To]),oF,oF,.op (some false) (.i k3),oF,.op (some false) (.v [jI x51.From]),oG,oN (.b false),oc,oF,oF,.op (some false) (.i k3),oF,.op (some false) (.v [jI x51.To]),oG,oN (.b false)]) (fun γ=>k2 (ir γ.1.1.2) (k2 (GD (f:=Gk.enc) (z:=2) (fun _=>rfl) γ.1.1.2) (k2 (GL (f:=Gk.enc) (z:=3) (j:=k3) (a:=0) (n:=1) (fun _=>rfl) γ.1.1.2 (by decide) rfl) (k2 (dF γ.1.2) (k2 (dF γ.1.2) (k2 (dF γ.1.2) (k2 (ir γ.1.1.2) (k2 (GD (f:=Gk.enc) (z:=2) (fun _=>rfl) γ.1.1.2) (k2 (dF γ.1.2) (k2 (dF γ.1.2) (k2 (GL (f:=Gk.enc) (z:=3) (j:=k3) (a:=1) (n:=1) (fun _=>rfl) γ.1.1.2 (by decide) rfl) (k2 (dF γ.1.2) (k2 (dF γ.1.2) (k2 (dF γ.1.2) (k2 (ir γ.1.1.2) (k2 (GD (f:=Gk.enc) (z:=2) (fun _=>rfl) γ.1.1.2) (k2 (dF γ.1.2) (k2 (dF γ.1.2) (k2 (GL (f:=Gk.enc) (z:=3) (j:=k3) (a:=0) (n:=1) (fun _=>rfl) γ.1.1.2 (by decide) rfl) (k2 (dF γ.1.2) (k2 (dF γ.1.2) (k2 (dF γ.2) (k2 (dF γ.2) (k2 (dF γ.2) (k2 (ir γ.1.1.2) (k2 (GD (f:=Gk.enc) (z:=2) (fun _=>rfl) γ.1.1.2) (k2 (dF γ.2) (k2 (dF γ.2) (k2 (GL (f:=Gk.enc) (z:=3) (j:=k3) (a:=1) (n:=1) (fun _=>rfl) γ.1.1.2 (by decide) rfl) (k2 (dF γ.2) (Gb (dF γ.2)))))))))))))))))))))))))))))))) <|
  .sp (x51.To>(20:Int))
  (.run [bt,oc] (fun γ=>Gb (dT γ.2)) <|
  .leaf (.inr (.inl 1)) [])
  (.run [bf] (fun γ=>Gb (dF γ.2)) <|
  .bd (Glc x51.Class) fun r56=>.run (cs 2 [oN (.i k3),oc,oN (.v [jI x51.Class]),rN [.any] (.bool r56) [],oc]) (fun γ=>k2 (ir (HW γ)) (k2 (GD (f:=Gk.enc) (z:=2) (fun _=>rfl) (HW γ)) (k2 (GL (f:=Gk.enc) (z:=3) (j:=k3) (a:=2) (n:=1) (fun _=>rfl) (HW γ) (by decide) rfl) (Gb (Grw x51.Class r56 γ.2))))) <|
  .sp (r56=true)
  (.run [bf] (fun γ=>Gb ((Gx γ.2):(!r56)=false)) <|
  .sp ((↑k3:Int)>(0:Int))
  (.gd (GS .i64 ((↑k3:Int) - 1)) <| .gd ((0:Int)≤((↑k3:Int) - 1)) <| .bd (l_0[(Int.toNat ((↑k3:Int) - 1))]?) fun x62=>.run [oc,oa,oc,tc,tc,.op (some true) (.i k3),tc,.op (some true) (.v [jI x51.From]),tc,tc,tw,.op (some true) (.i (Int.toNat ((↑k3:Int) - 1))),tc,.op (some true) (.v [jI x62.To]),ta,oN (.b true)] (fun γ=>k2 (dT (G0 γ)) (k2 (dT (G0 γ)) (k2 (dT (G0 γ)) (k2 (ir (yA9 γ)) (k2 (GD (f:=Gk.enc) (z:=2) (fun _=>rfl) (yA9 γ)) (k2 (dT (G0 γ)) (k2 (dT (G0 γ)) (k2 (GL (f:=Gk.enc) (z:=3) (j:=k3) (a:=0) (n:=1) (fun _=>rfl) (yA9 γ) (by decide) rfl) (k2 (dT (G0 γ)) (k2 (dT (G0 γ)) (k2 (dT (G0 γ)) (k2 γ.1.1.2 (k2 (dT (G0 γ)) (k2 (ix γ.1.2 γ.2) (k2 (GD (f:=Gk.enc) (z:=2) (fun _=>rfl) γ.2) (k2 (dT (G0 γ)) (k2 (dT (G0 γ)) (k2 (GL (f:=Gk.enc) (z:=3) (j:=(Int.toNat ((↑k3:Int) - 1))) (a:=1) (n:=1) (fun _=>rfl) γ.2 (by decide) rfl) (k2 (dT (G0 γ)) (Gb (dT (G0 γ)))))))))))))))))))))) <|
  .sp (x51.From≤x62.To)
  (.run [bt,oc] (fun γ=>Gb (dT γ.2)) <|
  .leaf (.inr (.inl 15)) [])
  (.run [bf,oc] (fun γ=>Gb (dF γ.2)) <|
  .bd (lp (Ki l_0 k3) (0:Nat)) fun qq=>.cs qq (fun o65=>.run [.fcut 0 .ret [(2,jI 9)] [] [] [(0,.any),(3,.any),(4,jI (↑(0:Nat):Int))] []] (fun γ=>k2 (rfl:(jI 0:AV)=jI (↑(0:Nat):Int)) (Gb (QL l_0 k3 (s:=(0:Nat)) (r:=Sum.inl o65) (eS γ.1.2 γ.2)))) <|
  .leaf (.inr (.inl 9)) [])
  (fun o65=>.run [.fcut 0 (.exit 2) (V1 l_0 k3 (Sum.inr (o65))) [] [] [(0,.any),(3,.any),(4,jI (↑(0:Nat):Int))] []] (fun γ=>k2 (rfl:(jI 0:AV)=jI (↑(0:Nat):Int)) (Gb (QL l_0 k3 (s:=(0:Nat)) (r:=Sum.inr (o65)) (eS γ.1.2 γ.2)))) <|
  .gd (GS .i64 ((↑k3:Int)+1)) <| .run [oc,ow,oc] (fun γ=>Gb γ.2) <|
  .leaf (.inl (k3+1)) [])))
  (.run [oc,oa,oc,oF,oF,oF,oF,oF,oF,oF,oF,oF,oF,oF,oF,oN (.b false),bf,oc] (fun γ=>k2 (dF γ.2) (k2 (dF γ.2) (k2 (dF γ.2) (k2 (dF γ.2) (k2 (dF γ.2) (k2 (dF γ.2) (k2 (dF γ.2) (k2 (dF γ.2) (k2 (dF γ.2) (k2 (dF γ.2) (k2 (dF γ.2) (k2 (dF γ.2) (k2 (dF γ.2) (Gb fF)))))))))))))) <|
  .bd (lp (Ki l_0 k3) (0:Nat)) fun qq=>.cs qq (fun o81=>.run [.fcut 0 .ret [(2,jI 9)] [] [] [(0,.any),(3,.any),(4,jI (↑(0:Nat):Int))] []] (fun γ=>k2 (rfl:(jI 0:AV)=jI (↑(0:Nat):Int)) (Gb (QL l_0 k3 (s:=(0:Nat)) (r:=Sum.inl o81) (eS γ.1.2 γ.2)))) <|
  .leaf (.inr (.inl 9)) [])
  (fun o81=>.run [.fcut 0 (.exit 2) (V1 l_0 k3 (Sum.inr (o81))) [] [] [(0,.any),(3,.any),(4,jI (↑(0:Nat):Int))] []] (fun γ=>k2 (rfl:(jI 0:AV)=jI (↑(0:Nat):Int)) (Gb (QL l_0 k3 (s:=(0:Nat)) (r:=Sum.inr (o81)) (eS γ.1.2 γ.2)))) <|
  .gd (GS .i64 ((↑k3:Int)+1)) <| .run [oc,ow,oc] (fun γ=>Gb γ.2) <|
  .leaf (.inl (k3+1)) [])))
  (.run [bt,oc] (fun γ=>Gb ((Gy (Ja γ.2)):(!r56)=true)) <|
  .leaf (.inr (.inl 20)) [])))))
  (.run [bf] (fun γ=>Gb (dF γ.2)) <|
  .leaf (.inr (.inr (()))) [])
def MQ (l_0:(List Gk)):Nat→Option (Nat⊕(Int⊕Unit)):=fun s=>(Yp l_0 s).den
def GiP (l_0:(List Gk)):Nat→PS:=fun s=>(80,[(0,.lst (fl Gk.enc l_0) l_0.length),(3,jI (↑s:Int))],[])
def GiR:(Int⊕Unit)→Hm:=fun q=>match q with | Sum.inl o=>.ret | Sum.inr (o)=>(.exit 0)
def GiQ (l_0:(List Gk)):(Int⊕Unit)→List (Nat×AV):=fun q=>match q with | Sum.inl o=>[(2,jI o)] | Sum.inr (o)=>[]
def GiO (l_0:(List Gk)):(Int⊕Unit)→List Hb:=fun _=>[]
theorem Gel (l_0:(List Gk)) {s:Nat} {r:Int⊕Unit} (h:lp (MQ l_0) s=some r):DT 0 (.loop (GK Tryz.prog 31 [1,1,0,1,0,0])) (GiP l_0 s).st (GiR r) (PS.st (80,GiQ l_0 r,GiO l_0 r)):=
 GN.lp_ht 0 400 (GiP l_0) GiR (fun q=>(80,GiQ l_0 q,GiO l_0 q)) (Yp l_0) (by intro k3; kernel_rfl) h
def Gj9 (l_0:(List Gk)):HT Int True:=.run (cs 3 [oa]) (fun _=>Hg) <|
  .sp ((↑l_0.length:Int)>(9:Int))
  (.run [bt,oc] (fun γ=>Gb (dT γ.2)) <|
  .leaf 3 [])
  (.run [bf,oc] (fun γ=>Gb (dF γ.2)) <|
  .bd (lp (MQ l_0) (0:Nat)) fun qq=>.cs qq (fun o2=>.run [.fcut 0 .ret [(2,jI o2)] [] [] [(0,.any),(3,jI (↑(0:Nat):Int))] []] (fun γ=>k2 (rfl:(jI 0:AV)=jI (↑(0:Nat):Int)) (Gb (Gel l_0 (s:=(0:Nat)) (r:=Sum.inl o2) (eS γ.1.2 γ.2)))) <|
  .leaf o2 [])
  (fun o2=>.run [.fcut 0 (.exit 0) [] [] [] [(0,.any),(3,jI (↑(0:Nat):Int))] [],oc] (fun γ=>k2 (rfl:(jI 0:AV)=jI (↑(0:Nat):Int)) (Gb (Gel l_0 (s:=(0:Nat)) (r:=Sum.inr (o2)) (eS γ.1.2 γ.2)))) <|
  .leaf 0 []))
def GgS (l_0:(List Gk)):Option Int:=(Gj9 l_0).den
theorem Gal (l_0:(List Gk)) (r:Int) (h:GgS l_0=some r):RT 31 [.lst (fl Gk.enc l_0) l_0.length] (jI r) []:=
 HA.of_ht 400 (Gj9 l_0) (fun (r:Int)=>jI r) (fun (r:Int)=>[]) (by kernel_rfl) h
end
set_option maxHeartbeats 4000000
noncomputable section
theorem Gsz (n:Int):GkN n=some (decide (1≤n∧n≤9)):=by
 simp only [GkN,GjZ,dA,eN,eM]
 grind
theorem Gpb (n:Int):Glc n=some (decide (1≤n∧n≤9)):=by
 simp only [Glc,Gka,dA,eN,eM]
 grind
def Guk (l:List Gk) (n:Nat) (x:Gk):Bool:=(l.take n).any (fun y=>decide (y.Class=x.Class))
def Grf (l:List Gk) (k:Nat) (x:Gk):Option Int:=
 if x.From<1∨x.To<x.From∨x.To>20 then some 1
 else if ¬ (1≤x.Class∧x.Class≤9) then some 20
 else if 0<k∧x.From≤((l[k - 1]?).map (·.To)).getD 0 then some 15
 else if Guk l k x then some 9 else none
theorem GwT (l:List Gk) (hl:Sm l) (n:Nat) (x:Gk) (hx:l[n]?=some x):lp (Ki l n) 0=some (HQ (if Guk l n x then some () else none)):=by
 have hn:=Hl hx
 unfold Guk
 rw [← Hq (l.take n) 0]
 refine JW (l:=l) (n:=n) (by omega) (fun k y hk hy=>?_) ?_
 ·have i1:GS .i64 ((k:Int)+1):=sm1 hl (by omega)
  clear hl
  simp only [Ki,V0,dA,eN,eM,hx,hy,Hd,i1,if_true]
  clear i1
  grind [K0]
 ·simp only [Ki,V0,dA,eN,eM]
  grind
theorem Gpa (l:List Gk) (hl:Sm l):GgS l=some (if l.length>9 then 3 else (GJ (Grf l) 0 l).getD 0):=by
 simp only [GgS,Gj9,dA,eN,eM]
 have key:lp (MQ l) 0=some (HQ (GJ (Grf l) 0 l)):=by
  refine GP (fun k x hx=>?_) ?_
  ·have hk:=Hl hx
   have i1:GS .i64 ((k:Int)+1):=sm1 hl (by omega)
   have i2:GS .i64 ((k:Int) - 1):=Mh (by omega) (by omega)
   have hd0:=GwT l hl k x hx
   clear hl
   have h1:l[k - 1]?=some l[k - 1]:=List.getElem?_eq_getElem (by omega)
   have h2:((k:Int) - 1).toNat=k - 1:=by omega
   simp only [MQ,Yp,dA,eN,eM,hx,Hd,Gpb,hd0,h2,h1,Grf,i1,i2,if_true]
   clear i1 i2
   cases hd:Guk l k x <;> simp only [hd,HQ,dA,eN,eM,if_true,if_false,Bool.false_eq_true] <;> grind [K0]
  ·simp only [MQ,Yp,dA,eN,eM]
   grind
 rw [key]
 cases GJ (Grf l) 0 l <;> simp only [HQ,Hd,dA,eN,eM] <;> grind
theorem Got (l:List Gk) (hl:Sm l):YQ l=some (if l.length>9 then 3 else (GJ (Grf l) 0 l).getD 0):=by
 simp only [YQ,GdC,dA,eN,eM]
 have key:=GhN (l:=l) (mk:=fun k b=>(k,b)) (step:=Kp l) (g:=Grf l) (out:=fst) (J:=fun _=>True) (fun k b=>b.length=10∧∀ n:Nat,n<10→b[n]?=some ((l.take k).any fun y=>decide (y.Class=(n:Int))))
  (fun k x b hx hb=>?_) (fun b hb=>?_) (b:=[false,false,false,false,false,false,false,false,false,false]) (by constructor; rfl; intro n hn; match n,hn with | 0,_=>rfl | 1,_=>rfl | 2,_=>rfl | 3,_=>rfl | 4,_=>rfl | 5,_=>rfl | 6,_=>rfl | 7,_=>rfl | 8,_=>rfl | 9,_=>rfl)
 ·by_cases h9:l.length>9
  ·rw [if_pos (by omega),if_pos h9]
  rw [if_neg (by omega),if_neg h9]
  cases he:GJ (Grf l) 0 l with
  | some r=>
   obtain ⟨q,h1,h2⟩:=key.1 r he
   rw [h1]; simp only [Hd,eN,d1,Option.getD_some,h2]
  | none=>
   obtain ⟨q,h1,_⟩:=key.2 he
   rw [h1]; simp only [Hd,eM,d1,Option.getD_none]
 ·have hk:=Hl hx
  have i1:GS .i64 ((k:Int)+1):=sm1 hl (by omega)
  have h1:l[k - 1]?=some l[k - 1]:=List.getElem?_eq_getElem (by omega)
  have h2:((k:Int) - 1).toNat=k - 1:=by omega
  have hkl:(k:Int)<(l.length:Int):=by omega
  have i2:GS .i64 ((k:Int) - 1):=Mh (by omega) (by unfold Sm at hl; omega)
  clear hl
  simp only [Kp,RF,dA,eN,eM,hx,Hd,Gsz,h2,h1,Grf,i1,i2,if_true,hkl]
  clear i1 i2
  by_cases c1:x.From<1∨x.To<x.From∨x.To>20
  ·rw [if_pos c1]
   exact .inl ⟨1,(1,b),rfl,by grind,rfl⟩
  rw [if_neg c1]
  by_cases c2:1≤x.Class∧x.Class≤9
  rotate_left
  ·rw [if_pos c2]
   exact .inl ⟨20,(20,b),rfl,by grind,rfl⟩
  rw [if_neg (fun h=>h c2)]
  have c3:x.Class.toNat<10:=by omega
  have hbn:=hb.2 x.Class.toNat c3
  have c4:((x.Class.toNat:Nat):Int)=x.Class:=by omega
  rw [c4] at hbn
  by_cases c5:0<k∧x.From≤((some l[k - 1]).map (·.To)).getD 0
  ·rw [if_pos c5]
   exact .inl ⟨15,(15,b),rfl,by grind,rfl⟩
  rw [if_neg c5]
  cases hd:Guk l k x with
  | true=>
   unfold Guk at hd
   rw [hd] at hbn
   exact .inl ⟨9,(9,b),rfl,by grind,rfl⟩
  | false=>
   unfold Guk at hd
   rw [hd] at hbn
   refine .inr ⟨rfl,b.set x.Class.toNat true,by grind,by rw [List.length_set]; exact hb.1,fun n hn=>?_⟩
   rw [List.getElem?_set,List.take_add_one,hx]
   simp only [Option.toList,List.any_append,List.any_cons,List.any_nil,Bool.or_false]
   by_cases e:x.Class.toNat=n
   ·subst e
    rw [if_pos rfl,if_pos (by rw [hb.1]; exact c3),c4]
    simp
   ·rw [if_neg e,hb.2 n hn,show decide (x.Class=(n:Int))=false from dF (by omega),Bool.or_false]
 ·refine ⟨b,?_,trivial⟩
  simp only [Kp,RF,d3,d6,d1]
  rw [if_neg (by omega)]
end
set_option maxHeartbeats 4000000
set_option maxRecDepth 100000
noncomputable section
open Go Go.Proofs
def J9 (s_0:GI):Nat→HT (Nat⊕(Int⊕Unit)) True
 | k40=>.run [oa] (fun _=>Hg) <|
  .sp ((↑k40:Int)<(↑s_0.Up.length:Int))
  (.run (bt::(cs 2 [])) (fun γ=>Gb (dT γ.2)) <|
  .bd (s_0.Down[k40]?) fun x28=>.sp (x28<(0:Int))
  (.run (cs 3 ((oN (.i k40))::(vI x28)::oa::oc::tc::tc::tc::tc::tc::tc::tc::tc::tc::tc::tc::(oN (.b true))::(cs 8 [bt,oc]))) (fun γ=>k2 (ir γ.1.2) (k2 (GD (f:=GU) (z:=0) (fun _=>rfl) γ.1.2) (k2 (H3 γ.1.2) (k2 (dT γ.2) (k2 (dT γ.2) (k2 (dT γ.2) (k2 (dT γ.2) (k2 (dT γ.2) (k2 (dT γ.2) (k2 (dT γ.2) (k2 (dT γ.2) (k2 (dT γ.2) (k2 (dT γ.2) (k2 (dT γ.2) (k2 (dT γ.2) (Gb tT)))))))))))))))) <|
  .leaf (.inr (.inl 1)) [0])
  (.bd (s_0.Up[k40]?) fun x31=>.sp (x28≥x31)
  (.run (cs 3 [oN (.i k40),vI x28,oa,oc,oF,oF,oF,.op (some false) (.i k40),.op (some false) (.v [jI x28]),oF,oF,oF,.op (some false) (.i k40),.op (some false) (.v [jI x31]),oG,oN (.b false),oc,tc,tc,tc,tc,tc,tc,oN (.b true),bt,oc]) (fun γ=>k2 (ir (G0 γ)) (k2 (GD (f:=GU) (z:=0) (fun _=>rfl) (G0 γ)) (k2 (H3 (G0 γ)) (k2 (dF γ.1.1.2) (k2 (dF γ.1.1.2) (k2 (dF γ.1.1.2) (k2 (dF γ.1.1.2) (k2 (ir (G0 γ)) (k2 (GD (f:=GU) (z:=0) (fun _=>rfl) (G0 γ)) (k2 (dF γ.1.1.2) (k2 (H3 (G0 γ)) (k2 (dF γ.1.1.2) (k2 (dF γ.1.1.2) (k2 (dF γ.1.1.2) (k2 (dF γ.1.1.2) (k2 (ir γ.1.2) (k2 (GD (f:=GU) (z:=0) (fun _=>rfl) γ.1.2) (k2 (dF γ.1.1.2) (k2 (H3 γ.1.2) (k2 (dF γ.1.1.2) (k2 (dF γ.1.1.2) (k2 (dT γ.2) (k2 (dT γ.2) (k2 (dT γ.2) (k2 (dT γ.2) (k2 (dT γ.2) (k2 (dT γ.2) (k2 (dT γ.2) (Gb tT))))))))))))))))))))))))))))) <|
  .leaf (.inr (.inl 1)) [0])
  (.run (cs 3 [oN (.i k40),vI x28,oa,oc,oF,oF,oF,.op (some false) (.i k40),.op (some false) (.v [jI x28]),oF,oF,oF,.op (some false) (.i k40),.op (some false) (.v [jI x31]),oG,oN (.b false),oc,oF,oF,oF,.op (some false) (.i k40),.op (some false) (.v [jI x31]),oG,oN (.b false)]) (fun γ=>k2 (ir (G0 γ)) (k2 (GD (f:=GU) (z:=0) (fun _=>rfl) (G0 γ)) (k2 (H3 (G0 γ)) (k2 (dF γ.1.1.2) (k2 (dF γ.1.1.2) (k2 (dF γ.1.1.2) (k2 (dF γ.1.1.2) (k2 (ir (G0 γ)) (k2 (GD (f:=GU) (z:=0) (fun _=>rfl) (G0 γ)) (k2 (dF γ.1.1.2) (k2 (H3 (G0 γ)) (k2 (dF γ.1.1.2) (k2 (dF γ.1.1.2) (k2 (dF γ.1.1.2) (k2 (dF γ.1.1.2) (k2 (ir γ.1.2) (k2 (GD (f:=GU) (z:=0) (fun _=>rfl) γ.1.2) (k2 (dF γ.1.1.2) (k2 (H3 γ.1.2) (k2 (dF γ.1.1.2) (k2 (dF γ.1.1.2) (k2 (dF γ.2) (k2 (dF γ.2) (k2 (dF γ.2) (k2 (dF γ.2) (k2 (ir γ.1.2) (k2 (GD (f:=GU) (z:=0) (fun _=>rfl) γ.1.2) (k2 (dF γ.2) (k2 (H3 γ.1.2) (k2 (dF γ.2) (Gb (dF γ.2)))))))))))))))))))))))))))))))) <|
  .sp (x31>(2147483648:Int))
  (.run [bt,oc] (fun γ=>Gb (dT γ.2)) <|
  .leaf (.inr (.inl 1)) [0])
  (.run [bf] (fun γ=>Gb (dF γ.2)) <|
  .sp ((↑k40:Int)>(0:Int))
  (.gd (GS .i64 ((↑k40:Int) - 1)) <| .gd ((0:Int)≤((↑k40:Int) - 1)) <| .bd (s_0.Up[(Int.toNat ((↑k40:Int) - 1))]?) fun x38=>.sp (x31≤x38)
  (.run [oc,oa,oc,tc,tc,tc,.op (some true) (.i k40),.op (some true) (.v [jI x31]),tc,tc,tc,tw,.op (some true) (.i (Int.toNat ((↑k40:Int) - 1))),.op (some true) (.v [jI x38]),ta,tc,tc,tc,tc,tc,tc,tc,tc,tc,tc,tc,tc,tc,.op (some true) (.b true),oN (.b true),bt,oc] (fun γ=>k2 (dT (HW γ)) (k2 (dT (HW γ)) (k2 (dT (HW γ)) (k2 (dT (HW γ)) (k2 (ir (RB γ)) (k2 (GD (f:=GU) (z:=0) (fun _=>rfl) (RB γ)) (k2 (dT (HW γ)) (k2 (H3 (RB γ)) (k2 (dT (HW γ)) (k2 (dT (HW γ)) (k2 (dT (HW γ)) (k2 (dT (HW γ)) (k2 (G0 γ) (k2 (dT (HW γ)) (k2 (ix γ.1.1.2 γ.1.2) (k2 (GD (f:=GU) (z:=0) (fun _=>rfl) γ.1.2) (k2 (dT (HW γ)) (k2 (H3 γ.1.2) (k2 (dT (HW γ)) (k2 (dT (HW γ)) (k2 (dT γ.2) (k2 (dT γ.2) (k2 (dT γ.2) (k2 (dT γ.2) (k2 (dT γ.2) (k2 (dT γ.2) (k2 (dT γ.2) (k2 (dT γ.2) (k2 (dT γ.2) (k2 (dT γ.2) (k2 (dT γ.2) (k2 (dT γ.2) (k2 (dT (HW γ)) (k2 (dT γ.2) (k2 (dT (HW γ)) (Gb tT)))))))))))))))))))))))))))))))))))) <|
  .leaf (.inr (.inl 15)) [0])
  (.bd (s_0.Down[(Int.toNat ((↑k40:Int) - 1))]?) fun x41=>.run [oc,oa,oc,tc,tc,tc,.op (some true) (.i k40),.op (some true) (.v [jI x31]),tc,tc,tc,tw,.op (some true) (.i (Int.toNat ((↑k40:Int) - 1))),.op (some true) (.v [jI x38]),ta,tc,oF,oF,oF,.op (some false) (.i k40),.op (some false) (.v [jI x28]),oF,oF,oF,.op (some false) .w,.op (some false) (.i (Int.toNat ((↑k40:Int) - 1))),.op (some false) (.v [jI x41]),oG,.op (some true) (.b false),oN (.b true)] (fun γ=>k2 (dT (RA γ)) (k2 (dT (RA γ)) (k2 (dT (RA γ)) (k2 (dT (RA γ)) (k2 (ir (yA8 γ)) (k2 (GD (f:=GU) (z:=0) (fun _=>rfl) (yA8 γ)) (k2 (dT (RA γ)) (k2 (H3 (yA8 γ)) (k2 (dT (RA γ)) (k2 (dT (RA γ)) (k2 (dT (RA γ)) (k2 (dT (RA γ)) (k2 (HW γ) (k2 (dT (RA γ)) (k2 (ix (G0 γ) γ.1.1.2) (k2 (GD (f:=GU) (z:=0) (fun _=>rfl) γ.1.1.2) (k2 (dT (RA γ)) (k2 (H3 γ.1.1.2) (k2 (dT (RA γ)) (k2 (dT (RA γ)) (k2 (dF γ.1.2) (k2 (dF γ.1.2) (k2 (dF γ.1.2) (k2 (dF γ.1.2) (k2 (ir (Gm1 γ)) (k2 (GD (f:=GU) (z:=0) (fun _=>rfl) (Gm1 γ)) (k2 (dF γ.1.2) (k2 (H3 (Gm1 γ)) (k2 (dF γ.1.2) (k2 (dF γ.1.2) (k2 (dF γ.1.2) (k2 (dF γ.1.2) (k2 (HW γ) (k2 (dF γ.1.2) (k2 (ix (G0 γ) γ.2) (k2 (GD (f:=GU) (z:=0) (fun _=>rfl) γ.2) (k2 (dF γ.1.2) (k2 (H3 γ.2) (k2 (dF γ.1.2) (k2 (dT (RA γ)) (k2 (dF γ.1.2) (Gb (dT (RA γ)))))))))))))))))))))))))))))))))))))))))))) <|
  .sp (x28≤x41)
  (.run [bt,oc] (fun γ=>Gb (dT γ.2)) <|
  .leaf (.inr (.inl 15)) [0])
  (.run [bf] (fun γ=>Gb (dF γ.2)) <|
  .gd (GS .i64 ((↑k40:Int)+1)) <| .run [ow,oc] (fun γ=>Gb γ.2) <|
  .leaf (.inl (k40+1)) [0])))
  (.run (oc::oa::oc::oF::oF::oF::oF::oF::oF::oF::oF::oF::oF::oF::oF::oF::(cs 12 [oF,oN (.b false),bf])) (fun γ=>k2 (dF γ.2) (k2 (dF γ.2) (k2 (dF γ.2) (k2 (dF γ.2) (k2 (dF γ.2) (k2 (dF γ.2) (k2 (dF γ.2) (k2 (dF γ.2) (k2 (dF γ.2) (k2 (dF γ.2) (k2 (dF γ.2) (k2 (dF γ.2) (k2 (dF γ.2) (k2 (dF γ.2) (k2 (dF γ.2) (Gb fF)))))))))))))))) <|
  .gd (GS .i64 ((↑k40:Int)+1)) <| .run [ow,oc] (fun γ=>Gb γ.2) <|
  .leaf (.inl (k40+1)) [0])))))
  (.run [bf] (fun γ=>Gb (dF γ.2)) <|
  .leaf (.inr (.inr (()))) [0])
def Hx (s_0:GI):Nat→Option (Nat⊕(Int⊕Unit)):=fun s=>(J9 s_0 s).den
def Y5 (s_0:GI):Nat→PS:=fun s=>(115,[(1,.ptr 0 0),(39,jI (↑s_0.Up.length:Int)),(40,jI (↑s:Int))],[(bT (GI.enc s_0) 35)])
def Y7:(Int⊕Unit)→Hm:=fun q=>match q with | Sum.inl o=>.ret | Sum.inr (o)=>(.exit 0)
def Y6 (s_0:GI):(Int⊕Unit)→List (Nat×AV):=fun q=>match q with | Sum.inl o=>[(2,jI o)] | Sum.inr (o)=>[(1,.ptr 0 0)]
def Y4 (s_0:GI):(Int⊕Unit)→List Hb:=fun _=>[(bT (GI.enc s_0) 35)]
theorem Vo (s_0:GI) {s:Nat} {r:Int⊕Unit} (h:lp (Hx s_0) s=some r):DT 1 (.loop (GK Tryz.prog 138 [1,1,1,0,1,0,0])) (Y5 s_0 s).st (Y7 r) (PS.st (115,Y6 s_0 r,Y4 s_0 r)):=
 GN.lp_ht 1 400 (Y5 s_0) Y7 (fun q=>(115,Y6 s_0 q,Y4 s_0 q)) (J9 s_0) (by intro k40; kernel_rfl) h
def JI (s_0:GI):Nat→HT (Nat⊕(Unit⊕Unit)) True
 | k104=>.run [oa] (fun _=>Hg) <|
  .sp ((↑k104:Int)<(↑s_0.Parts.length:Int))
  (.run [bt] (fun γ=>Gb (dT γ.2)) <|
  .bd (s_0.Parts[k104]?) fun x54=>.run [oN (.i k104),vI x54,oc] (fun γ=>k2 (ir γ.2) (k2 (GD (f:=GU) (z:=0) (fun _=>rfl) γ.2) (Gb (H3 γ.2)))) <|
  .sp (x54<(0:Int))
  (.run (oc::oa::oc::tc::(cs 2 [bt,oc])) (fun γ=>k2 (dT γ.2) (Gb tT)) <|
  .leaf (.inr (.inl ())) [])
  (.run [oc,oa,oc,oF,oa,oc] (fun γ=>Gb (dF γ.2)) <|
  .sp (x54>(10000:Int))
  (.run [bt,oc] (fun γ=>Gb (dT γ.2)) <|
  .leaf (.inr (.inl ())) [])
  (.run [bf] (fun γ=>Gb (dF γ.2)) <|
  .gd (GS .i64 ((↑k104:Int)+1)) <| .run [ow,oc] (fun γ=>Gb γ.2) <|
  .leaf (.inl (k104+1)) [])))
  (.run [bf] (fun γ=>Gb (dF γ.2)) <|
  .leaf (.inr (.inr (()))) [])
def Ht (s_0:GI):Nat→Option (Nat⊕(Unit⊕Unit)):=fun s=>(JI s_0 s).den
def XM (s_0:GI):Nat→PS:=fun s=>(115,[(102,.lst (fl GU s_0.Parts) s_0.Parts.length),(103,jI (↑s_0.Parts.length:Int)),(104,jI (↑s:Int))],[])
def XO:(Unit⊕Unit)→Hm:=fun q=>match q with | Sum.inl o=>.ret | Sum.inr (o)=>(.exit 2)
def XN (s_0:GI):(Unit⊕Unit)→List (Nat×AV):=fun q=>match q with | Sum.inl o=>[(2,jI 1)] | Sum.inr (o)=>[]
def XL (s_0:GI):(Unit⊕Unit)→List Hb:=fun _=>[]
theorem Uv (s_0:GI) {s:Nat} {r:Unit⊕Unit} (h:lp (Ht s_0) s=some r):DT 0 (.loop (GK Tryz.prog 138 [1,1,1,1,0,1,0,0])) (XM s_0 s).st (XO r) (PS.st (115,XN s_0 r,XL s_0 r)):=
 GN.lp_ht 0 400 (XM s_0) XO (fun q=>(115,XN s_0 q,XL s_0 q)) (JI s_0) (by intro k104; kernel_rfl) h
def QW (s_0:GI):HT Int True:=.run (cs 5 [oa]) (fun _=>Hg) <|
  .sp ((↑s_0.Up.length:Int)>(8:Int))
  (.run [bt,oc] (fun γ=>Gb (dT γ.2)) <|
  .leaf 3 [])
  (.run [bf] (fun γ=>Gb (dF γ.2)) <|
  .sp (s_0.Period<(1:Int))
  (.run (cs 2 (oa::oc::tc::(cs 22 [bt,oc]))) (fun γ=>k2 (dT γ.2) (Gb tT)) <|
  .leaf 1 [])
  (.sp (s_0.Period>(86400:Int))
  (.run (cs 2 (oa::oc::oF::oc::oa::(cs 2 (tc::(cs 17 [bt,oc]))))) (fun γ=>k2 (dF γ.1.2) (k2 (dT γ.2) (Gb tT))) <|
  .leaf 1 [])
  (.sp ((↑s_0.Down.length:Int)=(↑s_0.Up.length:Int))
  (.gd (GS .i64 ((↑s_0.Up.length:Int)+1)) <| .run (cs 2 (oa::oc::oF::oc::oa::(cs 2 (oF::(cs 5 (oa::(cs 2 (oF::(cs 5 [ow,oa,oc]))))))))) (fun γ=>k2 (dF (G0 γ)) (k2 (dF γ.1.1.2) (k2 (Gx (Gu γ.1.2)) (Gb γ.2)))) <|
  .sp ((↑s_0.Parts.length:Int)=((↑s_0.Up.length:Int)+1))
  (.run (bf::(cs 4 [])) (fun γ=>Gb (Gx (Gu γ.2))) <|
  .bd (lp (Hx s_0) (0:Nat)) fun qq=>.cs qq (fun o7=>.run [.fcut 1 .ret [(2,jI o7)] [(bT (GI.enc s_0) 35)] [0] [(1,.any),(39,.any),(40,jI (↑(0:Nat):Int))] [bS]] (fun γ=>k2 (rfl:(jI 0:AV)=jI (↑(0:Nat):Int)) (Gb (Vo s_0 (s:=(0:Nat)) (r:=Sum.inl o7) (eS γ.1.2 γ.2)))) <|
  .leaf o7 [])
  (fun o7=>.run ((.fcut 1 (.exit 0) [(1,.ptr 0 0)] [(bT (GI.enc s_0) 35)] [0] [(1,.any),(39,.any),(40,jI (↑(0:Nat):Int))] [bS])::(cs 4 [])) (fun γ=>k2 (rfl:(jI 0:AV)=jI (↑(0:Nat):Int)) (Gb (Vo s_0 (s:=(0:Nat)) (r:=Sum.inr (o7)) (eS γ.1.2 γ.2)))) <|
  .bd (lp (Ht s_0) (0:Nat)) fun qq=>.cs qq (fun o46=>.run [.fcut 0 .ret [(2,jI 1)] [] [] [(102,.any),(103,.any),(104,jI (↑(0:Nat):Int))] []] (fun γ=>k2 (rfl:(jI 0:AV)=jI (↑(0:Nat):Int)) (Gb (Uv s_0 (s:=(0:Nat)) (r:=Sum.inl o46) (eS γ.1.2 γ.2)))) <|
  .leaf 1 [])
  (fun o46=>.run [.fcut 0 (.exit 2) [] [] [] [(102,.any),(103,.any),(104,jI (↑(0:Nat):Int))] [],oc] (fun γ=>k2 (rfl:(jI 0:AV)=jI (↑(0:Nat):Int)) (Gb (Uv s_0 (s:=(0:Nat)) (r:=Sum.inr (o46)) (eS γ.1.2 γ.2)))) <|
  .leaf 0 [])))
  (.run [bt,oc] (fun γ=>Gb (Gy (Gz γ.2))) <|
  .leaf 1 []))
  (.run (cs 2 (oa::oc::oF::oc::oa::(cs 2 (oF::(cs 5 (oa::(cs 2 (tc::(cs 8 [bt,oc]))))))))) (fun γ=>k2 (dF γ.1.1.2) (k2 (dF γ.1.2) (k2 (Gy (Gz γ.2)) (Gb tT)))) <|
  .leaf 1 []))))
def Qs (s_0:GI):Option Int:=(QW s_0).den
theorem Z5 (s_0:GI) (r:Int) (h:Qs s_0=some r):RT 138 [.agg (GI.enc s_0)] (jI r) []:=
 HA.of_ht 400 (QW s_0) (fun (r:Int)=>jI r) (fun (r:Int)=>[]) (by kernel_rfl) h
def GdJ (s_0:GI):Nat→HT (Nat⊕(Int⊕Unit)) True
 | k3=>.run (cs 4 [oa]) (fun _=>Hg) <|
  .sp ((↑k3:Int)<(↑s_0.Up.length:Int))
  (.run [bt] (fun γ=>Gb (dT γ.2)) <|
  .bd (s_0.Down[k3]?) fun x28=>.sp (x28<(0:Int))
  (.run (cs 3 ((oN (.i k3))::(vI x28)::oa::oc::tc::tc::tc::tc::tc::tc::tc::tc::tc::tc::tc::(oN (.b true))::(cs 8 [bt,oc]))) (fun γ=>k2 (ir γ.1.2) (k2 (GD (f:=GU) (z:=0) (fun _=>rfl) γ.1.2) (k2 (H3 γ.1.2) (k2 (dT γ.2) (k2 (dT γ.2) (k2 (dT γ.2) (k2 (dT γ.2) (k2 (dT γ.2) (k2 (dT γ.2) (k2 (dT γ.2) (k2 (dT γ.2) (k2 (dT γ.2) (k2 (dT γ.2) (k2 (dT γ.2) (k2 (dT γ.2) (Gb tT)))))))))))))))) <|
  .leaf (.inr (.inl 1)) [0])
  (.bd (s_0.Up[k3]?) fun x31=>.sp (x28≥x31)
  (.run (cs 3 [oN (.i k3),vI x28,oa,oc,oF,oF,oF,.op (some false) (.i k3),.op (some false) (.v [jI x28]),oF,oF,oF,.op (some false) (.i k3),.op (some false) (.v [jI x31]),oG,oN (.b false),oc,tc,tc,tc,tc,tc,tc,oN (.b true),bt,oc]) (fun γ=>k2 (ir (G0 γ)) (k2 (GD (f:=GU) (z:=0) (fun _=>rfl) (G0 γ)) (k2 (H3 (G0 γ)) (k2 (dF γ.1.1.2) (k2 (dF γ.1.1.2) (k2 (dF γ.1.1.2) (k2 (dF γ.1.1.2) (k2 (ir (G0 γ)) (k2 (GD (f:=GU) (z:=0) (fun _=>rfl) (G0 γ)) (k2 (dF γ.1.1.2) (k2 (H3 (G0 γ)) (k2 (dF γ.1.1.2) (k2 (dF γ.1.1.2) (k2 (dF γ.1.1.2) (k2 (dF γ.1.1.2) (k2 (ir γ.1.2) (k2 (GD (f:=GU) (z:=0) (fun _=>rfl) γ.1.2) (k2 (dF γ.1.1.2) (k2 (H3 γ.1.2) (k2 (dF γ.1.1.2) (k2 (dF γ.1.1.2) (k2 (dT γ.2) (k2 (dT γ.2) (k2 (dT γ.2) (k2 (dT γ.2) (k2 (dT γ.2) (k2 (dT γ.2) (k2 (dT γ.2) (Gb tT))))))))))))))))))))))))))))) <|
  .leaf (.inr (.inl 1)) [0])
  (.run (cs 3 [oN (.i k3),vI x28,oa,oc,oF,oF,oF,.op (some false) (.i k3),.op (some false) (.v [jI x28]),oF,oF,oF,.op (some false) (.i k3),.op (some false) (.v [jI x31]),oG,oN (.b false),oc,oF,oF,oF,.op (some false) (.i k3),.op (some false) (.v [jI x31]),oG,oN (.b false)]) (fun γ=>k2 (ir (G0 γ)) (k2 (GD (f:=GU) (z:=0) (fun _=>rfl) (G0 γ)) (k2 (H3 (G0 γ)) (k2 (dF γ.1.1.2) (k2 (dF γ.1.1.2) (k2 (dF γ.1.1.2) (k2 (dF γ.1.1.2) (k2 (ir (G0 γ)) (k2 (GD (f:=GU) (z:=0) (fun _=>rfl) (G0 γ)) (k2 (dF γ.1.1.2) (k2 (H3 (G0 γ)) (k2 (dF γ.1.1.2) (k2 (dF γ.1.1.2) (k2 (dF γ.1.1.2) (k2 (dF γ.1.1.2) (k2 (ir γ.1.2) (k2 (GD (f:=GU) (z:=0) (fun _=>rfl) γ.1.2) (k2 (dF γ.1.1.2) (k2 (H3 γ.1.2) (k2 (dF γ.1.1.2) (k2 (dF γ.1.1.2) (k2 (dF γ.2) (k2 (dF γ.2) (k2 (dF γ.2) (k2 (dF γ.2) (k2 (ir γ.1.2) (k2 (GD (f:=GU) (z:=0) (fun _=>rfl) γ.1.2) (k2 (dF γ.2) (k2 (H3 γ.1.2) (k2 (dF γ.2) (Gb (dF γ.2)))))))))))))))))))))))))))))))) <|
  .sp (x31>(2147483648:Int))
  (.run [bt,oc] (fun γ=>Gb (dT γ.2)) <|
  .leaf (.inr (.inl 1)) [0])
  (.run [bf] (fun γ=>Gb (dF γ.2)) <|
  .sp ((↑k3:Int)>(0:Int))
  (.gd (GS .i64 ((↑k3:Int) - 1)) <| .gd ((0:Int)≤((↑k3:Int) - 1)) <| .bd (s_0.Up[(Int.toNat ((↑k3:Int) - 1))]?) fun x38=>.sp (x31≤x38)
  (.run [oc,oa,oc,tc,tc,tc,.op (some true) (.i k3),.op (some true) (.v [jI x31]),tc,tc,tc,tw,.op (some true) (.i (Int.toNat ((↑k3:Int) - 1))),.op (some true) (.v [jI x38]),ta,tc,tc,tc,tc,tc,tc,tc,tc,tc,tc,tc,tc,tc,.op (some true) (.b true),oN (.b true),bt,oc] (fun γ=>k2 (dT (HW γ)) (k2 (dT (HW γ)) (k2 (dT (HW γ)) (k2 (dT (HW γ)) (k2 (ir (RB γ)) (k2 (GD (f:=GU) (z:=0) (fun _=>rfl) (RB γ)) (k2 (dT (HW γ)) (k2 (H3 (RB γ)) (k2 (dT (HW γ)) (k2 (dT (HW γ)) (k2 (dT (HW γ)) (k2 (dT (HW γ)) (k2 (G0 γ) (k2 (dT (HW γ)) (k2 (ix γ.1.1.2 γ.1.2) (k2 (GD (f:=GU) (z:=0) (fun _=>rfl) γ.1.2) (k2 (dT (HW γ)) (k2 (H3 γ.1.2) (k2 (dT (HW γ)) (k2 (dT (HW γ)) (k2 (dT γ.2) (k2 (dT γ.2) (k2 (dT γ.2) (k2 (dT γ.2) (k2 (dT γ.2) (k2 (dT γ.2) (k2 (dT γ.2) (k2 (dT γ.2) (k2 (dT γ.2) (k2 (dT γ.2) (k2 (dT γ.2) (k2 (dT γ.2) (k2 (dT (HW γ)) (k2 (dT γ.2) (k2 (dT (HW γ)) (Gb tT)))))))))))))))))))))))))))))))))))) <|
  .leaf (.inr (.inl 15)) [0])
  (.bd (s_0.Down[(Int.toNat ((↑k3:Int) - 1))]?) fun x41=>.run [oc,oa,oc,tc,tc,tc,.op (some true) (.i k3),.op (some true) (.v [jI x31]),tc,tc,tc,tw,.op (some true) (.i (Int.toNat ((↑k3:Int) - 1))),.op (some true) (.v [jI x38]),ta,tc,oF,oF,oF,.op (some false) (.i k3),.op (some false) (.v [jI x28]),oF,oF,oF,.op (some false) .w,.op (some false) (.i (Int.toNat ((↑k3:Int) - 1))),.op (some false) (.v [jI x41]),oG,.op (some true) (.b false),oN (.b true)] (fun γ=>k2 (dT (RA γ)) (k2 (dT (RA γ)) (k2 (dT (RA γ)) (k2 (dT (RA γ)) (k2 (ir (yA8 γ)) (k2 (GD (f:=GU) (z:=0) (fun _=>rfl) (yA8 γ)) (k2 (dT (RA γ)) (k2 (H3 (yA8 γ)) (k2 (dT (RA γ)) (k2 (dT (RA γ)) (k2 (dT (RA γ)) (k2 (dT (RA γ)) (k2 (HW γ) (k2 (dT (RA γ)) (k2 (ix (G0 γ) γ.1.1.2) (k2 (GD (f:=GU) (z:=0) (fun _=>rfl) γ.1.1.2) (k2 (dT (RA γ)) (k2 (H3 γ.1.1.2) (k2 (dT (RA γ)) (k2 (dT (RA γ)) (k2 (dF γ.1.2) (k2 (dF γ.1.2) (k2 (dF γ.1.2) (k2 (dF γ.1.2) (k2 (ir (Gm1 γ)) (k2 (GD (f:=GU) (z:=0) (fun _=>rfl) (Gm1 γ)) (k2 (dF γ.1.2) (k2 (H3 (Gm1 γ)) (k2 (dF γ.1.2) (k2 (dF γ.1.2) (k2 (dF γ.1.2) (k2 (dF γ.1.2) (k2 (HW γ) (k2 (dF γ.1.2) (k2 (ix (G0 γ) γ.2) (k2 (GD (f:=GU) (z:=0) (fun _=>rfl) γ.2) (k2 (dF γ.1.2) (k2 (H3 γ.2) (k2 (dF γ.1.2) (k2 (dT (RA γ)) (k2 (dF γ.1.2) (Gb (dT (RA γ)))))))))))))))))))))))))))))))))))))))))))) <|
  .sp (x28≤x41)
  (.run [bt,oc] (fun γ=>Gb (dT γ.2)) <|
  .leaf (.inr (.inl 15)) [0])
  (.run [bf] (fun γ=>Gb (dF γ.2)) <|
  .gd (GS .i64 ((↑k3:Int)+1)) <| .run [oc,ow,oc] (fun γ=>Gb γ.2) <|
  .leaf (.inl (k3+1)) [0])))
  (.run (oc::oa::oc::oF::oF::oF::oF::oF::oF::oF::oF::oF::oF::oF::oF::oF::(cs 12 [oF,oN (.b false),bf])) (fun γ=>k2 (dF γ.2) (k2 (dF γ.2) (k2 (dF γ.2) (k2 (dF γ.2) (k2 (dF γ.2) (k2 (dF γ.2) (k2 (dF γ.2) (k2 (dF γ.2) (k2 (dF γ.2) (k2 (dF γ.2) (k2 (dF γ.2) (k2 (dF γ.2) (k2 (dF γ.2) (k2 (dF γ.2) (k2 (dF γ.2) (Gb fF)))))))))))))))) <|
  .gd (GS .i64 ((↑k3:Int)+1)) <| .run [oc,ow,oc] (fun γ=>Gb γ.2) <|
  .leaf (.inl (k3+1)) [0])))))
  (.run [bf] (fun γ=>Gb (dF γ.2)) <|
  .leaf (.inr (.inr (()))) [0])
def RM (s_0:GI):Nat→Option (Nat⊕(Int⊕Unit)):=fun s=>(GdJ s_0 s).den
def Gi8 (s_0:GI):Nat→PS:=fun s=>(121,[(1,.ptr 0 0),(3,jI (↑s:Int))],[(bT (GI.enc s_0) 35)])
def Gja:(Int⊕Unit)→Hm:=fun q=>match q with | Sum.inl o=>.ret | Sum.inr (o)=>(.exit 0)
def Gi9 (s_0:GI):(Int⊕Unit)→List (Nat×AV):=fun q=>match q with | Sum.inl o=>[(2,jI o)] | Sum.inr (o)=>[(1,.ptr 0 0)]
def Gi7 (s_0:GI):(Int⊕Unit)→List Hb:=fun _=>[(bT (GI.enc s_0) 35)]
theorem Geu (s_0:GI) {s:Nat} {r:Int⊕Unit} (h:lp (RM s_0) s=some r):DT 1 (.loop (GK Tryz.prog 35 [1,1,1,0,1,0,0])) (Gi8 s_0 s).st (Gja r) (PS.st (121,Gi9 s_0 r,Gi7 s_0 r)):=
 GN.lp_ht 1 400 (Gi8 s_0) Gja (fun q=>(121,Gi9 s_0 q,Gi7 s_0 q)) (GdJ s_0) (by intro k3; kernel_rfl) h
def Ga4 (s_0:GI):Nat→HT (Nat⊕(Unit⊕Unit)) True
 | k4=>.run (cs 4 [oa]) (fun _=>Hg) <|
  .sp ((↑k4:Int)<(↑s_0.Parts.length:Int))
  (.run [bt] (fun γ=>Gb (dT γ.2)) <|
  .bd (s_0.Parts[k4]?) fun x54=>.sp (x54<(0:Int))
  (.run (cs 3 ((oN (.i k4))::(vI x54)::oa::oc::tc::(cs 6 [bt,oc]))) (fun γ=>k2 (ir γ.1.2) (k2 (GD (f:=GU) (z:=0) (fun _=>rfl) γ.1.2) (k2 (H3 γ.1.2) (k2 (dT γ.2) (Gb tT))))) <|
  .leaf (.inr (.inl ())) [0])
  (.run (cs 3 ((oN (.i k4))::(vI x54)::oa::oc::oF::(cs 2 [oN (.i k4),vI x54,oa,oc]))) (fun γ=>k2 (ir γ.1.2) (k2 (GD (f:=GU) (z:=0) (fun _=>rfl) γ.1.2) (k2 (H3 γ.1.2) (k2 (dF γ.2) (k2 (ir γ.1.2) (k2 (GD (f:=GU) (z:=0) (fun _=>rfl) γ.1.2) (Gb (H3 γ.1.2)))))))) <|
  .sp (x54>(10000:Int))
  (.run [bt,oc] (fun γ=>Gb (dT γ.2)) <|
  .leaf (.inr (.inl ())) [0])
  (.run [bf] (fun γ=>Gb (dF γ.2)) <|
  .gd (GS .i64 ((↑k4:Int)+1)) <| .run [oc,ow,oc] (fun γ=>Gb γ.2) <|
  .leaf (.inl (k4+1)) [0])))
  (.run [bf] (fun γ=>Gb (dF γ.2)) <|
  .leaf (.inr (.inr (()))) [0])
def QN (s_0:GI):Nat→Option (Nat⊕(Unit⊕Unit)):=fun s=>(Ga4 s_0 s).den
def Gg8 (s_0:GI):Nat→PS:=fun s=>(121,[(1,.ptr 0 0),(4,jI (↑s:Int))],[(bT (GI.enc s_0) 35)])
def Gha:(Unit⊕Unit)→Hm:=fun q=>match q with | Sum.inl o=>.ret | Sum.inr (o)=>(.exit 2)
def Gg9 (s_0:GI):(Unit⊕Unit)→List (Nat×AV):=fun q=>match q with | Sum.inl o=>[(2,jI 1)] | Sum.inr (o)=>[]
def Gg7 (s_0:GI):(Unit⊕Unit)→List Hb:=fun _=>[(bT (GI.enc s_0) 35)]
theorem GcB (s_0:GI) {s:Nat} {r:Unit⊕Unit} (h:lp (QN s_0) s=some r):DT 1 (.loop (GK Tryz.prog 35 [1,1,1,1,0,1,0,0])) (Gg8 s_0 s).st (Gha r) (PS.st (121,Gg9 s_0 r,Gg7 s_0 r)):=
 GN.lp_ht 1 400 (Gg8 s_0) Gha (fun q=>(121,Gg9 s_0 q,Gg7 s_0 q)) (Ga4 s_0) (by intro k4; kernel_rfl) h
def Gkh (s_0:GI):HT Int True:=.run (cs 5 [oa]) (fun _=>Hg) <|
  .sp ((↑s_0.Up.length:Int)>(8:Int))
  (.run [bt,oc] (fun γ=>Gb (dT γ.2)) <|
  .leaf 3 [])
  (.run [bf] (fun γ=>Gb (dF γ.2)) <|
  .sp (s_0.Period<(1:Int))
  (.run (cs 2 (oa::oc::tc::(cs 22 [bt,oc]))) (fun γ=>k2 (dT γ.2) (Gb tT)) <|
  .leaf 1 [])
  (.sp (s_0.Period>(86400:Int))
  (.run (cs 2 (oa::oc::oF::oc::oa::(cs 2 (tc::(cs 17 [bt,oc]))))) (fun γ=>k2 (dF γ.1.2) (k2 (dT γ.2) (Gb tT))) <|
  .leaf 1 [])
  (.sp ((↑s_0.Down.length:Int)=(↑s_0.Up.length:Int))
  (.gd (GS .i64 ((↑s_0.Up.length:Int)+1)) <| .run (cs 2 (oa::oc::oF::oc::oa::(cs 2 (oF::(cs 5 (oa::(cs 2 (oF::(cs 5 [ow,oa,oc]))))))))) (fun γ=>k2 (dF (G0 γ)) (k2 (dF γ.1.1.2) (k2 (Gx (Gu γ.1.2)) (Gb γ.2)))) <|
  .sp ((↑s_0.Parts.length:Int)=((↑s_0.Up.length:Int)+1))
  (.run [bf,oc] (fun γ=>Gb (Gx (Gu γ.2))) <|
  .bd (lp (RM s_0) (0:Nat)) fun qq=>.cs qq (fun o7=>.run [.fcut 1 .ret [(2,jI o7)] [(bT (GI.enc s_0) 35)] [0] [(1,.any),(3,jI (↑(0:Nat):Int))] [bS]] (fun γ=>k2 (rfl:(jI 0:AV)=jI (↑(0:Nat):Int)) (Gb (Geu s_0 (s:=(0:Nat)) (r:=Sum.inl o7) (eS γ.1.2 γ.2)))) <|
  .leaf o7 [])
  (fun o7=>.run [.fcut 1 (.exit 0) [(1,.ptr 0 0)] [(bT (GI.enc s_0) 35)] [0] [(1,.any),(3,jI (↑(0:Nat):Int))] [bS],oc] (fun γ=>k2 (rfl:(jI 0:AV)=jI (↑(0:Nat):Int)) (Gb (Geu s_0 (s:=(0:Nat)) (r:=Sum.inr (o7)) (eS γ.1.2 γ.2)))) <|
  .bd (lp (QN s_0) (0:Nat)) fun qq=>.cs qq (fun o46=>.run [.fcut 1 .ret [(2,jI 1)] [(bT (GI.enc s_0) 35)] [0] [(1,.any),(4,jI (↑(0:Nat):Int))] [bS]] (fun γ=>k2 (rfl:(jI 0:AV)=jI (↑(0:Nat):Int)) (Gb (GcB s_0 (s:=(0:Nat)) (r:=Sum.inl o46) (eS γ.1.2 γ.2)))) <|
  .leaf 1 [])
  (fun o46=>.run [.fcut 1 (.exit 2) [] [(bT (GI.enc s_0) 35)] [0] [(1,.any),(4,jI (↑(0:Nat):Int))] [bS],oc] (fun γ=>k2 (rfl:(jI 0:AV)=jI (↑(0:Nat):Int)) (Gb (GcB s_0 (s:=(0:Nat)) (r:=Sum.inr (o46)) (eS γ.1.2 γ.2)))) <|
  .leaf 0 [])))
  (.run [bt,oc] (fun γ=>Gb (Gy (Gz γ.2))) <|
  .leaf 1 []))
  (.run (cs 2 (oa::oc::oF::oc::oa::(cs 2 (oF::(cs 5 (oa::(cs 2 (tc::(cs 8 [bt,oc]))))))))) (fun γ=>k2 (dF γ.1.1.2) (k2 (dF γ.1.2) (k2 (Gy (Gz γ.2)) (Gb tT)))) <|
  .leaf 1 []))))
def Ga3 (s_0:GI):Option Int:=(Gkh s_0).den
theorem Gan (s_0:GI) (r:Int) (h:Ga3 s_0=some r):RT 35 [.agg (GI.enc s_0)] (jI r) []:=
 HA.of_ht 400 (Gkh s_0) (fun (r:Int)=>jI r) (fun (r:Int)=>[]) (by kernel_rfl) h
end
set_option maxHeartbeats 4000000
noncomputable section
def Gzr (s:GI) (k:Nat) (u:Int):Option Int:=
 if (s.Down[k]?).getD 0<0∨u≤(s.Down[k]?).getD 0∨u>2147483648 then some 1
 else if 0<k∧(u≤(s.Up[k - 1]?).getD 0∨(s.Down[k]?).getD 0≤(s.Down[k - 1]?).getD 0) then some 15 else none
def GpU (s:GI):Int:=
 if s.Up.length>8 then 3 else if s.Period<1∨s.Period>86400∨s.Down.length≠s.Up.length∨s.Parts.length≠s.Up.length+1 then 1
 else ((GJ (Gzr s) 0 s.Up).or (if s.Parts.any (fun x=>decide (x<0∨x>10000)) then some 1 else none)).getD 0
theorem Gbs (s:GI):Qs s=some (GpU s):=by
 simp only [Qs,QW,dA]
 unfold GpU
 by_cases h8:s.Up.length>8
 ·rw [if_pos (by omega),if_pos h8]
 rw [if_neg (by omega),if_neg h8]
 have i0:GS .i64 ((s.Up.length:Int)+1):=Mh (by omega) (by omega)
 by_cases hd:s.Down.length=s.Up.length∧s.Parts.length=s.Up.length+1
 rotate_left
 ·simp only [i0,if_true]; grind
 have hu:Sm s.Up:=by show _≤_; omega
 have hp:Sm s.Parts:=by show _≤_; omega
 have k1:lp (Hx s) 0=some (HQ (GJ (Gzr s) 0 s.Up)):=by
  refine GP (fun k x hx=>?_) ?_
  ·obtain ⟨hk,i1,i2,hkl,h1,h2⟩:=rd hu hx
   have h3:s.Down[k]?=some s.Down[k]:=List.getElem?_eq_getElem (by omega)
   have h4:s.Down[k - 1]?=some s.Down[k - 1]:=List.getElem?_eq_getElem (by omega)
   simp only [Hx,J9,dA,hx,Hd,h2,h1,h3,h4,i1,i2,if_true,hkl,Gzr,Option.getD_some]
   clear i1 i2 hu hp i0
   grind [K0]
  ·simp only [Hx,J9,d3,d6,d1]
   rw [if_neg (by omega)]
 have k2:lp (Ht s) 0=some (HQ (if s.Parts.any (fun x=>decide (x<0∨x>10000)) then some () else none)):=by
  rw [← Hq s.Parts 0]
  refine GP (fun k x hx=>?_) ?_
  ·obtain ⟨hk,i1,i2,hkl,h1,h2⟩:=rd hp hx
   simp only [Ht,JI,dA,hx,Hd,i1,if_true,hkl]
   clear i1 i2 hu hp i0
   grind [K0]
  ·simp only [Ht,JI,d3,d6,d1]
   rw [if_neg (by omega)]
 simp only [k1,k2,i0,if_true,Hd]
 clear i0 hu hp k1 k2
 cases GJ (Gzr s) 0 s.Up <;> rcases Hk (s.Parts.any fun x=>decide (x<0∨x>10000)) with hh | hh <;> simp only [hh,HQ,eN,eM,Hd,if_true,if_false,Bool.false_eq_true,Option.some_or,Option.none_or,Option.getD_some,Option.getD_none] <;> grind
theorem Gpg (s:GI):Ga3 s=some (GpU s):=by
 rw [← Gbs]
 simp only [Qs,QW,Ga3,Gkh,dA]
 have e1:RM s=Hx s:=by
  funext k
  simp only [Hx,J9,RM,GdJ,dA]
 have e2:QN s=Ht s:=by
  funext k
  simp only [Ht,JI,QN,Ga4,dA]
 rw [e1,e2]
end
end Go.Proofs.YtdifanfcaemokaaGreatDoor.Av
